/- The environment: Check of the package, walked. No condition. -/
import Derived.Test.YtonnlcjkgpahoaaEv1
namespace Go.Proofs.Ytonnlcjkgpahoaa
open Go.RowKit

theorem u32_get {l : List Int} {k : Nat} {x : Int} (h : l[k]? = some x) : (l.map (Value.int .u32))[k]? = some (.int .u32 x) := by simp [h]
theorem bool_get {l : List Bool} {k : Nat} {x : Bool} (h : l[k]? = some x) : (l.map Value.bool)[k]? = some (.bool x) := by simp [h]
/-- an element of a slice that is not empty -/
theorem ns_at {k : IntKind} {w : World} {oa : Option Addr} {n c : Nat} {l : List Int} (h : Ns k w (.slice oa n c) l) (hl : 0 < l.length) : ∃ b o, oa = some ⟨b, o, none⟩ ∧ ∀ j x, l[j]? = some x → ∀ w' [Grows w w'], w'.cell? ⟨b, o + j, none⟩ = some (.int k x) := by
  cases oa with
  | none =>
    rcases h.1.2.2 with ⟨_, h0⟩ | ⟨_, _, h0, _⟩
    · omega
    · simp at h0
  | some ad =>
    obtain ⟨ea, _, ca⟩ := h.1.at hl
    obtain ⟨ab, ao, asp⟩ := ad
    simp only [Addr.mk.injEq, true_and] at ea
    subst ea
    exact ⟨ab, ao, rfl, fun j x hj => alw (ca j _ (by simp [hj]))⟩
theorem bs_at {w : World} {oa : Option Addr} {n c : Nat} {l : List Bool} (h : Bs w (.slice oa n c) l) (hl : 0 < l.length) : ∃ b o, oa = some ⟨b, o, none⟩ ∧ ∀ j x, l[j]? = some x → ∀ w' [Grows w w'], w'.cell? ⟨b, o + j, none⟩ = some (.bool x) := by
  cases oa with
  | none =>
    rcases h.1.2.2 with ⟨_, h0⟩ | ⟨_, _, h0, _⟩
    · omega
    · simp at h0
  | some ad =>
    obtain ⟨ea, _, ca⟩ := h.1.at hl
    obtain ⟨ab, ao, asp⟩ := ad
    simp only [Addr.mk.injEq, true_and] at ea
    subst ea
    exact ⟨ab, ao, rfl, fun j x hj => alw (ca j _ (by simp [hj]))⟩
theorem ns_slice {k : IntKind} {w : World} {v : Value} {l : List Int} (h : Ns k w v l) : ∃ oa c, v = .slice oa l.length c := by
  obtain ⟨oa, c, rfl, _⟩ := h.1.slice; exact ⟨oa, c, rfl⟩
theorem bs_slice {w : World} {v : Value} {l : List Bool} (h : Bs w v l) : ∃ oa c, v = .slice oa l.length c := by
  obtain ⟨oa, c, rfl, _⟩ := h.1.slice; exact ⟨oa, c, rfl⟩
/-- a row of a table of values -/
theorem rows_at {w : World} {b o n c : Nat} {m : List (List Int)} {oa : Option Addr} (h : Rows w 1 RowR (.slice oa n c) m) (k : Nat) (l : List Int) (hk : m[k]? = some l) (hoa : oa = some ⟨b, o, none⟩) :
    ∃ la lc, (∀ w' [Grows w w'], w'.cell? ⟨b, o + k, none⟩ = some (.slice la l.length lc)) ∧ Ns .u32 w (.slice la l.length lc) l ∧ ∀ x ∈ l, U32 x := by
  have hlt := (List.getElem?_eq_some_iff.1 hk).1
  obtain ⟨b', o', hb, hn, hc⟩ := Rows.at h (by omega)
  rw [hb] at hoa
  simp only [Option.some.injEq, Addr.mk.injEq, and_true] at hoa
  obtain ⟨rfl, rfl⟩ := hoa
  obtain ⟨cs, _, ⟨v, rfl, h1, h2⟩, hcs⟩ := hc k _ hk
  obtain ⟨la, lc, rfl⟩ := ns_slice h1
  refine ⟨la, lc, ?_, h1, h2⟩
  have := hcs 0 _ rfl
  rw [Nat.mul_one, Nat.add_zero] at this
  exact alw this

set_option maxRecDepth 8000 in
theorem nz_any (x : Int) (W : World) : Calls Try.prog 110 #[.int .u32 x] W fun e W' => e = .returned (.bool (x != 0)) ∧ W = W' := by
  go_enter Try.func110, Try.ntmps110
  go_wp2
  go_ret
  exact ⟨rfl, rfl⟩
set_option maxRecDepth 8000 in
theorem indexNz_any {W : World} {v : Value} {l : List Int} (h : Ns .u32 W v l) :
    Calls Try.prog 118 #[v, .func (.func 110) #[] #[]] W fun e W' => (∃ r : Int, e = .returned (.int .i64 r) ∧ (decide (0 ≤ r) = !(Pg.zeroB l))) ∧ W = W' := by
  obtain ⟨oa, c, rfl⟩ := ns_slice h
  have hm := h.2
  unfold maxLen at hm
  have H := Lib.hid h
  clear h
  go_enter Try.func118, Try.ntmps118
  go_wp2_with fail
  go_loop [8] (fun i => ∃ k : Nat, k ≤ l.length ∧ i = .int .i64 k ∧ Hid (∀ j, j < k → (l.getD j 0 == 0) = true)) (fun i => l.length - (intOf i).toNat)
  case atStart => exact ⟨0, Nat.zero_le _, rfl, Lib.hid (by intro j hj; omega)⟩
  case round =>
    obtain ⟨k, hk, rfl, HZ⟩ := hrel
    by_cases hlt : k < l.length
    · obtain ⟨x, hx⟩ : ∃ x, l[k]? = some x := ⟨_, List.getElem?_eq_getElem hlt⟩
      obtain ⟨b, o, rfl, hc⟩ := ns_at H.out (by omega)
      have f1 := hc k x hx
      have hg : l.getD k 0 = x := by rw [List.getD_eq_getElem?_getD, hx]; rfl
      have HG := Lib.hid hg
      clear hc hx hg
      by_cases h0 : x = 0
      · have h0b : (x != 0) = false := by simp [h0]
        have H0 := Lib.hid h0
        clear h0
        go_wp2_with (go_at_call 110; refine (nz_any _ _).mono ?_; rintro e w1 ⟨rfl, rfl⟩; rw [h0b])
        go_round
        case rel =>
          refine ⟨k + 1, by omega, by go_num, Lib.hid (fun j hj => ?_)⟩
          rcases Nat.lt_or_ge j k with h1 | h1
          · exact HZ.out j h1
          · obtain rfl : j = k := by omega
            rw [HG.out, H0.out]; rfl
        case measure => simp [intOf]; omega
      · have h0b : (x != 0) = true := by simp [h0]
        have H0 := Lib.hid h0
        clear h0
        go_wp2_with (go_at_call 110; refine (nz_any _ _).mono ?_; rintro e w1 ⟨rfl, rfl⟩; rw [h0b])
        go_ret
        refine ⟨⟨_, rfl, ?_⟩, rfl⟩
        have hz : Pg.zeroB l = false := Pg.all_no hlt (by rw [HG.out]; simpa using H0.out)
        rw [hz]; simp
    · obtain rfl : k = l.length := by omega
      go_wp2_with fail
      go_ret
      refine ⟨⟨_, rfl, ?_⟩, rfl⟩
      have hz : Pg.zeroB l = true := Pg.all_yes HZ.out
      rw [hz]; decide
set_option maxRecDepth 8000 in
theorem containsNz_any {W : World} {v : Value} {l : List Int} (h : Ns .u32 W v l) :
    Calls Try.prog 109 #[v, .func (.func 110) #[] #[]] W fun e W' => e = .returned (.bool (!(Pg.zeroB l))) ∧ W = W' := by
  go_enter Try.func109, Try.ntmps109
  go_wp2_with fail
  refine (indexNz_any h).mono ?_
  rintro e w1 ⟨⟨r, rfl, hr⟩, rfl⟩
  have HR := Lib.hid hr
  clear hr
  go_wp2_with fail
  go_ret
  exact ⟨ret_bool HR.out, rfl⟩
set_option maxRecDepth 8000 in
theorem zero_any {W : World} {v : Value} {l : List Int} (h : Ns .u32 W v l) :
    Calls Try.prog 98 #[v] W fun e W' => e = .returned (.bool (Pg.zeroB l)) ∧ W = W' := by
  obtain ⟨oa, c, rfl⟩ := ns_slice h
  have H := Lib.hid h
  clear h
  go_enter Try.func98, Try.ntmps98
  go_wp2_with fail
  refine (containsNz_any H.out).mono ?_
  rintro e w1 ⟨rfl, rfl⟩
  go_wp2_with fail
  go_ret
  exact ⟨by first | rfl | exact ret_bool (by simp), rfl⟩

set_option maxRecDepth 8000 in
set_option maxHeartbeats 1000000 in
theorem fit_any {W : World} {p : Pg.PV} {P : Pg.Prog} (hp : Pg.IsP W p P) (h : Int) {v : Value} {l : List Int} (hl : Ns .u32 W v l) (hu : ∀ x ∈ l, U32 x) :
    Calls Try.prog 97 #[p.val, .int .i64 h, v] W (Rets W (.bool (Pg.fitB P h l))) := by
  obtain ⟨oa, c, rfl⟩ := ns_slice hl
  have hm := hl.2
  unfold maxLen at hm
  have HL := Lib.hid hl
  have HU := Lib.hid hu
  have HP := Lib.hid hp
  obtain ⟨s, a1, a2, a3, a4, a5, a6, a7, a8, m1, m2, n3, m3, n4, m4, n5, m5, n6, m6, n7, m7, m8, hf⟩ := hp.form
  obtain ⟨rfl, _, _, _, _, _, _⟩ := hf
  have HWD : Hid (∀ w, Ext W w → ∀ f : Int, Calls Try.prog 77 #[.agg #[.string s, .slice a1 P.hs.length m1, .slice a2 P.md.length m2, .slice a3 n3 m3, .slice a4 n4 m4, .slice a5 n5 m5, .slice a6 n6 m6, .slice a7 n7 m7, .slice a8 P.dp.length m8], .agg #[.int .i64 h, .int .i64 f]] w (Rets w (.int .i64 (Pg.wid P h f)))) := Lib.hid (fun w hx f => width_any (HP.out.ext hx) h f)
  dsimp only [Pg.PV.val]
  have bb := alloc_heap W (.cells #[.string s, .slice a1 P.hs.length m1, .slice a2 P.md.length m2, .slice a3 n3 m3, .slice a4 n4 m4, .slice a5 n5 m5, .slice a6 n6 m6, .slice a7 n7 m7, .slice a8 P.dp.length m8] 31)
  have k0 := alw (cell_of (o := 0) bb)
  have k1 := alw (cell_of (o := 1) bb)
  have k2 := alw (cell_of (o := 2) bb)
  have k3 := alw (cell_of (o := 3) bb)
  have k4 := alw (cell_of (o := 4) bb)
  have k5 := alw (cell_of (o := 5) bb)
  have k6 := alw (cell_of (o := 6) bb)
  have k7 := alw (cell_of (o := 7) bb)
  have k8 := alw (cell_of (o := 8) bb)
  clear bb hp hl hu
  go_enter Try.func97, Try.ntmps97
  go_wp2_with fail
  go_loopw [11] (fun i wr => ∃ k : Nat, k ≤ l.length ∧ i = .int .i64 k ∧ Ext (W.alloc (.cells #[.string s, .slice a1 P.hs.length m1, .slice a2 P.md.length m2, .slice a3 n3 m3, .slice a4 n4 m4, .slice a5 n5 m5, .slice a6 n6 m6, .slice a7 n7 m7, .slice a8 P.dp.length m8] 31)) wr ∧ Hid (∀ j, j < k → decide (l.getD j 0 ≤ Bv.mask (Pg.wid P h j)) = true)) (fun i _ => l.length - (intOf i).toNat)
  case atStart => exact ⟨0, Nat.zero_le _, rfl, Ext.refl _, Lib.hid (by intro j hj; omega)⟩
  case round =>
    obtain ⟨k, hk, rfl, hx, HZ⟩ := hrel
    have sx := Step.mk hx
    by_cases hlt : k < l.length
    · obtain ⟨x, hxk⟩ : ∃ x, l[k]? = some x := ⟨_, List.getElem?_eq_getElem hlt⟩
      obtain ⟨b, o, rfl, hc⟩ := ns_at HL.out (by omega)
      have f1 := hc k x hxk
      have hg : l.getD k 0 = x := by rw [List.getD_eq_getElem?_getD, hxk]; rfl
      have HG := Lib.hid hg
      clear hc hxk hg
      go_wp2_with fail
      refine (HWD.out _ (grows (a := W)) _).mono ?_
      rintro e w1 ⟨rfl, x1⟩
      have s1 := Step.mk x1
      go_wp2_with fail
      refine (mask_any _ w1).mono ?_
      rintro e w2 ⟨rfl, x2⟩
      have s2 := Step.mk x2
      obtain ⟨y, hy⟩ : ∃ y, y = Bv.mask (Pg.wid P h k) := ⟨_, rfl⟩
      rw [← hy]
      have HY := Lib.hid hy
      clear hy
      by_cases hle : x ≤ y
      · go_wp2_with fail
        go_roundw
        case rel =>
          refine ⟨k + 1, by omega, by go_num, by exact (hx.trans x1).trans x2, Lib.hid (fun j hj => ?_)⟩
          rcases Nat.lt_or_ge j k with h1 | h1
          · exact HZ.out j h1
          · obtain rfl : j = k := by omega
            rw [HG.out, ← HY.out]; simpa using hle
        case measure => simp [intOf]; omega
      · have hgt : y < x := by omega
        go_wp2_with fail
        go_ret
        exact ⟨ret_bool (by rw [show Pg.fitB P h l = false from Pg.all_no hlt (by rw [HG.out, ← HY.out]; simp; omega)]), grows⟩
    · obtain rfl : k = l.length := by omega
      go_wp2_with fail
      go_ret
      exact ⟨ret_bool (by rw [show Pg.fitB P h l = true from Pg.all_yes HZ.out]), grows⟩
end Go.Proofs.Ytonnlcjkgpahoaa
