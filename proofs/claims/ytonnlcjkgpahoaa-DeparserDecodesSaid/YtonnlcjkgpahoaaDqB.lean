/- The deparser: Check, Emit, Size and their references, the example of the chapter, walked. No condition. -/
import Derived.Test.YtonnlcjkgpahoaaDqA
import Derived.Test.YtonnlcjkgpahoaaHdL3
import Derived.Test.YtonnlcjkgpahoaaHd6
import Derived.Test.YtonnlcjkgpahoaaHd8
import Derived.Deep.RegionHeld3
import Derived.Deep.DeepCutAuto
import Derived.Deep.Cut
import Derived.Deep.CutRange
import Derived.Test.YtonnlcjkgpahoaaHdW
namespace Go.Proofs.Ytonnlcjkgpahoaa
open Go.RowKit

namespace Dp
/-- the k-th of the list is no header (8), or stands in the list before (7) -/
def bad (P : Pg.Prog) (k : Nat) : Int := if P.dp.getD k 0 < 0 ∨ (P.hs.length : Int) ≤ P.dp.getD k 0 then 8 else if (P.dp.take k).any (· == P.dp.getD k 0) then 7 else 0
def chk (P : Pg.Prog) : Int × Int :=
  if 8 < P.dp.length then (-1, 12) else match (List.range P.dp.length).find? (fun k => bad P k != 0) with
    | some k => ((k : Int), bad P k)
    | none => (0, 0)
theorem chk_many {P : Pg.Prog} (h : 8 < P.dp.length) : chk P = (-1, 12) := by unfold chk; rw [if_pos h]
theorem chk_some {P : Pg.Prog} {k : Nat} {x : Int} (h : ¬ 8 < P.dp.length) (hk : k < P.dp.length) (h0 : ∀ j, j < k → bad P j = 0) (hb : bad P k = x) (hx : x ≠ 0) : chk P = ((k : Int), x) := by
  have hf : (List.range P.dp.length).find? (fun k => bad P k != 0) = some k := by
    rw [List.find?_range_eq_some]
    refine ⟨by simp [hb, hx], List.mem_range.2 hk, fun j hj => by simp [h0 j hj]⟩
  unfold chk; rw [if_neg h, hf]; simp [hb]
theorem chk_none {P : Pg.Prog} (h : ¬ 8 < P.dp.length) (h0 : ∀ j, j < P.dp.length → bad P j = 0) : chk P = (0, 0) := by
  have hf : (List.range P.dp.length).find? (fun k => bad P k != 0) = none := by
    rw [List.find?_range_eq_none]
    intro j hj; simp [h0 j hj]
  unfold chk; rw [if_neg h, hf]
theorem chk_ok {P : Pg.Prog} (h : (chk P).2 = 0) : P.dp.length ≤ 8 ∧ ∀ j, j < P.dp.length → bad P j = 0 := by
  unfold chk at h
  by_cases h8 : 8 < P.dp.length
  · rw [if_pos h8] at h; simp at h
  · rw [if_neg h8] at h
    refine ⟨by omega, fun j hj => ?_⟩
    cases hf : (List.range P.dp.length).find? (fun k => bad P k != 0) with
    | some k =>
      rw [hf] at h
      have := List.find?_some hf
      simp at this h
      exact absurd h this
    | none =>
      rw [List.find?_range_eq_none] at hf
      simpa using hf j hj
theorem bad_idx {P : Pg.Prog} {k : Nat} {x : Int} (hk : P.dp[k]? = some x) (h : x < 0 ∨ (P.hs.length : Int) ≤ x) : bad P k = 8 := by
  unfold bad; rw [List.getD_eq_getElem?_getD, hk]; exact if_pos h
theorem bad_dup {P : Pg.Prog} {k : Nat} {x : Int} (hk : P.dp[k]? = some x) (h0 : 0 ≤ x) (h1 : x < P.hs.length) (h : (P.dp.take k).any (· == x) = true) : bad P k = 7 := by
  unfold bad; rw [List.getD_eq_getElem?_getD, hk]
  rw [if_neg (by simp; omega), if_pos (by simpa using h)]
theorem bad_no {P : Pg.Prog} {k : Nat} {x : Int} (hk : P.dp[k]? = some x) (h0 : 0 ≤ x) (h1 : x < P.hs.length) (h : (P.dp.take k).any (· == x) = false) : bad P k = 0 := by
  unfold bad; rw [List.getD_eq_getElem?_getD, hk]
  rw [if_neg (by simp; omega)]
  show (if (P.dp.take k).any (· == x) = true then (7 : Int) else 0) = 0
  rw [h]; rfl
theorem bad_zero {P : Pg.Prog} {k : Nat} (h : bad P k = 0) : 0 ≤ P.dp.getD k 0 ∧ P.dp.getD k 0 < P.hs.length := by
  unfold bad at h
  by_cases h1 : P.dp.getD k 0 < 0 ∨ (P.hs.length : Int) ≤ P.dp.getD k 0
  · rw [if_pos h1] at h; simp at h
  · omega
theorem any_take_no {l : List Int} {k : Nat} {x : Int} (h : ∀ j, j < k → (l.getD j 0 == x) = false) (hk : k ≤ l.length) : (l.take k).any (· == x) = false := by
  rw [← Bool.not_eq_true, List.any_eq_true]
  rintro ⟨y, hy, he⟩
  obtain ⟨j, hj, rfl⟩ := List.mem_iff_getElem.1 hy
  have hjk : j < k := by simp at hj; omega
  have := h j hjk
  rw [List.getD_eq_getElem?_getD, List.getElem?_eq_getElem (by omega)] at this
  simp at he this
  exact this he
theorem any_take_yes {l : List Int} {k j : Nat} {x : Int} (h : (l.getD j 0 == x) = true) (hj : j < k) (hk : k ≤ l.length) : (l.take k).any (· == x) = true := by
  rw [List.any_eq_true]
  refine ⟨l[j]'(by omega), ?_, ?_⟩
  · exact List.mem_take_iff_getElem.2 ⟨j, by omega, rfl⟩
  · rw [List.getD_eq_getElem?_getD, List.getElem?_eq_getElem (by omega)] at h
    simpa using h
end Dp

/-- the front of a list -/
theorem ns_take {k : IntKind} {w : World} {oa : Option Addr} {n c j : Nat} {l : List Int} (h : Ns k w (.slice oa n c) l) (hj : j ≤ l.length) (hl : 0 < l.length) : Ns k w (.slice oa j c) (l.take j) := by
  obtain ⟨⟨h1, h2, h3⟩, h4⟩ := h
  have hlen : (l.take j).length = j := by rw [List.length_take]; omega
  refine ⟨⟨by simp, fun u hu => h2 u ?_, ?_⟩, by omega⟩
  · rw [List.map_take] at hu; exact List.mem_of_mem_take hu
  · rcases h3 with ⟨_, h0⟩ | ⟨ad, c', he, hc⟩
    · omega
    · simp only [Value.slice.injEq] at he
      obtain ⟨rfl, _, rfl⟩ := he
      refine .inr ⟨ad, c, by rw [hlen], fun i u hi => hc i u ?_⟩
      rw [List.map_take, List.getElem?_take] at hi
      split at hi
      · exact hi
      · cases hi
set_option maxRecDepth 8000 in
theorem indexI_any {W : World} {v : Value} {l : List Int} (x : Int) (h : Ns .i64 W v l) :
    Calls Try.prog 68 #[v, .int .i64 x] W fun e W' => (∃ r : Int, e = .returned (.int .i64 r) ∧ (decide (0 ≤ r) = l.any (· == x))) ∧ W = W' := by
  obtain ⟨oa, c, rfl⟩ := ns_slice h
  have hm := h.2
  unfold maxLen at hm
  have H := Lib.hid h
  clear h
  go_enter Try.func68, Try.ntmps68
  go_wp2_with fail
  go_loop [8] (fun i => ∃ k : Nat, k ≤ l.length ∧ i = .int .i64 k ∧ Hid (∀ j, j < k → (l.getD j 0 == x) = false)) (fun i => l.length - (intOf i).toNat)
  case atStart => exact ⟨0, Nat.zero_le _, rfl, Lib.hid (by intro j hj; omega)⟩
  case round =>
    obtain ⟨k, hk, rfl, HZ⟩ := hrel
    by_cases hlt : k < l.length
    · obtain ⟨y, hy⟩ : ∃ x, l[k]? = some x := ⟨_, List.getElem?_eq_getElem hlt⟩
      obtain ⟨b, o, rfl, hc⟩ := ns_at H.out (by omega)
      have f1 := hc k y hy
      have hg : l.getD k 0 = y := by rw [List.getD_eq_getElem?_getD, hy]; rfl
      have HG := Lib.hid hg
      clear hc hy hg
      by_cases h0 : x = y
      · have h0b : (x == y) = true := by simp [h0]
        have H0 := Lib.hid h0
        clear h0
        go_wp2_with fail
        go_ret
        refine ⟨⟨_, rfl, ?_⟩, rfl⟩
        have hz : l.any (· == x) = true := by
          have := Dp.any_take_yes (l := l) (k := l.length) (j := k) (x := x) (by rw [HG.out, H0.out]; simp) hlt (Nat.le_refl _)
          rwa [List.take_length] at this
        rw [hz]; simp
      · have h0b : (x == y) = false := by simp [h0]
        have H0 := Lib.hid h0
        clear h0
        go_wp2_with fail
        go_round
        case rel =>
          refine ⟨k + 1, by omega, by go_num, Lib.hid (fun j hj => ?_)⟩
          rcases Nat.lt_or_ge j k with h1 | h1
          · exact HZ.out j h1
          · obtain rfl : j = k := by omega
            rw [HG.out]; simpa using fun h => H0.out h.symm
        case measure => simp [intOf]; omega
    · obtain rfl : k = l.length := by omega
      go_wp2_with fail
      go_ret
      refine ⟨⟨_, rfl, ?_⟩, rfl⟩
      have hz : l.any (· == x) = false := by
        have := Dp.any_take_no (l := l) (k := l.length) (x := x) HZ.out (Nat.le_refl _)
        rwa [List.take_length] at this
      rw [hz]; decide
set_option maxRecDepth 8000 in
theorem containsI_any {W : World} {v : Value} {l : List Int} (x : Int) (h : Ns .i64 W v l) :
    Calls Try.prog 43 #[v, .int .i64 x] W fun e W' => e = .returned (.bool (l.any (· == x))) ∧ W = W' := by
  obtain ⟨oa, c, rfl⟩ := ns_slice h
  have H := Lib.hid h
  clear h
  go_enter Try.func43, Try.ntmps43
  go_wp2_with fail
  refine (indexI_any x H.out).mono ?_
  rintro e w1 ⟨⟨r, rfl, hr⟩, rfl⟩
  have HR := Lib.hid hr
  clear hr
  go_wp2_with fail
  go_ret
  exact ⟨ret_bool HR.out, rfl⟩
end Go.Proofs.Ytonnlcjkgpahoaa
namespace Go.Proofs.Ytonnlcjkgpahoaa
open Go.RowKit

/-- the list of the deparser has the room that it says -/
def Pg.CapP (p : Pg.PV) : Prop := ∃ a n c, p.c8 = .slice a n c ∧ n ≤ c ∧ c ≤ 9223372036854775807
def Dp.chkV (P : Pg.Prog) : Value := .tuple #[.int .i64 (Dp.chk P).1, .int .i64 (Dp.chk P).2]
theorem Dp.chkV_of {P : Pg.Prog} {x y : Int} (h : Dp.chk P = (x, y)) : Dp.chkV P = .tuple #[.int .i64 x, .int .i64 y] := by unfold Dp.chkV; rw [h]

set_option maxRecDepth 8000 in
set_option maxHeartbeats 2000000 in
theorem dcheck_any {W : World} {p : Pg.PV} {P : Pg.Prog} (hp : Pg.IsP W p P) (hc : Pg.CapP p) :
    Calls Try.prog 14 #[p.val] W (Rets W (Dp.chkV P)) := by
  have HP := Lib.hid hp
  obtain ⟨s, a1, a2, a3, a4, a5, a6, a7, a8, m1, m2, n3, m3, n4, m4, n5, m5, n6, m6, n7, m7, m8, hf⟩ := hp.form
  obtain ⟨rfl, hhs, hmd, hdp, hl1, hl2, hl8⟩ := hf
  obtain ⟨ca, cn, cc, hce, hc1, hc2⟩ := hc
  simp only [Value.slice.injEq] at hce
  obtain ⟨rfl, rfl, rfl⟩ := hce
  dsimp only [Pg.PV.val]
  have bb := alloc_heap W (.cells #[.string s, .slice a1 P.hs.length m1, .slice a2 P.md.length m2, .slice a3 n3 m3, .slice a4 n4 m4, .slice a5 n5 m5, .slice a6 n6 m6, .slice a7 n7 m7, .slice a8 P.dp.length m8] 31)
  have k1 := alw (cell_of (o := 1) bb)
  have k8 := alw (cell_of (o := 8) bb)
  have HDP := Lib.hid hdp
  clear bb hp hhs hmd hdp
  by_cases h8 : P.dp.length ≤ 8
  · have H8 : Hid (¬ 8 < P.dp.length) := Lib.hid (by omega)
    go_enter Try.func14, Try.ntmps14
    go_wp2_with fail
    go_loopw [13] (fun i wr => ∃ k : Nat, k ≤ P.dp.length ∧ i = .int .i64 k ∧ wr = (W.alloc (.cells #[.string s, .slice a1 P.hs.length m1, .slice a2 P.md.length m2, .slice a3 n3 m3, .slice a4 n4 m4, .slice a5 n5 m5, .slice a6 n6 m6, .slice a7 n7 m7, .slice a8 P.dp.length m8] 31)) ∧ Hid (∀ j, j < k → Dp.bad P j = 0)) (fun i _ => P.dp.length - (intOf i).toNat)
    case atStart => exact ⟨0, Nat.zero_le _, rfl, rfl, Lib.hid (by intro j hj; omega)⟩
    case round =>
      obtain ⟨k, hk, rfl, rfl, HZ⟩ := hrel
      by_cases hlt : k < P.dp.length
      · obtain ⟨x, hxk⟩ : ∃ x, P.dp[k]? = some x := ⟨_, List.getElem?_eq_getElem hlt⟩
        obtain ⟨b, o, hoa, hec⟩ := ns_at HDP.out (by omega)
        subst hoa
        have e0 := hec k x hxk
        have HT : Hid (Ns .i64 W (.slice (some ⟨b, o, none⟩) k m8) (P.dp.take k)) := Lib.hid (ns_take HDP.out hk (by omega))
        have hkc : k ≤ m8 := by omega
        by_cases x0 : x < 0
        · have HR := Lib.hid (Dp.chkV_of (Dp.chk_some H8.out hlt HZ.out (Dp.bad_idx hxk (.inl x0)) (by decide)))
          clear hxk hec
          go_wp2_with fail
          go_ret2
          exact ⟨by rw [HR.out]; rfl, grows⟩
        · by_cases x1 : x < P.hs.length
          · cases hd : (P.dp.take k).any (· == x)
            · have HB := Lib.hid (Dp.bad_no hxk (by omega) x1 hd)
              have HD := Lib.hid hd
              clear hxk hec hd
              go_wp2_with (go_at_call 43; refine (containsI_any x (Ns.ext HT.out grows)).mono ?_; rintro e w1 ⟨rfl, rfl⟩; rw [HD.out])
              go_roundw
              case rel =>
                refine ⟨k + 1, by omega, by go_num, (by first | exact rfl | trivial), Lib.hid (fun j hj => ?_)⟩
                rcases Nat.lt_or_ge j k with h1 | h1
                · exact HZ.out j h1
                · obtain rfl : j = k := by omega
                  exact HB.out
              case measure => simp [intOf]; omega
            · have HR := Lib.hid (Dp.chkV_of (Dp.chk_some H8.out hlt HZ.out (Dp.bad_dup hxk (by omega) x1 hd) (by decide)))
              have HD := Lib.hid hd
              clear hxk hec hd
              go_wp2_with (go_at_call 43; refine (containsI_any x (Ns.ext HT.out grows)).mono ?_; rintro e w1 ⟨rfl, rfl⟩; rw [HD.out])
              go_ret2
              exact ⟨by rw [HR.out]; rfl, grows⟩
          · have x2 : (P.hs.length : Int) ≤ x := by omega
            have dx2 : decide ((P.hs.length : Int) ≤ x) = true := by simp; omega
            have HR := Lib.hid (Dp.chkV_of (Dp.chk_some H8.out hlt HZ.out (Dp.bad_idx hxk (.inr x2)) (by decide)))
            clear hxk hec
            go_wp2_with fail
            go_ret2
            exact ⟨by rw [HR.out]; rfl, grows⟩
      · obtain rfl : k = P.dp.length := by omega
        have HR := Lib.hid (Dp.chkV_of (Dp.chk_none H8.out HZ.out))
        go_wp2_with fail
        go_ret2
        exact ⟨by rw [HR.out]; rfl, grows⟩
  · have HR := Lib.hid (Dp.chkV_of (P := P) (Dp.chk_many (by omega)))
    go_enter Try.func14, Try.ntmps14
    go_wp2_with fail
    go_ret2
    exact ⟨by rw [HR.out]; rfl, grows⟩
set_option maxRecDepth 8000 in
set_option maxHeartbeats 4000000 in
theorem rdcheck_any {W : World} {p : Pg.PV} {P : Pg.Prog} (hp : Pg.IsP W p P) (hc : Pg.CapP p) :
    Calls Try.prog 15 #[p.val] W (Rets W (Dp.chkV P)) := by
  have HP := Lib.hid hp
  obtain ⟨s, a1, a2, a3, a4, a5, a6, a7, a8, m1, m2, n3, m3, n4, m4, n5, m5, n6, m6, n7, m7, m8, hf⟩ := hp.form
  obtain ⟨rfl, hhs, hmd, hdp, hl1, hl2, hl8⟩ := hf
  obtain ⟨ca, cn, cc, hce, hc1, hc2⟩ := hc
  simp only [Value.slice.injEq] at hce
  obtain ⟨rfl, rfl, rfl⟩ := hce
  dsimp only [Pg.PV.val]
  have bb := alloc_heap W (.cells #[.string s, .slice a1 P.hs.length m1, .slice a2 P.md.length m2, .slice a3 n3 m3, .slice a4 n4 m4, .slice a5 n5 m5, .slice a6 n6 m6, .slice a7 n7 m7, .slice a8 P.dp.length m8] 31)
  have k1 := alw (cell_of (o := 1) bb)
  have k8 := alw (cell_of (o := 8) bb)
  have HDP := Lib.hid hdp
  clear bb hp hhs hmd hdp
  by_cases h8 : P.dp.length ≤ 8
  · have H8 : Hid (¬ 8 < P.dp.length) := Lib.hid (by omega)
    go_enter Try.func15, Try.ntmps15
    go_wp2_with fail
    go_loopw [4] (fun i wr => ∃ k : Nat, k ≤ P.dp.length ∧ i = .int .i64 k ∧ Ext (W.alloc (.cells #[.string s, .slice a1 P.hs.length m1, .slice a2 P.md.length m2, .slice a3 n3 m3, .slice a4 n4 m4, .slice a5 n5 m5, .slice a6 n6 m6, .slice a7 n7 m7, .slice a8 P.dp.length m8] 31)) wr ∧ Hid (∀ j, j < k → Dp.bad P j = 0)) (fun i _ => P.dp.length - (intOf i).toNat)
    case atStart => exact ⟨0, Nat.zero_le _, rfl, Ext.refl _, Lib.hid (by intro j hj; omega)⟩
    case round =>
      obtain ⟨k, hk, rfl, hx, HZ⟩ := hrel
      obtain ⟨wo, rfl⟩ : ∃ wo : World, wo = wr := ⟨_, rfl⟩
      have sx := Step.mk hx
      by_cases hlt : k < P.dp.length
      · obtain ⟨x, hxk⟩ : ∃ x, P.dp[k]? = some x := ⟨_, List.getElem?_eq_getElem hlt⟩
        obtain ⟨b, o, hoa, hec⟩ := ns_at HDP.out (by omega)
        subst hoa
        have e0 := hec k x hxk
        by_cases x0 : x < 0
        · have HR := Lib.hid (Dp.chkV_of (Dp.chk_some H8.out hlt HZ.out (Dp.bad_idx hxk (.inl x0)) (by decide)))
          clear hxk hec
          go_wp2_with fail
          refine wp_region_later (W := wo) (by kernel_rfl) (by kernel_rfl) (Ext.refl _) ?_
          repeat (go_big_quiet_step (fail))
          refine wpQuiet_nil ?_
          intro w2 hx2
          have s2 := Step.mk hx2
          go_wp2_with fail
          go_ret2
          exact ⟨by rw [HR.out]; rfl, grows⟩
        · have x0' : 0 ≤ x := by omega
          have dx0 : decide (x < 0) = false := by simp; omega
          by_cases x1 : x < P.hs.length
          · have HXK := Lib.hid hxk
            have dx1 : decide ((P.hs.length : Int) ≤ x) = false := by simp; omega
            have HEC := Lib.hid hec
            clear hxk hec
            go_wp2_with fail
            refine wp_region_later (W := wo) (by kernel_rfl) (by kernel_rfl) (Ext.refl _) ?_
            repeat (go_big_quiet_step (fail))
            refine wpQuiet_nil ?_
            intro w2 hx2
            have s2 := Step.mk hx2
            go_wp2_with fail
            go_loopw [5] (fun i wr => ∃ f : Nat, f ≤ k ∧ i = .int .i64 f ∧ Ext w2 wr ∧ Hid (∀ j, j < f → (P.dp.getD j 0 == x) = false)) (fun i _ => k - (intOf i).toNat)
            case atStart => exact ⟨0, Nat.zero_le _, rfl, Ext.refl _, Lib.hid (by intro j hj; omega)⟩
            case round =>
              obtain ⟨f, hf, rfl, hy, HZ2⟩ := hrel
              obtain ⟨wo2, rfl⟩ : ∃ wo2 : World, wo2 = wr := ⟨_, rfl⟩
              have sy := Step.mk hy
              by_cases hfk : f < k
              · obtain ⟨y, hyk⟩ : ∃ y, P.dp[f]? = some y := ⟨_, List.getElem?_eq_getElem (by omega)⟩
                have e1 := HEC.out f y hyk
                have hg : P.dp.getD f 0 = y := by rw [List.getD_eq_getElem?_getD, hyk]; rfl
                have HG := Lib.hid hg
                have hfl : f < P.dp.length := by omega
                clear hyk hg
                by_cases he : y = x
                · have heb : (y == x) = true := by simp [he]
                  have HR := Lib.hid (Dp.chkV_of (Dp.chk_some H8.out hlt HZ.out (Dp.bad_dup HXK.out x0' x1 (Dp.any_take_yes (j := f) (by rw [HG.out]; exact heb) hfk hk)) (by decide)))
                  subst he
                  go_wp2_with fail
                  refine wp_region_later (W := wo2) (by kernel_rfl) (by kernel_rfl) (Ext.refl _) ?_
                  repeat (go_big_quiet_step (fail))
                  refine wpQuiet_nil ?_
                  intro w3 hx3
                  have s3 := Step.mk hx3
                  go_wp2_with fail
                  go_ret2
                  exact ⟨by rw [HR.out]; rfl, grows⟩
                · have heb : (y == x) = false := by simp [he]
                  have HEB := Lib.hid heb
                  clear he
                  go_wp2_with fail
                  refine wp_region_later (W := wo2) (by kernel_rfl) (by kernel_rfl) (Ext.refl _) ?_
                  repeat (go_big_quiet_step (fail))
                  refine wpQuiet_nil ?_
                  intro w3 hx3
                  have s3 := Step.mk hx3
                  go_wp2_with fail
                  go_roundw
                  case rel =>
                    refine ⟨f + 1, by omega, by go_num, by exact hy.trans hx3, Lib.hid (fun j hj => ?_)⟩
                    rcases Nat.lt_or_ge j f with h1 | h1
                    · exact HZ2.out j h1
                    · obtain rfl : j = f := by omega
                      rw [HG.out]; exact HEB.out
                  case measure => simp [intOf]; omega
              · obtain rfl : f = k := by omega
                have HB := Lib.hid (Dp.bad_no HXK.out x0' x1 (Dp.any_take_no HZ2.out hk))
                go_wp2_with fail
                go_roundw
                case rel =>
                  refine ⟨f + 1, by omega, by go_num, by exact (hx.trans hx2).trans hy, Lib.hid (fun j hj => ?_)⟩
                  rcases Nat.lt_or_ge j f with h1 | h1
                  · exact HZ.out j h1
                  · obtain rfl : j = f := by omega
                    exact HB.out
                case measure => simp [intOf]; omega
          · have x2 : (P.hs.length : Int) ≤ x := by omega
            have dx2 : decide ((P.hs.length : Int) ≤ x) = true := by simp; omega
            have HR := Lib.hid (Dp.chkV_of (Dp.chk_some H8.out hlt HZ.out (Dp.bad_idx hxk (.inr x2)) (by decide)))
            clear hxk hec
            go_wp2_with fail
            refine wp_region_later (W := wo) (by kernel_rfl) (by kernel_rfl) (Ext.refl _) ?_
            repeat (go_big_quiet_step (fail))
            refine wpQuiet_nil ?_
            intro w2 hx2
            have s2 := Step.mk hx2
            go_wp2_with fail
            go_ret2
            exact ⟨by rw [HR.out]; rfl, grows⟩
      · obtain rfl : k = P.dp.length := by omega
        have HR := Lib.hid (Dp.chkV_of (Dp.chk_none H8.out HZ.out))
        go_wp2_with fail
        go_ret2
        exact ⟨by rw [HR.out]; rfl, grows⟩
  · have HR := Lib.hid (Dp.chkV_of (P := P) (Dp.chk_many (by omega)))
    go_enter Try.func15, Try.ntmps15
    go_wp2_with fail
    go_ret2
    exact ⟨by rw [HR.out]; rfl, grows⟩
end Go.Proofs.Ytonnlcjkgpahoaa
namespace Go.Proofs.Ytonnlcjkgpahoaa
open Go.RowKit

namespace Dp
def hsB (P : Pg.Prog) : Bool := (List.range P.hs.length).all fun k => Hd.chk (P.hs.getD k (⟨#[]⟩, [])) == 0
def ok (P : Pg.Prog) (E : Pg.Env) : Bool := (Dp.chk P).2 == 0 && (hsB P && Pg.chkE P E == 0)
/-- the bits behind a header -/
def one (P : Pg.Prog) (E : Pg.Env) (h : Int) (L : List Int) : List Int := if E.va.getD h.toNat false then Hd.wL (P.hs.getD h.toNat (⟨#[]⟩, [])) (E.fi.getD h.toNat []) L else L
def bitsFrom (P : Pg.Prog) (E : Pg.Env) : List Int → List Int → List Int
  | [], L => L
  | h :: t, L => bitsFrom P E t (one P E h L)
def emit (P : Pg.Prog) (E : Pg.Env) : List Int := if ok P E then Io.byL (bitsFrom P E P.dp []) ++ E.pl else []
theorem ok_of {P : Pg.Prog} {E : Pg.Env} (h1 : (Dp.chk P).2 = 0) (h2 : hsB P = true) : ok P E = (Pg.chkE P E == 0) := by unfold ok; rw [h1, h2]; simp
theorem no_chk {P : Pg.Prog} {E : Pg.Env} (h1 : (Dp.chk P).2 ≠ 0) : ok P E = false := by unfold ok; simp [h1]
theorem no_hs {P : Pg.Prog} {E : Pg.Env} (h1 : hsB P = false) : ok P E = false := by unfold ok; simp [h1]
theorem no_env {P : Pg.Prog} {E : Pg.Env} (h1 : Pg.chkE P E ≠ 0) : ok P E = false := by unfold ok; simp [h1]
theorem emit_no {P : Pg.Prog} {E : Pg.Env} (h : ok P E = false) : emit P E = [] := by unfold emit; rw [h]; rfl
theorem emit_yes {P : Pg.Prog} {E : Pg.Env} (h : ok P E = true) : emit P E = Io.byL (bitsFrom P E P.dp []) ++ E.pl := by unfold emit; rw [h]; rfl
theorem bits_app (P : Pg.Prog) (E : Pg.Env) : ∀ a b L, bitsFrom P E (a ++ b) L = bitsFrom P E b (bitsFrom P E a L)
  | [], _, _ => rfl
  | _ :: a, b, L => by simp only [List.cons_append, bitsFrom]; exact bits_app P E a b _
theorem bits_snoc {P : Pg.Prog} {E : Pg.Env} {k : Nat} {x : Int} (hk : P.dp[k]? = some x) : bitsFrom P E (P.dp.take (k + 1)) [] = one P E x (bitsFrom P E (P.dp.take k) []) := by
  rw [List.take_add_one, hk, bits_app]; rfl
theorem one_len (P : Pg.Prog) (E : Pg.Env) (h : Int) (L : List Int) : (one P E h L).length ≤ L.length + 384 := by
  unfold one; split
  · exact Hd.wL_len _ _ _
  · omega
theorem bits_len (P : Pg.Prog) (E : Pg.Env) : ∀ l L, (bitsFrom P E l L).length ≤ L.length + 384 * l.length
  | [], L => by simp [bitsFrom]
  | h :: t, L => by
    have h1 := bits_len P E t (one P E h L)
    have h2 := one_len P E h L
    simp only [bitsFrom, List.length_cons]; omega
theorem one_bits {P : Pg.Prog} {E : Pg.Env} {h : Int} {L : List Int} (hb : Io.Bits L) : Io.Bits (one P E h L) := by
  unfold one; split
  · exact Hd.wL_bits _ _ _ hb
  · exact hb
end Dp

set_option maxRecDepth 8000 in
set_option maxHeartbeats 2000000 in
theorem accepts_any {W : World} {p : Pg.PV} {P : Pg.Prog} {e : Pg.EV} {E : Pg.Env} (hp : Pg.IsP W p P) (hc : Pg.CapP p) (he : Pg.IsE W e E) :
    Calls Try.prog 44 #[p.val, e.val] W (Rets W (.bool (Dp.ok P E))) := by
  have HP := Lib.hid hp
  have HE := Lib.hid he
  have HC := Lib.hid hc
  obtain ⟨s, a1, a2, a3, a4, a5, a6, a7, a8, m1, m2, n3, m3, n4, m4, n5, m5, n6, m6, n7, m7, m8, hf⟩ := hp.form
  obtain ⟨rfl, hhs, hmd, hdp, hl1, hl2, hl8⟩ := hf
  obtain ⟨b0, b1, b2, b3, d0, d1, d2, d3, hg⟩ := he.form
  obtain ⟨rfl, hva, hfi, hme, hpl, g0, g1, g2, g3⟩ := hg
  obtain ⟨x, y, hxy⟩ : ∃ x y, Dp.chk P = (x, y) := ⟨_, _, rfl⟩
  obtain ⟨z, hz⟩ : ∃ z, Pg.chkE P E = z := ⟨_, rfl⟩
  have HCK : Hid (∀ w, Ext W w → Calls Try.prog 14 #[.agg #[.string s, .slice a1 P.hs.length m1, .slice a2 P.md.length m2, .slice a3 n3 m3, .slice a4 n4 m4, .slice a5 n5 m5, .slice a6 n6 m6, .slice a7 n7 m7, .slice a8 P.dp.length m8]] w (Rets w (.tuple #[.int .i64 x, .int .i64 y]))) := Lib.hid (fun w hx => by have h := dcheck_any (HP.out.ext hx) HC.out; rw [Dp.chkV_of hxy] at h; exact h)
  have HEC : Hid (∀ w, Ext W w → Calls Try.prog 69 #[.agg #[.string s, .slice a1 P.hs.length m1, .slice a2 P.md.length m2, .slice a3 n3 m3, .slice a4 n4 m4, .slice a5 n5 m5, .slice a6 n6 m6, .slice a7 n7 m7, .slice a8 P.dp.length m8], .agg #[.slice b0 E.va.length d0, .slice b1 E.fi.length d1, .slice b2 E.me.length d2, .slice b3 E.pl.length d3]] w (Rets w (.int .i64 z))) := Lib.hid (fun w hx => by have h := echeck_any (HP.out.ext hx) (HE.out.ext hx); rw [hz] at h; exact h)
  have HXY : Hid ((Dp.chk P).2 = y) := Lib.hid (by rw [hxy])
  have HZ0 := Lib.hid hz
  dsimp only [Pg.PV.val, Pg.EV.val]
  have bb := alloc_heap W (.cells #[.string s, .slice a1 P.hs.length m1, .slice a2 P.md.length m2, .slice a3 n3 m3, .slice a4 n4 m4, .slice a5 n5 m5, .slice a6 n6 m6, .slice a7 n7 m7, .slice a8 P.dp.length m8] 31)
  have k0 := alw (cell_of (o := 0) bb)
  have k1 := alw (cell_of (o := 1) bb)
  have k2 := alw (cell_of (o := 2) bb)
  have k3 := alw (cell_of (o := 3) bb)
  have k4 := alw (cell_of (o := 4) bb)
  have k5 := alw (cell_of (o := 5) bb)
  have k6 := alw (cell_of (o := 6) bb)
  have k7 := alw (cell_of (o := 7) bb)
  have k8 := alw (cell_of (o := 8) bb)
  have be := alloc_heap (W.alloc (.cells #[.string s, .slice a1 P.hs.length m1, .slice a2 P.md.length m2, .slice a3 n3 m3, .slice a4 n4 m4, .slice a5 n5 m5, .slice a6 n6 m6, .slice a7 n7 m7, .slice a8 P.dp.length m8] 31)) (.cells #[.slice b0 E.va.length d0, .slice b1 E.fi.length d1, .slice b2 E.me.length d2, .slice b3 E.pl.length d3] 37)
  rw [World.size_alloc] at be
  have j0 := alw (cell_of (o := 0) be)
  have j1 := alw (cell_of (o := 1) be)
  have j2 := alw (cell_of (o := 2) be)
  have j3 := alw (cell_of (o := 3) be)
  have HHS := Lib.hid hhs
  clear bb be hp he hc hhs hmd hdp hva hfi hme hpl hxy hz
  by_cases h0 : y = 0
  · have h0b : (y != 0) = false := by simp [h0]
    have H0 := Lib.hid (HXY.out.trans h0)
    clear h0
    go_enter Try.func44, Try.ntmps44
    go_wp2_with fail
    refine (HCK.out _ (grows (a := W))).mono ?_
    rintro e' w1 ⟨rfl, x1⟩
    have s1 := Step.mk x1
    go_wp2_with fail
    go_loopw [19] (fun i wr => ∃ k : Nat, k ≤ P.hs.length ∧ i = .int .i64 k ∧ Ext w1 wr ∧ Hid (∀ j, j < k → (Hd.chk (P.hs.getD j (⟨#[]⟩, [])) == 0) = true)) (fun i _ => P.hs.length - (intOf i).toNat)
    case atStart => exact ⟨0, Nat.zero_le _, rfl, Ext.refl _, Lib.hid (by intro j hj; omega)⟩
    case round =>
      obtain ⟨k, hk, rfl, hx, HZ⟩ := hrel
      obtain ⟨wo, rfl⟩ : ∃ wo : World, wo = wr := ⟨_, rfl⟩
      have sx := Step.mk hx
      by_cases hlt : k < P.hs.length
      · obtain ⟨⟨nm, fs⟩, hhk⟩ : ∃ x, P.hs[k]? = some x := ⟨_, List.getElem?_eq_getElem hlt⟩
        obtain ⟨bh, oh, hoh, _, _⟩ := Rows.at HHS.out (by omega)
        subst hoh
        obtain ⟨fa, fc, q0, q1, qn, qf, qc, qm⟩ := hdrs_at HHS.out k nm fs hhk rfl
        have hgh : P.hs.getD k (⟨#[]⟩, []) = (nm, fs) := by rw [List.getD_eq_getElem?_getD, hhk]; rfl
        have HGH := Lib.hid hgh
        have QF := Lib.hid qf
        unfold maxLen at qm
        clear hhk hgh qf
        have bf := alloc_heap wo (.cells #[.string nm, .slice fa fs.length fc] 72)
        have f0 := alw (cell_of (o := 0) bf)
        have f1 := alw (cell_of (o := 1) bf)
        obtain ⟨c, hcc⟩ : ∃ c, Hd.chk (nm, fs) = c := ⟨_, rfl⟩
        have HCC := Lib.hid hcc
        have HCH : Hid (∀ w, Ext W w → Calls Try.prog 63 #[.agg #[.string nm, .slice fa fs.length fc]] w (Rets w (.int .i64 c))) := Lib.hid (fun w hx => by have h := hcheck_any (nm, fs) (Hd.Flds.ext QF.out hx) qn; rw [hcc] at h; exact h)
        clear bf hcc
        by_cases hc0 : c = 0
        · have hcb : (c != 0) = false := by simp [hc0]
          have HC0 := Lib.hid hc0
          clear hc0
          go_wp2_with fail
          refine (HCH.out _ (grows (a := W))).mono ?_
          rintro e' w2 ⟨rfl, x2⟩
          have s2 := Step.mk x2
          go_wp2_with fail
          go_roundw
          case rel =>
            refine ⟨k + 1, by omega, by go_num, by exact (grows (a := w1)), Lib.hid (fun j hj => ?_)⟩
            rcases Nat.lt_or_ge j k with h1 | h1
            · exact HZ.out j h1
            · obtain rfl : j = k := by omega
              rw [HGH.out, HCC.out, HC0.out]; rfl
          case measure => simp [intOf]; omega
        · have hcb : (c != 0) = true := by simp [hc0]
          have HC0 := Lib.hid hc0
          clear hc0
          go_wp2_with fail
          refine (HCH.out _ (grows (a := W))).mono ?_
          rintro e' w2 ⟨rfl, x2⟩
          have s2 := Step.mk x2
          go_wp2_with fail
          go_ret
          exact ⟨ret_bool (by rw [Dp.no_hs (Pg.all_no hlt (by rw [HGH.out, HCC.out]; simpa using HC0.out))]), grows⟩
      · obtain rfl : k = P.hs.length := by omega
        go_wp2_with fail
        refine (HEC.out _ (grows (a := W))).mono ?_
        rintro e' w2 ⟨rfl, x2⟩
        have s2 := Step.mk x2
        go_wp2_with fail
        go_ret
        exact ⟨ret_bool (by rw [Dp.ok_of H0.out (Pg.all_yes HZ.out), HZ0.out]), grows⟩
  · have h0b : (y != 0) = true := by simp [h0]
    have HR := Lib.hid (Dp.no_chk (P := P) (E := E) (by rw [HXY.out]; exact h0))
    clear h0
    go_enter Try.func44, Try.ntmps44
    go_wp2_with fail
    refine (HCK.out _ (grows (a := W))).mono ?_
    rintro e' w1 ⟨rfl, x1⟩
    have s1 := Step.mk x1
    go_wp2_with fail
    go_ret
    exact ⟨ret_bool (by rw [HR.out]), grows⟩
end Go.Proofs.Ytonnlcjkgpahoaa
namespace Go.Proofs.Ytonnlcjkgpahoaa
open Go.RowKit

set_option maxRecDepth 8000 in
set_option maxHeartbeats 2000000 in
theorem emit1_any {W w : World} {base q Bp Be Bw : Nat} {oa a1 b0 b1 : Option Addr} {n c m1 d0 d1 : Nat} {L : List Int} {P : Pg.Prog} {E : Pg.Env} (hx : Ext W w) (hb : W.heap.size ≤ base) (hw : WrtAt w base q oa n c L) (hL : L.length ≤ 100000000)
    (hkp : W.cell? ⟨Bp, 1, none⟩ = some (.slice a1 P.hs.length m1)) (hhs : Rows W 2 Hd.HdrR (.slice a1 P.hs.length m1) P.hs)
    (hj0 : W.cell? ⟨Be, 0, none⟩ = some (.slice b0 E.va.length d0)) (hva : Bs W (.slice b0 E.va.length d0) E.va)
    (hj1 : W.cell? ⟨Be, 1, none⟩ = some (.slice b1 E.fi.length d1)) (hfi : Rows W 1 RowR (.slice b1 E.fi.length d1) E.fi)
    (hBw : w.heap[Bw]? = some (.cells #[.pointer (some ⟨q, 0, none⟩)] 86 (0, 0)))
    (h : Int) (h0 : 0 ≤ h) (h1 : h < P.hs.length) (h2 : P.hs.length ≤ E.va.length) (h3 : P.hs.length ≤ E.fi.length) (h4 : ∀ k, (E.fi.getD k []).length ≤ 1000000) (hv : E.va.length ≤ 9223372036854775807) (hf : E.fi.length ≤ 9223372036854775807) :
    Calls Try.prog 46 #[.int .i64 h, .pointer (some ⟨Be, 0, none⟩), .pointer (some ⟨Bp, 0, none⟩), .pointer (some ⟨Bw, 0, none⟩)] w
      fun e w' => e = .returned (.tuple #[]) ∧ ∃ oa' n' c', Mod (WS q oa n c) w w' ∧ WrtAt w' base q oa' n' c' (Dp.one P E h L) ∧ ∀ k, k < w.heap.size → WS q oa' n' c' k → WS q oa n c k := by
  obtain ⟨k, rfl⟩ := Int.eq_ofNat_of_zero_le h0
  have hk : k < P.hs.length := by omega
  have sx := Step.mk hx
  have k1 := alw hkp
  have j0 := alw hj0
  have j1 := alw hj1
  have t0 := alw (cell_of (o := 0) hBw)
  obtain ⟨⟨nm, fs⟩, hhk⟩ : ∃ x, P.hs[k]? = some x := ⟨_, List.getElem?_eq_getElem hk⟩
  obtain ⟨bh, oh, hoh, _, _⟩ := Rows.at hhs (by omega)
  subst hoh
  obtain ⟨fa, fc, q0, q1, qn, qf, qc, qm⟩ := hdrs_at hhs k nm fs hhk rfl
  obtain ⟨l, hlk⟩ : ∃ x, E.fi[k]? = some x := ⟨_, List.getElem?_eq_getElem (by omega)⟩
  obtain ⟨ba, oa', hoa, _, _⟩ := Rows.at hfi (by omega)
  subst hoa
  obtain ⟨la, lc, p0, pl, pu⟩ := rows_at hfi k l hlk rfl
  obtain ⟨vb, hvk⟩ : ∃ x, E.va[k]? = some x := ⟨_, List.getElem?_eq_getElem (by omega)⟩
  obtain ⟨bv, ov, hov, hvc⟩ := bs_at hva (by omega)
  subst hov
  have v0 := hvc k vb hvk
  have hgl : E.fi.getD k [] = l := by rw [List.getD_eq_getElem?_getD, hlk]; rfl
  have hll : l.length ≤ 1000000 := by rw [← hgl]; exact h4 k
  have hone : Dp.one P E k L = if vb then Hd.wL (nm, fs) l L else L := by
    unfold Dp.one
    rw [Int.toNat_natCast, List.getD_eq_getElem?_getD, List.getD_eq_getElem?_getD, hvk, hhk, hgl]; rfl
  rw [hone]
  have QF := Lib.hid qf
  have HPL := Lib.hid pl
  have HPU := Lib.hid pu
  have HW := Lib.hid hw
  have HB := Lib.hid hBw
  have HX := Lib.hid hx
  have hke : k < E.va.length := by omega
  have hkf : k < E.fi.length := by omega
  unfold maxLen at qm
  clear hhs hhk hfi hlk hva hvc hvk hgl pl pu qf hw hBw hx h0 h1 h2 h3 h4 hone hkp hj0 hj1
  cases vb with
  | false =>
    go_enter Try.func46, Try.ntmps46
    go_wp2_with fail
    go_end0
    exact ⟨rfl, Mod.refl _ _, oa, n, c, HW.out, fun _ _ h => h⟩
  | true =>
    go_enter Try.func46, Try.ntmps46
    go_wp2_with fail
    refine wp_region_later_tail (W := w) 11 (by kernel_rfl) (by kernel_rfl) (Ext.refl _) ?_
    simp only [List.take_succ_cons, List.take_zero, List.drop_succ_cons, List.drop_zero]
    repeat (go_big_quiet_step (fail))
    refine wpQuiet_nil ?_
    intro w3 hx3
    go_wp2_with fail
    refine (hwrite_any (HW.out.ext hx3) (nm, fs) (vs := l) (fun w' hm => by
      have hx4 : Ext W w' := (HX.out.trans hx3).mod hm (fun q hq => by have := (HW.out.ext hx3).foot q hq; omega)
      exact ⟨Hd.Flds.ext QF.out hx4, (HPL.out.ext hx4).1⟩) qn (by omega) (fun x hx => (HPU.out x hx).1) (by omega)).mono ?_
    rintro e w4 ⟨rfl, oa4, n4, c4, m4, k4, i4⟩
    have HK := Lib.hid k4
    have HM := Lib.hid ((Mod.of_ext hx3).trans m4)
    have HI := Lib.hid i4
    have hsz := hx3.size
    clear m4 k4 i4 hx3
    go_wp2_with fail
    go_end0
    exact ⟨rfl, HM.out, oa4, n4, c4, HK.out, fun k hk => HI.out k (by omega)⟩

namespace Dp
/-- what an accepted packet is known to have -/
theorem ok_facts {P : Pg.Prog} {E : Pg.Env} (h : ok P E = true) : P.dp.length ≤ 8 ∧ (∀ j, j < P.dp.length → 0 ≤ P.dp.getD j 0 ∧ P.dp.getD j 0 < P.hs.length) ∧ E.va.length = P.hs.length ∧ E.fi.length = P.hs.length ∧ ∀ k, (E.fi.getD k []).length ≤ 1000000 := by
  unfold ok at h
  simp only [Bool.and_eq_true, beq_iff_eq] at h
  obtain ⟨h1, h2, h3⟩ := h
  obtain ⟨g1, g2⟩ := chk_ok h1
  have hs : Pg.shB P E = true := by
    cases hh : Pg.shB P E
    · rw [Pg.chk_sh hh] at h3; simp at h3
    · rfl
  obtain ⟨z1, z2, _, z4⟩ := Pg.shB_len hs
  refine ⟨g1, fun j hj => bad_zero (g2 j hj), z1, z2, fun k => ?_⟩
  by_cases hk : k < E.fi.length
  · rw [z4 k hk]
    unfold hsB at h2
    rw [List.all_eq_true] at h2
    have h5 := h2 k (List.mem_range.2 (by omega))
    simp only [beq_iff_eq] at h5
    have := (Hd.chk_ok h5).2.2.1
    omega
  · rw [List.getD_eq_getElem?_getD, List.getElem?_eq_none (by omega)]; simp
end Dp

set_option maxRecDepth 8000 in
set_option maxHeartbeats 4000000 in
theorem demit_any {W : World} {p : Pg.PV} {P : Pg.Prog} {e : Pg.EV} {E : Pg.Env} (hp : Pg.IsP W p P) (hc : Pg.CapP p) (he : Pg.IsE W e E) (hpy : E.pl.length ≤ 1000000) :
    Calls Try.prog 16 #[p.val, e.val] W fun e' w' => ∃ v, e' = .returned v ∧ Ext W w' ∧ Src w' v 1 (Dp.emit P E).length (u8s (Dp.emit P E)) := by
  have HP := Lib.hid hp
  have HE := Lib.hid he
  have HC := Lib.hid hc
  obtain ⟨s, a1, a2, a3, a4, a5, a6, a7, a8, m1, m2, n3, m3, n4, m4, n5, m5, n6, m6, n7, m7, m8, hf⟩ := hp.form
  obtain ⟨rfl, hhs, hmd, hdp, hl1, hl2, hl8⟩ := hf
  obtain ⟨b0, b1, b2, b3, d0, d1, d2, d3, hg⟩ := he.form
  obtain ⟨rfl, hva, hfi, hme, hpl, g0, g1, g2, g3⟩ := hg
  have HAC : Hid (∀ w, Ext W w → Calls Try.prog 44 #[.agg #[.string s, .slice a1 P.hs.length m1, .slice a2 P.md.length m2, .slice a3 n3 m3, .slice a4 n4 m4, .slice a5 n5 m5, .slice a6 n6 m6, .slice a7 n7 m7, .slice a8 P.dp.length m8], .agg #[.slice b0 E.va.length d0, .slice b1 E.fi.length d1, .slice b2 E.me.length d2, .slice b3 E.pl.length d3]] w (Rets w (.bool (Dp.ok P E)))) := Lib.hid (fun w hx => by have h := accepts_any (HP.out.ext hx) HC.out (HE.out.ext hx); exact h)
  dsimp only [Pg.PV.val, Pg.EV.val]
  have bb := alloc_heap W (.cells #[.string s, .slice a1 P.hs.length m1, .slice a2 P.md.length m2, .slice a3 n3 m3, .slice a4 n4 m4, .slice a5 n5 m5, .slice a6 n6 m6, .slice a7 n7 m7, .slice a8 P.dp.length m8] 31)
  have k0 := alw (cell_of (o := 0) bb)
  have k1 := alw (cell_of (o := 1) bb)
  have k2 := alw (cell_of (o := 2) bb)
  have k3 := alw (cell_of (o := 3) bb)
  have k4 := alw (cell_of (o := 4) bb)
  have k5 := alw (cell_of (o := 5) bb)
  have k6 := alw (cell_of (o := 6) bb)
  have k7 := alw (cell_of (o := 7) bb)
  have k8 := alw (cell_of (o := 8) bb)
  have be := alloc_heap (W.alloc (.cells #[.string s, .slice a1 P.hs.length m1, .slice a2 P.md.length m2, .slice a3 n3 m3, .slice a4 n4 m4, .slice a5 n5 m5, .slice a6 n6 m6, .slice a7 n7 m7, .slice a8 P.dp.length m8] 31)) (.cells #[.slice b0 E.va.length d0, .slice b1 E.fi.length d1, .slice b2 E.me.length d2, .slice b3 E.pl.length d3] 37)
  rw [World.size_alloc] at be
  have j0 := alw (cell_of (o := 0) be)
  have j1 := alw (cell_of (o := 1) be)
  have j2 := alw (cell_of (o := 2) be)
  have j3 := alw (cell_of (o := 3) be)
  have HHS := Lib.hid hhs
  have HVA := Lib.hid hva
  have HFI := Lib.hid hfi
  have HDP := Lib.hid hdp
  have HPY := Lib.hid hpl
  clear bb be hp he hc hhs hmd hdp hva hfi hme hpl
  have hmf : ∀ (fn : Fn) (first cap : Array Value) (w : World), (Instr.makeFunc fn first cap).run Try.prog w = .ok (.func fn first cap) w := fun _ _ _ _ => rfl
  cases hok : Dp.ok P E with
  | false =>
    have HOK := Lib.hid hok
    rw [hok] at HAC
    rw [Dp.emit_no hok]
    clear hok
    go_enter Try.func16, Try.ntmps16
    go_wp2_with fail
    refine (HAC.out _ (grows (a := W))).mono ?_
    rintro e' w1 ⟨rfl, x1⟩
    have s1 := Step.mk x1
    go_wp2_with fail
    go_ret
    exact ⟨_, rfl, grows, by simp [u8s], by simp [u8s], .inl ⟨rfl, rfl⟩⟩
  | true =>
    obtain ⟨y1, y2, y3, y4, y5⟩ := Dp.ok_facts hok
    have YD := Lib.hid y2
    have YF := Lib.hid y5
    have HEM := Lib.hid (Dp.emit_yes hok)
    have yva : P.hs.length ≤ E.va.length := by omega
    have yfi : P.hs.length ≤ E.fi.length := by omega
    rw [hok] at HAC
    clear hok y2 y3 y4 y5
    go_enter Try.func16, Try.ntmps16
    go_wp2_with fail
    refine (HAC.out _ (grows (a := W))).mono ?_
    rintro e' w1 ⟨rfl, x1⟩
    have s1 := Step.mk x1
    go_wp2_with fail
    refine (newWriter_any w1).mono ?_
    rintro e' w2 ⟨q, rfl, x2, hw2⟩
    have s2 := Step.mk x2
    have HW2 := Lib.hid hw2
    have bw := alloc_heap w2 (.cells #[.pointer (some ⟨q, 0, none⟩)] 86)
    have HBW := Lib.hid bw
    clear hw2 bw
    go_wp2_with fail
    go_loopw [20] (fun i wr => ∃ k : Nat, k ≤ P.dp.length ∧ i = .int .i64 k ∧ Hid (∃ oa n c, Ext w1 wr ∧ WrtAt wr w1.heap.size q oa n c (Dp.bitsFrom P E (P.dp.take k) []) ∧ wr.heap[w2.heap.size]? = some (.cells #[.pointer (some ⟨q, 0, none⟩)] 86 (0, 0)))) (fun i _ => P.dp.length - (intOf i).toNat)
    case atStart => exact ⟨0, Nat.zero_le _, rfl, Lib.hid ⟨none, 0, 0, grows, HW2.out.ext grows, HBW.out⟩⟩
    case round =>
      obtain ⟨k, hk, rfl, HI⟩ := hrel
      obtain ⟨wo, rfl⟩ : ∃ wo : World, wo = wr := ⟨_, rfl⟩
      obtain ⟨oa, n, c, hx, hw, hbw⟩ := HI.out
      have sx : Step w1 wo := Step.mk hx
      have t0 := alw (cell_of (o := 0) hbw)
      have HX := Lib.hid hx
      have HW := Lib.hid hw
      have HB := Lib.hid hbw
      have hlen := Dp.bits_len P E (P.dp.take k) []
      have htk : (P.dp.take k).length ≤ 8 := by rw [List.length_take]; omega
      simp only [List.length_nil] at hlen
      clear hx hw hbw HI
      by_cases hlt : k < P.dp.length
      · obtain ⟨x, hxk⟩ : ∃ x, P.dp[k]? = some x := ⟨_, List.getElem?_eq_getElem hlt⟩
        obtain ⟨b, o, hoa, hec⟩ := ns_at HDP.out (by omega)
        subst hoa
        have e0 := hec k x hxk
        have hxx := YD.out k hlt
        rw [List.getD_eq_getElem?_getD, hxk, Option.getD_some] at hxx
        obtain ⟨x0, x1'⟩ := hxx
        have HSN := Lib.hid (Dp.bits_snoc (E := E) hxk)
        clear hec hxk
        go_wp2_with fail
        refine (emit1_any (W := w1) (base := w1.heap.size) (P := P) (E := E) HX.out (Nat.le_refl _) HW.out (by omega) (k1 w1) (HHS.out.ext (fun _ _ h => h.ext grows) grows) (j0 w1) (HVA.out.ext grows) (j1 w1) (HFI.out.ext (fun _ _ h => h.ext grows) grows) HB.out x x0 x1' yva yfi YF.out (by omega) (by omega)).mono ?_
        rintro e' w4 ⟨rfl, oa4, n4, c4, m4, k4, _⟩
        have HX4 := Lib.hid (HX.out.mod m4 (fun q hq => HW.out.foot q hq))
        have HB4 := Lib.hid (m4.heap HB.out (HW.out.not HB.out (by decide) (by decide)))
        have HK4 := Lib.hid k4
        have s4 : Step w1 w4 := Step.mk HX4.out
        clear m4 k4
        go_wp2_with fail
        go_roundw
        case rel => exact ⟨k + 1, by omega, by go_num, Lib.hid ⟨oa4, n4, c4, HX4.out, by rw [HSN.out]; exact HK4.out, HB4.out⟩⟩
        case measure => simp [intOf]; omega
      · obtain rfl : k = P.dp.length := by omega
        rw [List.take_length] at HW
        rw [List.take_length] at hlen
        have hbl : (Io.byL (Dp.bitsFrom P E P.dp [])).length ≤ 1000000 := by
          unfold Io.byL
          split
          · rw [Io.pack_len]; omega
          · simp
        obtain ⟨B, hB⟩ : ∃ B, B = Io.byL (Dp.bitsFrom P E P.dp []) := ⟨_, rfl⟩
        have HBY := Lib.hid (bytes_any HW.out (by omega))
        rw [← hB] at HEM hbl HBY
        clear hB
        go_wp2_with fail
        refine HBY.out.mono ?_
        rintro e' w5 ⟨v5, rfl, x5, o5⟩
        have s5 := Step.mk x5
        have O5 := Lib.hid o5
        have hle5 := grows_le (a := W) (b := wo)
        clear o5
        obtain ⟨ba, bc, hv5⟩ := own_slice O5.out
        subst hv5
        have PY5 := Lib.hid (Src.now (w := w5) HPY.out.1.1)
        go_wp2_with (at_builtin; refine wpList_append_src rfl (.tmp 33) (.tmp 35) 35 rfl wo.heap.size 5 (.int .u8 0) 1 1 Try.underlying35 info_u8 rfl (by decide) (.slice ba B.length bc) B.length (u8s B) rfl O5.out (.slice b3 E.pl.length d3) E.pl.length (u8s E.pl) rfl PY5.out ?c1 ?c2 ?c3 ?_)
        case c1 => unfold maxLen; omega
        case c2 => omega
        case c3 => exact x5.size
        intro v' w' hown hgr _
        have hx6 : Ext W w' := Ext.mod (grows (a := W) (b := w5)) (grown_mod hgr) (fun q hq => by
          have := (O5.out.lt q hq.symm).1; omega)
        have HO6 := Lib.hid hown
        clear hgr hown
        go_wp2_with fail
        go_ret
        refine ⟨_, rfl, hx6, ?_⟩
        rw [HEM.out]
        have h7 := own_src HO6.out (fun u hu => by
          rw [List.mem_append] at hu
          rcases hu with hu | hu
          · exact u8s_one _ u hu
          · exact u8s_one _ u hu)
        rw [List.length_append]
        rw [show u8s (B ++ E.pl) = u8s B ++ u8s E.pl by simp [u8s]]
        exact h7
end Go.Proofs.Ytonnlcjkgpahoaa
namespace Go.Proofs.Ytonnlcjkgpahoaa
open Go.RowKit

namespace Dp
theorem bits_bits (P : Pg.Prog) (E : Pg.Env) : ∀ l L, Io.Bits L → Io.Bits (bitsFrom P E l L)
  | [], _, h => h
  | _ :: t, _, h => bits_bits P E t _ (one_bits h)
theorem one_at {P : Pg.Prog} {E : Pg.Env} {k : Nat} {nm : ByteArray} {fs : List Hd.Fld} {l : List Int} {vb : Bool} (hv : E.va.getD k false = vb) (hh : P.hs.getD k (⟨#[]⟩, []) = (nm, fs)) (hl : E.fi.getD k [] = l) (L : List Int) :
    one P E (k : Int) L = if vb then Hd.wL (nm, fs) l L else L := by
  unfold one; rw [Int.toNat_natCast, hv, hh, hl]
end Dp

set_option maxRecDepth 8000 in
set_option maxHeartbeats 4000000 in
theorem remit_any {W : World} {p : Pg.PV} {P : Pg.Prog} {e : Pg.EV} {E : Pg.Env} (hp : Pg.IsP W p P) (hc : Pg.CapP p) (he : Pg.IsE W e E) (hpy : E.pl.length ≤ 1000000) :
    Calls Try.prog 17 #[p.val, e.val] W fun e' w' => ∃ v, e' = .returned v ∧ Ext W w' ∧ Src w' v 1 (Dp.emit P E).length (u8s (Dp.emit P E)) := by
  have HP := Lib.hid hp
  have HE := Lib.hid he
  have HC := Lib.hid hc
  obtain ⟨s, a1, a2, a3, a4, a5, a6, a7, a8, m1, m2, n3, m3, n4, m4, n5, m5, n6, m6, n7, m7, m8, hf⟩ := hp.form
  obtain ⟨rfl, hhs, hmd, hdp, hl1, hl2, hl8⟩ := hf
  obtain ⟨b0, b1, b2, b3, d0, d1, d2, d3, hg⟩ := he.form
  obtain ⟨rfl, hva, hfi, hme, hpl, g0, g1, g2, g3⟩ := hg
  obtain ⟨x, y, hxy⟩ : ∃ x y, Dp.chk P = (x, y) := ⟨_, _, rfl⟩
  obtain ⟨z, hz⟩ : ∃ z, Pg.chkE P E = z := ⟨_, rfl⟩
  have HCK : Hid (∀ w, Ext W w → Calls Try.prog 15 #[.agg #[.string s, .slice a1 P.hs.length m1, .slice a2 P.md.length m2, .slice a3 n3 m3, .slice a4 n4 m4, .slice a5 n5 m5, .slice a6 n6 m6, .slice a7 n7 m7, .slice a8 P.dp.length m8]] w (Rets w (.tuple #[.int .i64 x, .int .i64 y]))) := Lib.hid (fun w hx => by have h := rdcheck_any (HP.out.ext hx) HC.out; rw [Dp.chkV_of hxy] at h; exact h)
  have HEC : Hid (∀ w, Ext W w → Calls Try.prog 34 #[.agg #[.string s, .slice a1 P.hs.length m1, .slice a2 P.md.length m2, .slice a3 n3 m3, .slice a4 n4 m4, .slice a5 n5 m5, .slice a6 n6 m6, .slice a7 n7 m7, .slice a8 P.dp.length m8], .agg #[.slice b0 E.va.length d0, .slice b1 E.fi.length d1, .slice b2 E.me.length d2, .slice b3 E.pl.length d3]] w (Rets w (.int .i64 z))) := Lib.hid (fun w hx => by have h := rcheck12_any (HP.out.ext hx) (HE.out.ext hx); rw [hz] at h; exact h)
  have HXY : Hid ((Dp.chk P).2 = y) := Lib.hid (by rw [hxy])
  have HZ0 := Lib.hid hz
  dsimp only [Pg.PV.val, Pg.EV.val]
  have bb := alloc_heap W (.cells #[.string s, .slice a1 P.hs.length m1, .slice a2 P.md.length m2, .slice a3 n3 m3, .slice a4 n4 m4, .slice a5 n5 m5, .slice a6 n6 m6, .slice a7 n7 m7, .slice a8 P.dp.length m8] 31)
  have k0 := alw (cell_of (o := 0) bb)
  have k1 := alw (cell_of (o := 1) bb)
  have k2 := alw (cell_of (o := 2) bb)
  have k3 := alw (cell_of (o := 3) bb)
  have k4 := alw (cell_of (o := 4) bb)
  have k5 := alw (cell_of (o := 5) bb)
  have k6 := alw (cell_of (o := 6) bb)
  have k7 := alw (cell_of (o := 7) bb)
  have k8 := alw (cell_of (o := 8) bb)
  have be := alloc_heap (W.alloc (.cells #[.string s, .slice a1 P.hs.length m1, .slice a2 P.md.length m2, .slice a3 n3 m3, .slice a4 n4 m4, .slice a5 n5 m5, .slice a6 n6 m6, .slice a7 n7 m7, .slice a8 P.dp.length m8] 31)) (.cells #[.slice b0 E.va.length d0, .slice b1 E.fi.length d1, .slice b2 E.me.length d2, .slice b3 E.pl.length d3] 37)
  rw [World.size_alloc] at be
  have j0 := alw (cell_of (o := 0) be)
  have j1 := alw (cell_of (o := 1) be)
  have j2 := alw (cell_of (o := 2) be)
  have j3 := alw (cell_of (o := 3) be)
  have HHS := Lib.hid hhs
  have HVA := Lib.hid hva
  have HFI := Lib.hid hfi
  have HDP := Lib.hid hdp
  have HPY := Lib.hid hpl
  clear bb be hp he hc hhs hmd hdp hva hfi hme hpl hxy hz
  by_cases h0 : y = 0
  · have h0b : (y != 0) = false := by simp [h0]
    have H0 := Lib.hid (HXY.out.trans h0)
    clear h0
    by_cases hz0 : z = 0
    · have hzb : (z != 0) = false := by simp [hz0]
      have HZ1 := Lib.hid (HZ0.out.trans hz0)
      clear hz0
      go_enter Try.func17, Try.ntmps17
      go_wp2_with fail
      refine (HCK.out _ (grows (a := W))).mono ?_
      rintro e' w1 ⟨rfl, x1⟩
      have s1 := Step.mk x1
      go_wp2_with fail
      refine (HEC.out _ (grows (a := W))).mono ?_
      rintro e' w2 ⟨rfl, x2⟩
      have s2 := Step.mk x2
      go_wp2_with fail
      go_loopw [7] (fun i wr => ∃ k : Nat, k ≤ P.hs.length ∧ i = .int .i64 k ∧ Ext w2 wr ∧ Hid (∀ j, j < k → (Hd.chk (P.hs.getD j (⟨#[]⟩, [])) == 0) = true)) (fun i _ => P.hs.length - (intOf i).toNat)
      case atStart => exact ⟨0, Nat.zero_le _, rfl, Ext.refl _, Lib.hid (by intro j hj; omega)⟩
      case round =>
        obtain ⟨k, hk, rfl, hx, HZ⟩ := hrel
        obtain ⟨wo, rfl⟩ : ∃ wo : World, wo = wr := ⟨_, rfl⟩
        have sx := Step.mk hx
        by_cases hlt : k < P.hs.length
        · obtain ⟨⟨nm, fs⟩, hhk⟩ : ∃ x, P.hs[k]? = some x := ⟨_, List.getElem?_eq_getElem hlt⟩
          obtain ⟨bh, oh, hoh, _, _⟩ := Rows.at HHS.out (by omega)
          subst hoh
          obtain ⟨fa, fc, q0, q1, qn, qf, qc, qm⟩ := hdrs_at HHS.out k nm fs hhk rfl
          have hgh : P.hs.getD k (⟨#[]⟩, []) = (nm, fs) := by rw [List.getD_eq_getElem?_getD, hhk]; rfl
          have HGH := Lib.hid hgh
          have QF := Lib.hid qf
          unfold maxLen at qm
          clear hhk hgh qf
          obtain ⟨c, hcc⟩ : ∃ c, Hd.chk (nm, fs) = c := ⟨_, rfl⟩
          have HCC := Lib.hid hcc
          have HCH : Hid (∀ w, Ext W w → Calls Try.prog 37 #[.agg #[.string nm, .slice fa fs.length fc]] w (Rets w (.int .i64 c))) := Lib.hid (fun w hx => by have h := rhcheck_any (nm, fs) (Hd.Flds.ext QF.out hx) qn; rw [hcc] at h; exact h)
          clear hcc
          by_cases hc0 : c = 0
          · have hcb : (c != 0) = false := by simp [hc0]
            have HC0 := Lib.hid hc0
            clear hc0
            go_wp2_with fail
            refine (HCH.out _ (grows (a := W))).mono ?_
            rintro e' w3 ⟨rfl, x3⟩
            have s3 := Step.mk x3
            go_wp2_with fail
            go_roundw
            case rel =>
              refine ⟨k + 1, by omega, by go_num, by exact (grows (a := w2)), Lib.hid (fun j hj => ?_)⟩
              rcases Nat.lt_or_ge j k with h1 | h1
              · exact HZ.out j h1
              · obtain rfl : j = k := by omega
                rw [HGH.out, HCC.out, HC0.out]; rfl
            case measure => simp [intOf]; omega
          · have hcb : (c != 0) = true := by simp [hc0]
            have HC0 := Lib.hid hc0
            clear hc0
            have HR := Lib.hid (Dp.emit_no (P := P) (E := E) (Dp.no_hs (Pg.all_no hlt (by rw [HGH.out, HCC.out]; simpa using HC0.out))))
            go_wp2_with fail
            refine (HCH.out _ (grows (a := W))).mono ?_
            rintro e' w3 ⟨rfl, x3⟩
            have s3 := Step.mk x3
            go_wp2_with fail
            go_ret
            rw [HR.out]
            exact ⟨_, rfl, grows, by simp [u8s], by simp [u8s], .inl ⟨rfl, rfl⟩⟩
        · obtain rfl : k = P.hs.length := by omega
          have hok : Dp.ok P E = true := by rw [Dp.ok_of H0.out (Pg.all_yes HZ.out), HZ1.out]; rfl
          obtain ⟨y1, y2, y3, y4, y5⟩ := Dp.ok_facts hok
          have YD := Lib.hid y2
          have YF := Lib.hid y5
          have HEM := Lib.hid (Dp.emit_yes hok)
          have yva : P.hs.length ≤ E.va.length := by omega
          have yfi : P.hs.length ≤ E.fi.length := by omega
          clear hok y2 y3 y4 y5 HZ hk hlt
          go_wp2_with fail
          refine (rNewWriter_any wo).mono ?_
          rintro e' w3 ⟨rfl, x3⟩
          have s3 := Step.mk x3
          have HB0 := Lib.hid (alloc_heap w3 (.cells #[.slice none 0 0] 67))
          go_wp2_with fail
          go_loopw [9] (fun i wr => ∃ k : Nat, k ≤ P.dp.length ∧ i = .int .i64 k ∧ Hid (∃ oa c, Ext w3 wr ∧ wr.heap[w3.heap.size]? = some (.cells #[.slice oa (Dp.bitsFrom P E (P.dp.take k) []).length c] 67 (0, 0)) ∧ wr.ownsRow W.heap.size 4 1 (.slice oa (Dp.bitsFrom P E (P.dp.take k) []).length c) (Dp.bitsFrom P E (P.dp.take k) []).length (bls (Dp.bitsFrom P E (P.dp.take k) [])))) (fun i _ => P.dp.length - (intOf i).toNat)
          case atStart => exact ⟨0, Nat.zero_le _, rfl, Lib.hid ⟨none, 0, grows, HB0.out, World.ownsRow_nil _ _ _ _⟩⟩
          case round =>
            obtain ⟨k, hk, rfl, HI⟩ := hrel
            obtain ⟨wp, rfl⟩ : ∃ wp : World, wp = wr := ⟨_, rfl⟩
            obtain ⟨oa1, c1, hx1, hb1, ho1⟩ := HI.out
            have sp : Step w3 wp := Step.mk hx1
            have hlen := Dp.bits_len P E (P.dp.take k) []
            have htk : (P.dp.take k).length ≤ 8 := by rw [List.length_take]; omega
            simp only [List.length_nil] at hlen
            have HBI := Lib.hid (Dp.bits_bits P E (P.dp.take k) [] (by intro b hb; cases hb))
            have hle : W.heap.size ≤ wp.heap.size := grows_le (a := W) (b := wp)
            clear HI
            by_cases hlt : k < P.dp.length
            · obtain ⟨x, hxk⟩ : ∃ x, P.dp[k]? = some x := ⟨_, List.getElem?_eq_getElem hlt⟩
              obtain ⟨b, o, hoa, hec⟩ := ns_at HDP.out (by omega)
              subst hoa
              have e0 := hec k x hxk
              have hxx := YD.out k hlt
              rw [List.getD_eq_getElem?_getD, hxk, Option.getD_some] at hxx
              obtain ⟨x0, x1'⟩ := hxx
              obtain ⟨h, rfl⟩ := Int.eq_ofNat_of_zero_le x0
              have HSN := Lib.hid (Dp.bits_snoc (E := E) hxk)
              clear hec hxk
              obtain ⟨L, hL⟩ : ∃ L, L = Dp.bitsFrom P E (P.dp.take k) [] := ⟨_, rfl⟩
              rw [← hL] at hb1 ho1 hlen HBI HSN
              clear hL
              have hhl : h < P.hs.length := by omega
              obtain ⟨⟨nm, fs⟩, hhk⟩ : ∃ x, P.hs[h]? = some x := ⟨_, List.getElem?_eq_getElem hhl⟩
              obtain ⟨bh, oh, hoh, _, _⟩ := Rows.at HHS.out (by omega)
              subst hoh
              obtain ⟨fa, fc, q0, q1, qn, qf, qc, qm⟩ := hdrs_at HHS.out h nm fs hhk rfl
              have hgh : P.hs.getD h (⟨#[]⟩, []) = (nm, fs) := by rw [List.getD_eq_getElem?_getD, hhk]; rfl
              obtain ⟨l, hlk⟩ : ∃ x, E.fi[h]? = some x := ⟨_, List.getElem?_eq_getElem (by omega)⟩
              obtain ⟨ba, oa', hoa, _, _⟩ := Rows.at HFI.out (by omega)
              subst hoa
              obtain ⟨la, lc, p0, pl, pu⟩ := rows_at HFI.out h l hlk rfl
              obtain ⟨vb, hvk⟩ : ∃ x, E.va[h]? = some x := ⟨_, List.getElem?_eq_getElem (by omega)⟩
              obtain ⟨bv, ov, hov, hvc⟩ := bs_at HVA.out (by omega)
              subst hov
              have v0 := hvc h vb hvk
              have hgl : E.fi.getD h [] = l := by rw [List.getD_eq_getElem?_getD, hlk]; rfl
              have hgv : E.va.getD h false = vb := by rw [List.getD_eq_getElem?_getD, hvk]; rfl
              have hll : l.length ≤ 1000000 := by rw [← hgl]; exact YF.out h
              have HSO := Lib.hid (HSN.out.trans (Dp.one_at hgv hgh hgl L))
              have QF := Lib.hid qf
              have HPL := Lib.hid pl
              have HPU := Lib.hid pu
              have hhv : h < E.va.length := by omega
              have hhf : h < E.fi.length := by omega
              have HB1 := Lib.hid hb1
              have HO1 := Lib.hid ho1
              have HX1 := Lib.hid hx1
              have t0 := alw (cell_of (o := 0) hb1)
              unfold maxLen at qm
              clear hhk hlk hvc hvk hgl hgh hgv pl pu qf hb1 ho1 hx1 HSN
              cases vb with
              | false =>
                go_wp2_with fail
                go_roundw
                case rel => exact ⟨k + 1, by omega, by go_num, Lib.hid ⟨oa1, c1, HX1.out, by rw [HSO.out]; exact HB1.out, by rw [HSO.out]; exact HO1.out⟩⟩
                case measure => simp [intOf]; omega
              | true =>
                have D0 := Lib.hid (t0 wp)
                have r0 := World.new_ne wp _ (t0 wp)
                have r1 := World.new_ne wp _ (k1 wp)
                have r2 := World.new_ne wp _ (j1 wp)
                have r3 := World.new_ne wp _ (q0 wp)
                have r4 := World.new_ne wp _ (q1 wp)
                have r5 := World.new_ne wp _ (p0 wp)
                have f0 := t0 wp
                have f1 := k1 wp
                have f2 := j1 wp
                have f3 := q0 wp
                have f4 := q1 wp
                have f5 := p0 wp
                go_wp2_with fail
                go_cut [11, 12] (fun s t wx => ∃ (B2 : Nat) (oa5 : Option Addr) (c5 : Nat), s = .pointer (some ⟨B2, 0, none⟩) ∧ t = .int .i64 (Hd.wE (nm, fs) l) ∧ Ext wp wx ∧ wp.heap.size ≤ B2
                  ∧ wx.heap[B2]? = some (.cells #[.slice oa5 (Hd.wL (nm, fs) l L).length c5] 67 (0, 0)) ∧ wx.ownsRow W.heap.size 4 1 (.slice oa5 (Hd.wL (nm, fs) l L).length c5) (Hd.wL (nm, fs) l L).length (bls (Hd.wL (nm, fs) l L)))
                case first =>
                  go_region_held3 (fun w' => w'.cell? ⟨w3.heap.size, 0, none⟩ = some (.slice oa1 L.length c1) ∧ w'.cell? ⟨W.heap.size, 1, none⟩ = some (.slice (some ⟨bh, oh, none⟩) P.hs.length m1) ∧ w'.cell? ⟨W.heap.size + 1, 1, none⟩ = some (.slice (some ⟨ba, oa', none⟩) E.fi.length d1) ∧ w'.cell? ⟨bh, oh + h * 2, none⟩ = some (.string nm) ∧ w'.cell? ⟨bh, oh + h * 2 + 1, none⟩ = some (.slice fa fs.length fc) ∧ w'.cell? ⟨ba, oa' + h, none⟩ = some (.slice la l.length lc)) (go_keep)
                    (first | (go_at_call 36; refine (rhwrite_any (nm, fs) (vs := l) (Hd.Flds.ext QF.out grows) (Src.now HPL.out.1) qn (own_now HO1.out) (by simp; omega) (by omega) HPU.out (by omega)).mono ?_; rintro e' w5 ⟨oa5, c5, rfl, hy, ho5⟩; have hz : Ext wp w5 := (grows (a := wp)).trans hy; have s5 : Step wp w5 := Step.mk hz; have f0 := t0 w5; have f1 := k1 w5; have f2 := j1 w5; have f3 := q0 w5; have f4 := q1 w5; have f5 := p0 w5; have HO5 := Lib.hid ho5; clear ho5; try (have q3 : w5.heap[wp.heap.size]? = some (.cells #[.slice none 0 0] 67 (0, 0)) := hy.heap (alloc_heap wp.drew (.cells #[.slice none 0 0] 67)); have q4 : w5.cell? ⟨wp.heap.size, 0, none⟩ = some (.slice none 0 0) := cell_of q3; have q6 : w5.frozen? ⟨wp.heap.size, 0, none⟩ = false := free_of q3)))
                  all_goals (try go_wp2_with fail)
                  all_goals go_meet
                  · exact ⟨w5.heap.size, oa5, c5, rfl, rfl, hz.alloc _, hz.le, alloc_heap _ _, own_ext HO5.out ((Ext.refl _).alloc _)⟩
                  · obtain ⟨g1, g2⟩ := set1 (a' := .slice oa5 (Hd.wL (nm, fs) l L).length c5) q3
                    exact ⟨wp.heap.size, oa5, c5, rfl, rfl, hz.mod g2 (fun q hq => by rw [hq]; exact Nat.le_refl _), Nat.le_refl _, g1, own_mod HO5.out g2 (own_not HO5.out q3 (by decide))⟩
                case rest =>
                  obtain ⟨B2, oa5, c5, rfl, rfl, hx5, hB2, b5, o5⟩ := hcut
                  clear r0 r1 r2 r3 r4 r5 f0 f1 f2 f3 f4 f5 D0
                  have hb3 := hx5.heap HB1.out
                  have u0 : wc.cell? ⟨B2, 0, none⟩ = some (.slice oa5 (Hd.wL (nm, fs) l L).length c5) := cell_of b5
                  have u2 : wc.frozen? ⟨w3.heap.size, 0, none⟩ = false := free_of hb3
                  have u4 : wc.cell? ⟨w3.heap.size, 0, none⟩ = some (.slice oa1 L.length c1) := cell_of hb3
                  obtain ⟨g1, g2⟩ := set1 (a' := .slice oa5 (Hd.wL (nm, fs) l L).length c5) hb3
                  have hsz3 := HX1.out.le
                  have HXM := Lib.hid ((HX1.out.trans hx5).mod g2 (fun q hq => by rw [hq]; exact Nat.le_refl _))
                  have HOM := Lib.hid (own_mod o5 g2 (own_not o5 hb3 (by decide)))
                  have HG1 := Lib.hid g1
                  clear hx5 b5 o5 hb3 g1 g2
                  go_wp2_with fail
                  go_roundw
                  case rel => exact ⟨k + 1, by omega, by go_num, Lib.hid ⟨oa5, c5, HXM.out, by rw [HSO.out]; exact HG1.out, by rw [HSO.out]; exact HOM.out⟩⟩
                  case measure => simp [intOf]; omega
            · obtain rfl : k = P.dp.length := by omega
              rw [List.take_length] at hb1 ho1 hlen HBI
              have hbl : (Io.byL (Dp.bitsFrom P E P.dp [])).length ≤ 1000000 := by
                unfold Io.byL
                split
                · rw [Io.pack_len]; omega
                · simp
              have HBY := Lib.hid (rBytes_any ho1 HBI.out (by omega))
              obtain ⟨B, hB⟩ : ∃ B, B = Io.byL (Dp.bitsFrom P E P.dp []) := ⟨_, rfl⟩
              rw [← hB] at HEM hbl HBY
              have t0 := alw (cell_of (o := 0) hb1)
              clear hB hb1 ho1
              go_wp2_with fail
              refine HBY.out.mono ?_
              rintro e' w5 ⟨v5, rfl, x5, o5⟩
              have s5 := Step.mk x5
              have O5 := Lib.hid (own_src o5 (u8s_one _))
              obtain ⟨va5, vc5, hv5⟩ := own_slice o5
              subst hv5
              clear o5
              go_wp2_with (at_builtin; refine wpList_append_src rfl (.tmp 82) (.tmp 83) 35 rfl W.heap.size 5 (.int .u8 0) 1 1 Try.underlying35 info_u8 rfl (by decide) (.slice none 0 0) 0 [] rfl (World.ownsRow_nil _ _ _ _) (.slice va5 B.length vc5) B.length (u8s B) rfl O5.out ?c1 ?c2 ?c3 ?_)
              case c1 => unfold maxLen; omega
              case c2 => omega
              case c3 => exact grows_le (a := W) (b := w5)
              intro v6 w6 hown6 hgr6 _
              have x6 := grown_ext hgr6
              have s6 := Step.mk x6
              obtain ⟨va6, vc6, hv6⟩ := own_slice hown6
              subst hv6
              have O6 := Lib.hid hown6
              have PY6 := Lib.hid (Src.now (w := w6) HPY.out.1.1)
              clear hgr6 hown6
              go_wp2_with (at_builtin; refine wpList_append_src rfl (.tmp 85) (.tmp 87) 35 rfl W.heap.size 5 (.int .u8 0) 1 1 Try.underlying35 info_u8 rfl (by decide) (.slice va6 B.length vc6) B.length (u8s B) rfl O6.out (.slice b3 E.pl.length d3) E.pl.length (u8s E.pl) rfl PY6.out ?c1 ?c2 ?c3 ?_)
              case c1 => unfold maxLen; omega
              case c2 => omega
              case c3 => exact grows_le (a := W) (b := w6)
              intro v' w' hown hgr _
              have hx7 : Ext W w' := Ext.mod (grows (a := W) (b := w6)) (grown_mod hgr) (fun q hq => by
                have := (O6.out.lt q hq.symm).1; omega)
              have HO7 := Lib.hid hown
              clear hgr hown
              go_wp2_with fail
              go_ret
              refine ⟨_, rfl, hx7, ?_⟩
              rw [HEM.out]
              have h7 := own_src HO7.out (fun u hu => by
                rw [List.mem_append] at hu
                rcases hu with hu | hu
                · exact u8s_one _ u hu
                · exact u8s_one _ u hu)
              rw [List.length_append]
              rw [show u8s (B ++ E.pl) = u8s B ++ u8s E.pl by simp [u8s]]
              exact h7
    · have hzb : (z != 0) = true := by simp [hz0]
      have HR := Lib.hid (Dp.emit_no (P := P) (E := E) (Dp.no_env (by rw [HZ0.out]; exact hz0)))
      clear hz0
      go_enter Try.func17, Try.ntmps17
      go_wp2_with fail
      refine (HCK.out _ (grows (a := W))).mono ?_
      rintro e' w1 ⟨rfl, x1⟩
      have s1 := Step.mk x1
      go_wp2_with fail
      refine (HEC.out _ (grows (a := W))).mono ?_
      rintro e' w2 ⟨rfl, x2⟩
      have s2 := Step.mk x2
      go_wp2_with fail
      go_ret
      rw [HR.out]
      exact ⟨_, rfl, grows, by simp [u8s], by simp [u8s], .inl ⟨rfl, rfl⟩⟩
  · have h0b : (y != 0) = true := by simp [h0]
    have HR := Lib.hid (Dp.emit_no (P := P) (E := E) (Dp.no_chk (by rw [HXY.out]; exact h0)))
    clear h0
    go_enter Try.func17, Try.ntmps17
    go_wp2_with fail
    refine (HCK.out _ (grows (a := W))).mono ?_
    rintro e' w1 ⟨rfl, x1⟩
    have s1 := Step.mk x1
    go_wp2_with fail
    go_ret
    rw [HR.out]
    exact ⟨_, rfl, grows, by simp [u8s], by simp [u8s], .inl ⟨rfl, rfl⟩⟩
end Go.Proofs.Ytonnlcjkgpahoaa
namespace Go.Proofs.Ytonnlcjkgpahoaa
open Go.RowKit

set_option maxRecDepth 8000 in
set_option maxHeartbeats 2000000 in
theorem dsize_any {W : World} {p : Pg.PV} {P : Pg.Prog} {e : Pg.EV} {E : Pg.Env} (hp : Pg.IsP W p P) (hc : Pg.CapP p) (he : Pg.IsE W e E) (hpy : E.pl.length ≤ 1000000) :
    Calls Try.prog 18 #[p.val, e.val] W (Rets W (.int .i64 ((Dp.emit P E).length : Nat))) := by
  have HP := Lib.hid hp
  have HE := Lib.hid he
  have HC := Lib.hid hc
  obtain ⟨s, a1, a2, a3, a4, a5, a6, a7, a8, m1, m2, n3, m3, n4, m4, n5, m5, n6, m6, n7, m7, m8, hf⟩ := hp.form
  obtain ⟨rfl, hhs, hmd, hdp, hl1, hl2, hl8⟩ := hf
  obtain ⟨b0, b1, b2, b3, d0, d1, d2, d3, hg⟩ := he.form
  obtain ⟨rfl, hva, hfi, hme, hpl, g0, g1, g2, g3⟩ := hg
  have HEM : Hid (∀ w, Ext W w → Calls Try.prog 16 #[.agg #[.string s, .slice a1 P.hs.length m1, .slice a2 P.md.length m2, .slice a3 n3 m3, .slice a4 n4 m4, .slice a5 n5 m5, .slice a6 n6 m6, .slice a7 n7 m7, .slice a8 P.dp.length m8], .agg #[.slice b0 E.va.length d0, .slice b1 E.fi.length d1, .slice b2 E.me.length d2, .slice b3 E.pl.length d3]] w fun e' w' => ∃ v, e' = .returned v ∧ Ext w w' ∧ Src w' v 1 (Dp.emit P E).length (u8s (Dp.emit P E))) := Lib.hid (fun w hx => by have h := demit_any (HP.out.ext hx) HC.out (HE.out.ext hx) hpy; exact h)
  dsimp only [Pg.PV.val, Pg.EV.val]
  have bb := alloc_heap W (.cells #[.string s, .slice a1 P.hs.length m1, .slice a2 P.md.length m2, .slice a3 n3 m3, .slice a4 n4 m4, .slice a5 n5 m5, .slice a6 n6 m6, .slice a7 n7 m7, .slice a8 P.dp.length m8] 31)
  have k0 := alw (cell_of (o := 0) bb)
  have k1 := alw (cell_of (o := 1) bb)
  have k2 := alw (cell_of (o := 2) bb)
  have k3 := alw (cell_of (o := 3) bb)
  have k4 := alw (cell_of (o := 4) bb)
  have k5 := alw (cell_of (o := 5) bb)
  have k6 := alw (cell_of (o := 6) bb)
  have k7 := alw (cell_of (o := 7) bb)
  have k8 := alw (cell_of (o := 8) bb)
  have be := alloc_heap (W.alloc (.cells #[.string s, .slice a1 P.hs.length m1, .slice a2 P.md.length m2, .slice a3 n3 m3, .slice a4 n4 m4, .slice a5 n5 m5, .slice a6 n6 m6, .slice a7 n7 m7, .slice a8 P.dp.length m8] 31)) (.cells #[.slice b0 E.va.length d0, .slice b1 E.fi.length d1, .slice b2 E.me.length d2, .slice b3 E.pl.length d3] 37)
  rw [World.size_alloc] at be
  have j0 := alw (cell_of (o := 0) be)
  have j1 := alw (cell_of (o := 1) be)
  have j2 := alw (cell_of (o := 2) be)
  have j3 := alw (cell_of (o := 3) be)
  clear bb be hp he hc hhs hmd hdp hva hfi hme hpl
  go_enter Try.func18, Try.ntmps18
  go_wp2_with fail
  refine (HEM.out _ (grows (a := W))).mono ?_
  rintro e' w1 ⟨v, rfl, x1, hs⟩
  have s1 := Step.mk x1
  obtain ⟨va, vc, hv, _⟩ := hs.slice
  subst hv
  clear hs
  go_wp2_with fail
  go_ret
  exact ⟨rfl, grows⟩
set_option maxRecDepth 8000 in
set_option maxHeartbeats 2000000 in
theorem rdsize_any {W : World} {p : Pg.PV} {P : Pg.Prog} {e : Pg.EV} {E : Pg.Env} (hp : Pg.IsP W p P) (hc : Pg.CapP p) (he : Pg.IsE W e E) (hpy : E.pl.length ≤ 1000000) :
    Calls Try.prog 19 #[p.val, e.val] W (Rets W (.int .i64 ((Dp.emit P E).length : Nat))) := by
  have HP := Lib.hid hp
  have HE := Lib.hid he
  have HC := Lib.hid hc
  obtain ⟨s, a1, a2, a3, a4, a5, a6, a7, a8, m1, m2, n3, m3, n4, m4, n5, m5, n6, m6, n7, m7, m8, hf⟩ := hp.form
  obtain ⟨rfl, hhs, hmd, hdp, hl1, hl2, hl8⟩ := hf
  obtain ⟨b0, b1, b2, b3, d0, d1, d2, d3, hg⟩ := he.form
  obtain ⟨rfl, hva, hfi, hme, hpl, g0, g1, g2, g3⟩ := hg
  have HEM : Hid (∀ w, Ext W w → Calls Try.prog 17 #[.agg #[.string s, .slice a1 P.hs.length m1, .slice a2 P.md.length m2, .slice a3 n3 m3, .slice a4 n4 m4, .slice a5 n5 m5, .slice a6 n6 m6, .slice a7 n7 m7, .slice a8 P.dp.length m8], .agg #[.slice b0 E.va.length d0, .slice b1 E.fi.length d1, .slice b2 E.me.length d2, .slice b3 E.pl.length d3]] w fun e' w' => ∃ v, e' = .returned v ∧ Ext w w' ∧ Src w' v 1 (Dp.emit P E).length (u8s (Dp.emit P E))) := Lib.hid (fun w hx => by have h := remit_any (HP.out.ext hx) HC.out (HE.out.ext hx) hpy; exact h)
  dsimp only [Pg.PV.val, Pg.EV.val]
  have bb := alloc_heap W (.cells #[.string s, .slice a1 P.hs.length m1, .slice a2 P.md.length m2, .slice a3 n3 m3, .slice a4 n4 m4, .slice a5 n5 m5, .slice a6 n6 m6, .slice a7 n7 m7, .slice a8 P.dp.length m8] 31)
  have k0 := alw (cell_of (o := 0) bb)
  have k1 := alw (cell_of (o := 1) bb)
  have k2 := alw (cell_of (o := 2) bb)
  have k3 := alw (cell_of (o := 3) bb)
  have k4 := alw (cell_of (o := 4) bb)
  have k5 := alw (cell_of (o := 5) bb)
  have k6 := alw (cell_of (o := 6) bb)
  have k7 := alw (cell_of (o := 7) bb)
  have k8 := alw (cell_of (o := 8) bb)
  have be := alloc_heap (W.alloc (.cells #[.string s, .slice a1 P.hs.length m1, .slice a2 P.md.length m2, .slice a3 n3 m3, .slice a4 n4 m4, .slice a5 n5 m5, .slice a6 n6 m6, .slice a7 n7 m7, .slice a8 P.dp.length m8] 31)) (.cells #[.slice b0 E.va.length d0, .slice b1 E.fi.length d1, .slice b2 E.me.length d2, .slice b3 E.pl.length d3] 37)
  rw [World.size_alloc] at be
  have j0 := alw (cell_of (o := 0) be)
  have j1 := alw (cell_of (o := 1) be)
  have j2 := alw (cell_of (o := 2) be)
  have j3 := alw (cell_of (o := 3) be)
  clear bb be hp he hc hhs hmd hdp hva hfi hme hpl
  go_enter Try.func19, Try.ntmps19
  go_wp2_with fail
  refine (HEM.out _ (grows (a := W))).mono ?_
  rintro e' w1 ⟨v, rfl, x1, hs⟩
  have s1 := Step.mk x1
  obtain ⟨va, vc, hv, _⟩ := hs.slice
  subst hv
  clear hs
  go_wp2_with fail
  go_ret
  exact ⟨rfl, grows⟩
end Go.Proofs.Ytonnlcjkgpahoaa
namespace Go.Proofs.Ytonnlcjkgpahoaa
open Go.RowKit

namespace Dp
def tower (W : World) (os : List Obj) : World := os.foldl World.alloc W
theorem tower_heap : ∀ {os : List Obj} {W : World} {i : Nat} {o : Obj}, os[i]? = some o → (tower W os).heap[W.heap.size + i]? = some o
  | [], _, _, _, h => by simp at h
  | x :: os, W, 0, o, h => by
    simp only [List.getElem?_cons_zero, Option.some.injEq] at h
    subst h
    have h1 : Ext (W.alloc x) (tower (W.alloc x) os) := tower_ext os _
    exact h1.heap (alloc_heap W x)
  | x :: os, W, i + 1, o, h => by
    simp only [List.getElem?_cons_succ] at h
    have := tower_heap (W := W.alloc x) h
    rw [World.size_alloc] at this
    rw [show W.heap.size + (i + 1) = W.heap.size + 1 + i by omega]; exact this
where
  tower_ext : ∀ (os : List Obj) (W : World), Ext W (tower W os)
    | [], W => Ext.refl W
    | x :: os, W => ((Ext.refl W).alloc x).trans (tower_ext os (W.alloc x))
def hA : Hd.Hdr := (⟨#[97]⟩, [(⟨#[120]⟩, 8)])
def hB : Hd.Hdr := (⟨#[98]⟩, [(⟨#[121]⟩, 4), (⟨#[122]⟩, 4)])
def p0 : Pg.Prog := ⟨[hA, hB], [], [1, 0]⟩
def q0 : Pg.Prog := ⟨[hA, hB], [], [1, 1]⟩
def e0 : Pg.Env := ⟨[true, true], [[1], [2, 3]], [], [9]⟩
def d0 : Pg.Env := ⟨[true, false], [[1], [0, 0]], [], [9]⟩
theorem k_q0 : chk q0 = (1, 7) := by decide +kernel
theorem k_p0 : chk p0 = (0, 0) := by decide +kernel
theorem k_e0 : emit p0 e0 = [35, 1, 9] := by decide +kernel
theorem k_d0 : emit p0 d0 = [1, 9] := by decide +kernel
theorem k_hs : ∀ d ∈ hA.2 ++ hB.2, d.1.size ≤ maxLen ∧ -9223372036854775808 ≤ d.2 ∧ d.2 ≤ 9223372036854775807 := by
  intro d hd; simp [hA, hB] at hd; rcases hd with rfl | rfl | rfl <;> decide
theorem ns_new {w : World} {B c : Nat} {t : TypeId} {f : Nat × Nat} {k : IntKind} (l : List Int) (hb : w.heap[B]? = some (.cells (l.map (Value.int k)).toArray t f)) (h2 : l.length ≤ maxLen) : Ns k w (.slice (some ⟨B, 0, none⟩) l.length c) l :=
  ⟨⟨by simp, by intro u hu; simp at hu; obtain ⟨x, _, rfl⟩ := hu; rfl, .inr ⟨⟨B, 0, none⟩, c, rfl, fun j u hj => by
    rw [show (⟨B, 0, none⟩ : Addr).add j = ⟨B, j, none⟩ by simp [Addr.add]; exact fun h => h.symm]
    rw [cell_of hb, List.getElem?_toArray, hj]⟩⟩, h2⟩
theorem bs_new {w : World} {B c : Nat} {t : TypeId} {f : Nat × Nat} (l : List Bool) (hb : w.heap[B]? = some (.cells (l.map Value.bool).toArray t f)) (h2 : l.length ≤ maxLen) : Bs w (.slice (some ⟨B, 0, none⟩) l.length c) l :=
  ⟨⟨by simp, by intro u hu; simp at hu; rcases hu with ⟨_, rfl⟩ | ⟨_, rfl⟩ <;> rfl, .inr ⟨⟨B, 0, none⟩, c, rfl, fun j u hj => by
    rw [show (⟨B, 0, none⟩ : Addr).add j = ⟨B, j, none⟩ by simp [Addr.add]; exact fun h => h.symm]
    rw [cell_of hb, List.getElem?_toArray, hj]⟩⟩, h2⟩
/-- two of something, in a block of sz cells each -/
theorem rows_two {α : Type} {w : World} {B sz : Nat} {t : TypeId} {f : Nat × Nat} {R : World → List Value → α → Prop} {a b : α} (u v : List Value) (hu : u.length = sz) (hv : v.length = sz) (ha : R w u a) (hb' : R w v b) (hb : w.heap[B]? = some (.cells (u ++ v).toArray t f)) :
    Rows w sz R (.slice (some ⟨B, 0, none⟩) 2 2) [a, b] :=
  .inr ⟨⟨B, 0, none⟩, 2, rfl, Nat.le_refl _, by unfold maxLen; omega, fun _ => rfl, fun i d hi => by
    match i, hi with
    | 0, hi =>
      simp only [List.getElem?_cons_zero, Option.some.injEq] at hi
      subst hi
      refine ⟨u, hu, ha, fun j x hj => ?_⟩
      rw [cell_of hb, List.getElem?_toArray, Nat.zero_add, Nat.zero_mul, Nat.zero_add, List.getElem?_append_left (List.getElem?_eq_some_iff.1 hj).1, hj]
    | 1, hi =>
      simp only [List.getElem?_cons_succ, List.getElem?_cons_zero, Option.some.injEq] at hi
      subst hi
      refine ⟨v, hv, hb', fun j x hj => ?_⟩
      rw [cell_of hb, List.getElem?_toArray, List.getElem?_append_right (by omega), ← hj]
      congr 1; dsimp only; omega
    | i + 2, hi => simp at hi⟩
end Dp

set_option maxRecDepth 8000 in
set_option maxHeartbeats 1000000 in
theorem dawake_any (W : World) : Calls Try.prog 13 #[] W (Rets W (.bool true)) := by
  obtain ⟨OS, hOS⟩ : ∃ OS : List Obj, OS = [(.cells #[.string ⟨#[120]⟩, .int .i64 8] 84), (.cells #[.string ⟨#[121]⟩, .int .i64 4, .string ⟨#[122]⟩, .int .i64 4] 84), (.cells #[.string ⟨#[97]⟩, .slice (some ⟨W.heap.size, 0, none⟩) 1 1, .string ⟨#[98]⟩, .slice (some ⟨W.heap.size + 1, 0, none⟩) 2 2] 72), (.cells #[.int .i64 1, .int .i64 0] 3), (.cells #[.string ⟨#[]⟩, .slice (some ⟨W.heap.size + 1 + 1, 0, none⟩) 2 2, .slice none 0 0, .slice none 0 0, .slice none 0 0, .slice none 0 0, .slice none 0 0, .slice none 0 0, .slice (some ⟨W.heap.size + 1 + 1 + 1, 0, none⟩) 2 2] 31), (.cells #[.bool true, .bool true] 4), (.cells #[.int .u32 1] 64), (.cells #[.int .u32 2, .int .u32 3] 64), (.cells #[.slice (some ⟨W.heap.size + 1 + 1 + 1 + 1 + 1 + 1, 0, none⟩) 1 1, .slice (some ⟨W.heap.size + 1 + 1 + 1 + 1 + 1 + 1 + 1, 0, none⟩) 2 2] 34), (.cells #[.int .u8 9] 5), (.cells #[.slice (some ⟨W.heap.size + 1 + 1 + 1 + 1 + 1, 0, none⟩) 2 2, .slice (some ⟨W.heap.size + 1 + 1 + 1 + 1 + 1 + 1 + 1 + 1, 0, none⟩) 2 2, .slice none 0 0, .slice (some ⟨W.heap.size + 1 + 1 + 1 + 1 + 1 + 1 + 1 + 1 + 1, 0, none⟩) 1 1] 37), (.cells #[.bool true, .bool false] 4), (.cells #[.int .u32 1] 64), (.cells #[.int .u32 0, .int .u32 0] 64), (.cells #[.slice (some ⟨W.heap.size + 1 + 1 + 1 + 1 + 1 + 1 + 1 + 1 + 1 + 1 + 1 + 1, 0, none⟩) 1 1, .slice (some ⟨W.heap.size + 1 + 1 + 1 + 1 + 1 + 1 + 1 + 1 + 1 + 1 + 1 + 1 + 1, 0, none⟩) 2 2] 34), (.cells #[.int .u8 9] 5), (.cells #[.slice (some ⟨W.heap.size + 1 + 1 + 1 + 1 + 1 + 1 + 1 + 1 + 1 + 1 + 1, 0, none⟩) 2 2, .slice (some ⟨W.heap.size + 1 + 1 + 1 + 1 + 1 + 1 + 1 + 1 + 1 + 1 + 1 + 1 + 1 + 1, 0, none⟩) 2 2, .slice none 0 0, .slice (some ⟨W.heap.size + 1 + 1 + 1 + 1 + 1 + 1 + 1 + 1 + 1 + 1 + 1 + 1 + 1 + 1 + 1, 0, none⟩) 1 1] 37), (.cells #[.string ⟨#[]⟩, .slice (some ⟨W.heap.size + 1 + 1, 0, none⟩) 2 2, .slice none 0 0, .slice none 0 0, .slice none 0 0, .slice none 0 0, .slice none 0 0, .slice none 0 0, .slice (some ⟨W.heap.size + 1 + 1 + 1 + 1 + 1 + 1 + 1 + 1 + 1 + 1 + 1 + 1 + 1 + 1 + 1 + 1 + 1 + 1, 0, none⟩) 2 2] 31), (.cells #[.int .i64 1, .int .i64 1] 3)] := ⟨_, rfl⟩
  obtain ⟨W2, hW2⟩ : ∃ W2, W2 = Dp.tower W OS := ⟨_, rfl⟩
  have hx2 : Ext W W2 := by rw [hW2]; exact Dp.tower_heap.tower_ext OS W
  have HTW : Hid (W2 = (((((((((((((((((((W.alloc (.cells #[.string ⟨#[120]⟩, .int .i64 8] 84)).alloc (.cells #[.string ⟨#[121]⟩, .int .i64 4, .string ⟨#[122]⟩, .int .i64 4] 84)).alloc (.cells #[.string ⟨#[97]⟩, .slice (some ⟨W.heap.size, 0, none⟩) 1 1, .string ⟨#[98]⟩, .slice (some ⟨W.heap.size + 1, 0, none⟩) 2 2] 72)).alloc (.cells #[.int .i64 1, .int .i64 0] 3)).alloc (.cells #[.string ⟨#[]⟩, .slice (some ⟨W.heap.size + 1 + 1, 0, none⟩) 2 2, .slice none 0 0, .slice none 0 0, .slice none 0 0, .slice none 0 0, .slice none 0 0, .slice none 0 0, .slice (some ⟨W.heap.size + 1 + 1 + 1, 0, none⟩) 2 2] 31)).alloc (.cells #[.bool true, .bool true] 4)).alloc (.cells #[.int .u32 1] 64)).alloc (.cells #[.int .u32 2, .int .u32 3] 64)).alloc (.cells #[.slice (some ⟨W.heap.size + 1 + 1 + 1 + 1 + 1 + 1, 0, none⟩) 1 1, .slice (some ⟨W.heap.size + 1 + 1 + 1 + 1 + 1 + 1 + 1, 0, none⟩) 2 2] 34)).alloc (.cells #[.int .u8 9] 5)).alloc (.cells #[.slice (some ⟨W.heap.size + 1 + 1 + 1 + 1 + 1, 0, none⟩) 2 2, .slice (some ⟨W.heap.size + 1 + 1 + 1 + 1 + 1 + 1 + 1 + 1, 0, none⟩) 2 2, .slice none 0 0, .slice (some ⟨W.heap.size + 1 + 1 + 1 + 1 + 1 + 1 + 1 + 1 + 1, 0, none⟩) 1 1] 37)).alloc (.cells #[.bool true, .bool false] 4)).alloc (.cells #[.int .u32 1] 64)).alloc (.cells #[.int .u32 0, .int .u32 0] 64)).alloc (.cells #[.slice (some ⟨W.heap.size + 1 + 1 + 1 + 1 + 1 + 1 + 1 + 1 + 1 + 1 + 1 + 1, 0, none⟩) 1 1, .slice (some ⟨W.heap.size + 1 + 1 + 1 + 1 + 1 + 1 + 1 + 1 + 1 + 1 + 1 + 1 + 1, 0, none⟩) 2 2] 34)).alloc (.cells #[.int .u8 9] 5)).alloc (.cells #[.slice (some ⟨W.heap.size + 1 + 1 + 1 + 1 + 1 + 1 + 1 + 1 + 1 + 1 + 1, 0, none⟩) 2 2, .slice (some ⟨W.heap.size + 1 + 1 + 1 + 1 + 1 + 1 + 1 + 1 + 1 + 1 + 1 + 1 + 1 + 1, 0, none⟩) 2 2, .slice none 0 0, .slice (some ⟨W.heap.size + 1 + 1 + 1 + 1 + 1 + 1 + 1 + 1 + 1 + 1 + 1 + 1 + 1 + 1 + 1, 0, none⟩) 1 1] 37)).alloc (.cells #[.string ⟨#[]⟩, .slice (some ⟨W.heap.size + 1 + 1, 0, none⟩) 2 2, .slice none 0 0, .slice none 0 0, .slice none 0 0, .slice none 0 0, .slice none 0 0, .slice none 0 0, .slice (some ⟨W.heap.size + 1 + 1 + 1 + 1 + 1 + 1 + 1 + 1 + 1 + 1 + 1 + 1 + 1 + 1 + 1 + 1 + 1 + 1, 0, none⟩) 2 2] 31)).alloc (.cells #[.int .i64 1, .int .i64 1] 3))) := Lib.hid (by rw [hW2, hOS]; simp only [Dp.tower, List.foldl])
  have hb0 : W2.heap[W.heap.size]? = some (.cells #[.string ⟨#[120]⟩, .int .i64 8] 84) := by rw [hW2]; exact Dp.tower_heap (os := OS) (i := 0) (by rw [hOS]; rfl)
  have hb1 : W2.heap[W.heap.size + 1]? = some (.cells #[.string ⟨#[121]⟩, .int .i64 4, .string ⟨#[122]⟩, .int .i64 4] 84) := by rw [hW2]; exact Dp.tower_heap (os := OS) (i := 1) (by rw [hOS]; rfl)
  have hb2 : W2.heap[W.heap.size + 1 + 1]? = some (.cells #[.string ⟨#[97]⟩, .slice (some ⟨W.heap.size, 0, none⟩) 1 1, .string ⟨#[98]⟩, .slice (some ⟨W.heap.size + 1, 0, none⟩) 2 2] 72) := by rw [hW2]; exact Dp.tower_heap (os := OS) (i := 2) (by rw [hOS]; rfl)
  have hb3 : W2.heap[W.heap.size + 1 + 1 + 1]? = some (.cells #[.int .i64 1, .int .i64 0] 3) := by rw [hW2]; exact Dp.tower_heap (os := OS) (i := 3) (by rw [hOS]; rfl)
  have hb4 : W2.heap[W.heap.size + 1 + 1 + 1 + 1]? = some (.cells #[.string ⟨#[]⟩, .slice (some ⟨W.heap.size + 1 + 1, 0, none⟩) 2 2, .slice none 0 0, .slice none 0 0, .slice none 0 0, .slice none 0 0, .slice none 0 0, .slice none 0 0, .slice (some ⟨W.heap.size + 1 + 1 + 1, 0, none⟩) 2 2] 31) := by rw [hW2]; exact Dp.tower_heap (os := OS) (i := 4) (by rw [hOS]; rfl)
  have hb5 : W2.heap[W.heap.size + 1 + 1 + 1 + 1 + 1]? = some (.cells #[.bool true, .bool true] 4) := by rw [hW2]; exact Dp.tower_heap (os := OS) (i := 5) (by rw [hOS]; rfl)
  have hb6 : W2.heap[W.heap.size + 1 + 1 + 1 + 1 + 1 + 1]? = some (.cells #[.int .u32 1] 64) := by rw [hW2]; exact Dp.tower_heap (os := OS) (i := 6) (by rw [hOS]; rfl)
  have hb7 : W2.heap[W.heap.size + 1 + 1 + 1 + 1 + 1 + 1 + 1]? = some (.cells #[.int .u32 2, .int .u32 3] 64) := by rw [hW2]; exact Dp.tower_heap (os := OS) (i := 7) (by rw [hOS]; rfl)
  have hb8 : W2.heap[W.heap.size + 1 + 1 + 1 + 1 + 1 + 1 + 1 + 1]? = some (.cells #[.slice (some ⟨W.heap.size + 1 + 1 + 1 + 1 + 1 + 1, 0, none⟩) 1 1, .slice (some ⟨W.heap.size + 1 + 1 + 1 + 1 + 1 + 1 + 1, 0, none⟩) 2 2] 34) := by rw [hW2]; exact Dp.tower_heap (os := OS) (i := 8) (by rw [hOS]; rfl)
  have hb9 : W2.heap[W.heap.size + 1 + 1 + 1 + 1 + 1 + 1 + 1 + 1 + 1]? = some (.cells #[.int .u8 9] 5) := by rw [hW2]; exact Dp.tower_heap (os := OS) (i := 9) (by rw [hOS]; rfl)
  have hb10 : W2.heap[W.heap.size + 1 + 1 + 1 + 1 + 1 + 1 + 1 + 1 + 1 + 1]? = some (.cells #[.slice (some ⟨W.heap.size + 1 + 1 + 1 + 1 + 1, 0, none⟩) 2 2, .slice (some ⟨W.heap.size + 1 + 1 + 1 + 1 + 1 + 1 + 1 + 1, 0, none⟩) 2 2, .slice none 0 0, .slice (some ⟨W.heap.size + 1 + 1 + 1 + 1 + 1 + 1 + 1 + 1 + 1, 0, none⟩) 1 1] 37) := by rw [hW2]; exact Dp.tower_heap (os := OS) (i := 10) (by rw [hOS]; rfl)
  have hb11 : W2.heap[W.heap.size + 1 + 1 + 1 + 1 + 1 + 1 + 1 + 1 + 1 + 1 + 1]? = some (.cells #[.bool true, .bool false] 4) := by rw [hW2]; exact Dp.tower_heap (os := OS) (i := 11) (by rw [hOS]; rfl)
  have hb12 : W2.heap[W.heap.size + 1 + 1 + 1 + 1 + 1 + 1 + 1 + 1 + 1 + 1 + 1 + 1]? = some (.cells #[.int .u32 1] 64) := by rw [hW2]; exact Dp.tower_heap (os := OS) (i := 12) (by rw [hOS]; rfl)
  have hb13 : W2.heap[W.heap.size + 1 + 1 + 1 + 1 + 1 + 1 + 1 + 1 + 1 + 1 + 1 + 1 + 1]? = some (.cells #[.int .u32 0, .int .u32 0] 64) := by rw [hW2]; exact Dp.tower_heap (os := OS) (i := 13) (by rw [hOS]; rfl)
  have hb14 : W2.heap[W.heap.size + 1 + 1 + 1 + 1 + 1 + 1 + 1 + 1 + 1 + 1 + 1 + 1 + 1 + 1]? = some (.cells #[.slice (some ⟨W.heap.size + 1 + 1 + 1 + 1 + 1 + 1 + 1 + 1 + 1 + 1 + 1 + 1, 0, none⟩) 1 1, .slice (some ⟨W.heap.size + 1 + 1 + 1 + 1 + 1 + 1 + 1 + 1 + 1 + 1 + 1 + 1 + 1, 0, none⟩) 2 2] 34) := by rw [hW2]; exact Dp.tower_heap (os := OS) (i := 14) (by rw [hOS]; rfl)
  have hb15 : W2.heap[W.heap.size + 1 + 1 + 1 + 1 + 1 + 1 + 1 + 1 + 1 + 1 + 1 + 1 + 1 + 1 + 1]? = some (.cells #[.int .u8 9] 5) := by rw [hW2]; exact Dp.tower_heap (os := OS) (i := 15) (by rw [hOS]; rfl)
  have hb16 : W2.heap[W.heap.size + 1 + 1 + 1 + 1 + 1 + 1 + 1 + 1 + 1 + 1 + 1 + 1 + 1 + 1 + 1 + 1]? = some (.cells #[.slice (some ⟨W.heap.size + 1 + 1 + 1 + 1 + 1 + 1 + 1 + 1 + 1 + 1 + 1, 0, none⟩) 2 2, .slice (some ⟨W.heap.size + 1 + 1 + 1 + 1 + 1 + 1 + 1 + 1 + 1 + 1 + 1 + 1 + 1 + 1, 0, none⟩) 2 2, .slice none 0 0, .slice (some ⟨W.heap.size + 1 + 1 + 1 + 1 + 1 + 1 + 1 + 1 + 1 + 1 + 1 + 1 + 1 + 1 + 1, 0, none⟩) 1 1] 37) := by rw [hW2]; exact Dp.tower_heap (os := OS) (i := 16) (by rw [hOS]; rfl)
  have hb17 : W2.heap[W.heap.size + 1 + 1 + 1 + 1 + 1 + 1 + 1 + 1 + 1 + 1 + 1 + 1 + 1 + 1 + 1 + 1 + 1]? = some (.cells #[.string ⟨#[]⟩, .slice (some ⟨W.heap.size + 1 + 1, 0, none⟩) 2 2, .slice none 0 0, .slice none 0 0, .slice none 0 0, .slice none 0 0, .slice none 0 0, .slice none 0 0, .slice (some ⟨W.heap.size + 1 + 1 + 1 + 1 + 1 + 1 + 1 + 1 + 1 + 1 + 1 + 1 + 1 + 1 + 1 + 1 + 1 + 1, 0, none⟩) 2 2] 31) := by rw [hW2]; exact Dp.tower_heap (os := OS) (i := 17) (by rw [hOS]; rfl)
  have hb18 : W2.heap[W.heap.size + 1 + 1 + 1 + 1 + 1 + 1 + 1 + 1 + 1 + 1 + 1 + 1 + 1 + 1 + 1 + 1 + 1 + 1]? = some (.cells #[.int .i64 1, .int .i64 1] 3) := by rw [hW2]; exact Dp.tower_heap (os := OS) (i := 18) (by rw [hOS]; rfl)
  have c4_0 := alw (cell_of (o := 0) hb4)
  have c4_1 := alw (cell_of (o := 1) hb4)
  have c4_2 := alw (cell_of (o := 2) hb4)
  have c4_3 := alw (cell_of (o := 3) hb4)
  have c4_4 := alw (cell_of (o := 4) hb4)
  have c4_5 := alw (cell_of (o := 5) hb4)
  have c4_6 := alw (cell_of (o := 6) hb4)
  have c4_7 := alw (cell_of (o := 7) hb4)
  have c4_8 := alw (cell_of (o := 8) hb4)
  have c10_0 := alw (cell_of (o := 0) hb10)
  have c10_1 := alw (cell_of (o := 1) hb10)
  have c10_2 := alw (cell_of (o := 2) hb10)
  have c10_3 := alw (cell_of (o := 3) hb10)
  have c16_0 := alw (cell_of (o := 0) hb16)
  have c16_1 := alw (cell_of (o := 1) hb16)
  have c16_2 := alw (cell_of (o := 2) hb16)
  have c16_3 := alw (cell_of (o := 3) hb16)
  have c17_0 := alw (cell_of (o := 0) hb17)
  have c17_1 := alw (cell_of (o := 1) hb17)
  have c17_2 := alw (cell_of (o := 2) hb17)
  have c17_3 := alw (cell_of (o := 3) hb17)
  have c17_4 := alw (cell_of (o := 4) hb17)
  have c17_5 := alw (cell_of (o := 5) hb17)
  have c17_6 := alw (cell_of (o := 6) hb17)
  have c17_7 := alw (cell_of (o := 7) hb17)
  have c17_8 := alw (cell_of (o := 8) hb17)
  have hfa : Hd.Flds W2 (.slice (some ⟨W.heap.size, 0, none⟩) 1 1) Dp.hA.2 := Hd.flds_new Dp.hA.2 (fun d hd => Dp.k_hs d (List.mem_append_left _ hd)) hb0 (by decide)
  have hfb : Hd.Flds W2 (.slice (some ⟨W.heap.size + 1, 0, none⟩) 2 2) Dp.hB.2 := Hd.flds_new Dp.hB.2 (fun d hd => Dp.k_hs d (List.mem_append_right _ hd)) hb1 (by decide)
  have hhs : Rows W2 2 Hd.HdrR (.slice (some ⟨W.heap.size + 1 + 1, 0, none⟩) 2 2) [Dp.hA, Dp.hB] := Dp.rows_two [.string ⟨#[97]⟩, .slice (some ⟨W.heap.size, 0, none⟩) 1 1] [.string ⟨#[98]⟩, .slice (some ⟨W.heap.size + 1, 0, none⟩) 2 2] rfl rfl ⟨_, rfl, by decide, hfa⟩ ⟨_, rfl, by decide, hfb⟩ hb2
  have hp : Pg.IsP W2 ⟨.string ⟨#[]⟩, .slice (some ⟨W.heap.size + 1 + 1, 0, none⟩) 2 2, .slice none 0 0, .slice none 0 0, .slice none 0 0, .slice none 0 0, .slice none 0 0, .slice none 0 0, .slice (some ⟨W.heap.size + 1 + 1 + 1, 0, none⟩) 2 2⟩ Dp.p0 := ⟨⟨_, rfl⟩, hhs, Hd.flds_nil _, ⟨_, _, _, rfl⟩, ⟨_, _, _, rfl⟩, ⟨_, _, _, rfl⟩, ⟨_, _, _, rfl⟩, ⟨_, _, _, rfl⟩, Dp.ns_new [1, 0] hb3 (by decide)⟩
  have hq : Pg.IsP W2 ⟨.string ⟨#[]⟩, .slice (some ⟨W.heap.size + 1 + 1, 0, none⟩) 2 2, .slice none 0 0, .slice none 0 0, .slice none 0 0, .slice none 0 0, .slice none 0 0, .slice none 0 0, .slice (some ⟨W.heap.size + 1 + 1 + 1 + 1 + 1 + 1 + 1 + 1 + 1 + 1 + 1 + 1 + 1 + 1 + 1 + 1 + 1 + 1, 0, none⟩) 2 2⟩ Dp.q0 := ⟨⟨_, rfl⟩, hhs, Hd.flds_nil _, ⟨_, _, _, rfl⟩, ⟨_, _, _, rfl⟩, ⟨_, _, _, rfl⟩, ⟨_, _, _, rfl⟩, ⟨_, _, _, rfl⟩, Dp.ns_new [1, 1] hb18 (by decide)⟩
  have hcp : Pg.CapP ⟨.string ⟨#[]⟩, .slice (some ⟨W.heap.size + 1 + 1, 0, none⟩) 2 2, .slice none 0 0, .slice none 0 0, .slice none 0 0, .slice none 0 0, .slice none 0 0, .slice none 0 0, .slice (some ⟨W.heap.size + 1 + 1 + 1, 0, none⟩) 2 2⟩ := ⟨_, _, _, rfl, by decide, by decide⟩
  have hcq : Pg.CapP ⟨.string ⟨#[]⟩, .slice (some ⟨W.heap.size + 1 + 1, 0, none⟩) 2 2, .slice none 0 0, .slice none 0 0, .slice none 0 0, .slice none 0 0, .slice none 0 0, .slice none 0 0, .slice (some ⟨W.heap.size + 1 + 1 + 1 + 1 + 1 + 1 + 1 + 1 + 1 + 1 + 1 + 1 + 1 + 1 + 1 + 1 + 1 + 1, 0, none⟩) 2 2⟩ := ⟨_, _, _, rfl, by decide, by decide⟩
  have nsn : Ns .u32 W2 (.slice none 0 0) [] ∧ ∀ x ∈ ([] : List Int), U32 x := ⟨⟨⟨rfl, (by simp), .inl ⟨rfl, rfl⟩⟩, by decide⟩, by simp⟩
  have by9 : Io.Bytes [9] := by intro x hx; simp at hx; subst hx; decide
  have he : Pg.IsE W2 ⟨.slice (some ⟨W.heap.size + 1 + 1 + 1 + 1 + 1, 0, none⟩) 2 2, .slice (some ⟨W.heap.size + 1 + 1 + 1 + 1 + 1 + 1 + 1 + 1, 0, none⟩) 2 2, .slice none 0 0, .slice (some ⟨W.heap.size + 1 + 1 + 1 + 1 + 1 + 1 + 1 + 1 + 1, 0, none⟩) 1 1⟩ Dp.e0 := ⟨Dp.bs_new [true, true] hb5 (by decide), Dp.rows_two [.slice (some ⟨W.heap.size + 1 + 1 + 1 + 1 + 1 + 1, 0, none⟩) 1 1] [.slice (some ⟨W.heap.size + 1 + 1 + 1 + 1 + 1 + 1 + 1, 0, none⟩) 2 2] rfl rfl ⟨_, rfl, Dp.ns_new [1] hb6 (by decide), by intro x hx; simp at hx; subst hx; unfold U32; decide⟩ ⟨_, rfl, Dp.ns_new [2, 3] hb7 (by decide), by intro x hx; simp at hx; rcases hx with rfl | rfl <;> (unfold U32; decide)⟩ hb8, nsn, Dp.ns_new [9] hb9 (by decide), by9⟩
  have hd : Pg.IsE W2 ⟨.slice (some ⟨W.heap.size + 1 + 1 + 1 + 1 + 1 + 1 + 1 + 1 + 1 + 1 + 1, 0, none⟩) 2 2, .slice (some ⟨W.heap.size + 1 + 1 + 1 + 1 + 1 + 1 + 1 + 1 + 1 + 1 + 1 + 1 + 1 + 1, 0, none⟩) 2 2, .slice none 0 0, .slice (some ⟨W.heap.size + 1 + 1 + 1 + 1 + 1 + 1 + 1 + 1 + 1 + 1 + 1 + 1 + 1 + 1 + 1, 0, none⟩) 1 1⟩ Dp.d0 := ⟨Dp.bs_new [true, false] hb11 (by decide), Dp.rows_two [.slice (some ⟨W.heap.size + 1 + 1 + 1 + 1 + 1 + 1 + 1 + 1 + 1 + 1 + 1 + 1, 0, none⟩) 1 1] [.slice (some ⟨W.heap.size + 1 + 1 + 1 + 1 + 1 + 1 + 1 + 1 + 1 + 1 + 1 + 1 + 1, 0, none⟩) 2 2] rfl rfl ⟨_, rfl, Dp.ns_new [1] hb12 (by decide), by intro x hx; simp at hx; subst hx; unfold U32; decide⟩ ⟨_, rfl, Dp.ns_new [0, 0] hb13 (by decide), by intro x hx; simp at hx; subst hx; unfold U32; decide⟩ hb14, nsn, Dp.ns_new [9] hb15 (by decide), by9⟩
  have HCQ : Hid (∀ w, Ext W2 w → Calls Try.prog 14 #[.agg #[.string ⟨#[]⟩, .slice (some ⟨W.heap.size + 1 + 1, 0, none⟩) 2 2, .slice none 0 0, .slice none 0 0, .slice none 0 0, .slice none 0 0, .slice none 0 0, .slice none 0 0, .slice (some ⟨W.heap.size + 1 + 1 + 1 + 1 + 1 + 1 + 1 + 1 + 1 + 1 + 1 + 1 + 1 + 1 + 1 + 1 + 1 + 1, 0, none⟩) 2 2]] w (Rets w (.tuple #[.int .i64 1, .int .i64 7]))) := Lib.hid (fun w hx => by have h := dcheck_any (hq.ext hx) hcq; rw [Dp.chkV_of Dp.k_q0] at h; exact h)
  have HCP : Hid (∀ w, Ext W2 w → Calls Try.prog 14 #[.agg #[.string ⟨#[]⟩, .slice (some ⟨W.heap.size + 1 + 1, 0, none⟩) 2 2, .slice none 0 0, .slice none 0 0, .slice none 0 0, .slice none 0 0, .slice none 0 0, .slice none 0 0, .slice (some ⟨W.heap.size + 1 + 1 + 1, 0, none⟩) 2 2]] w (Rets w (.tuple #[.int .i64 0, .int .i64 0]))) := Lib.hid (fun w hx => by have h := dcheck_any (hp.ext hx) hcp; rw [Dp.chkV_of Dp.k_p0] at h; exact h)
  have HEE : Hid (∀ w, Ext W2 w → Calls Try.prog 16 #[.agg #[.string ⟨#[]⟩, .slice (some ⟨W.heap.size + 1 + 1, 0, none⟩) 2 2, .slice none 0 0, .slice none 0 0, .slice none 0 0, .slice none 0 0, .slice none 0 0, .slice none 0 0, .slice (some ⟨W.heap.size + 1 + 1 + 1, 0, none⟩) 2 2], .agg #[.slice (some ⟨W.heap.size + 1 + 1 + 1 + 1 + 1, 0, none⟩) 2 2, .slice (some ⟨W.heap.size + 1 + 1 + 1 + 1 + 1 + 1 + 1 + 1, 0, none⟩) 2 2, .slice none 0 0, .slice (some ⟨W.heap.size + 1 + 1 + 1 + 1 + 1 + 1 + 1 + 1 + 1, 0, none⟩) 1 1]] w fun e' w' => ∃ v, e' = .returned v ∧ Ext w w' ∧ Src w' v 1 3 (u8s [35, 1, 9])) := Lib.hid (fun w hx => by have h := demit_any (hp.ext hx) hcp (he.ext hx) (by decide); rw [Dp.k_e0] at h; exact h)
  have HED : Hid (∀ w, Ext W2 w → Calls Try.prog 16 #[.agg #[.string ⟨#[]⟩, .slice (some ⟨W.heap.size + 1 + 1, 0, none⟩) 2 2, .slice none 0 0, .slice none 0 0, .slice none 0 0, .slice none 0 0, .slice none 0 0, .slice none 0 0, .slice (some ⟨W.heap.size + 1 + 1 + 1, 0, none⟩) 2 2], .agg #[.slice (some ⟨W.heap.size + 1 + 1 + 1 + 1 + 1 + 1 + 1 + 1 + 1 + 1 + 1, 0, none⟩) 2 2, .slice (some ⟨W.heap.size + 1 + 1 + 1 + 1 + 1 + 1 + 1 + 1 + 1 + 1 + 1 + 1 + 1 + 1, 0, none⟩) 2 2, .slice none 0 0, .slice (some ⟨W.heap.size + 1 + 1 + 1 + 1 + 1 + 1 + 1 + 1 + 1 + 1 + 1 + 1 + 1 + 1 + 1, 0, none⟩) 1 1]] w fun e' w' => ∃ v, e' = .returned v ∧ Ext w w' ∧ Src w' v 1 2 (u8s [1, 9])) := Lib.hid (fun w hx => by have h := demit_any (hp.ext hx) hcp (hd.ext hx) (by decide); rw [Dp.k_d0] at h; exact h)
  have HSE : Hid (∀ w, Ext W2 w → Calls Try.prog 18 #[.agg #[.string ⟨#[]⟩, .slice (some ⟨W.heap.size + 1 + 1, 0, none⟩) 2 2, .slice none 0 0, .slice none 0 0, .slice none 0 0, .slice none 0 0, .slice none 0 0, .slice none 0 0, .slice (some ⟨W.heap.size + 1 + 1 + 1, 0, none⟩) 2 2], .agg #[.slice (some ⟨W.heap.size + 1 + 1 + 1 + 1 + 1, 0, none⟩) 2 2, .slice (some ⟨W.heap.size + 1 + 1 + 1 + 1 + 1 + 1 + 1 + 1, 0, none⟩) 2 2, .slice none 0 0, .slice (some ⟨W.heap.size + 1 + 1 + 1 + 1 + 1 + 1 + 1 + 1 + 1, 0, none⟩) 1 1]] w (Rets w (.int .i64 3))) := Lib.hid (fun w hx => by have h := dsize_any (hp.ext hx) hcp (he.ext hx) (by decide); rw [Dp.k_e0] at h; exact h)
  have HX2 := Lib.hid hx2
  clear hOS hfa hfb hhs hp hq hcp hcq nsn by9 he hd hx2 hW2 hb0 hb1 hb2 hb3 hb4 hb5 hb6 hb7 hb8 hb9 hb10 hb11 hb12 hb13 hb14 hb15 hb16 hb17 hb18
  go_enter Try.func13, Try.ntmps13
  go_wp2_with fail
  rw [← HTW.out]
  refine (HCQ.out _ (grows (a := W2))).mono ?_
  rintro e' w1 ⟨rfl, x1⟩
  have s1 := Step.mk x1
  go_wp2_with fail
  refine (HCP.out _ (grows (a := W2))).mono ?_
  rintro e' w2 ⟨rfl, x2⟩
  have s2 := Step.mk x2
  go_wp2_with fail
  refine (HEE.out _ (grows (a := W2))).mono ?_
  rintro e' w3 ⟨v3, rfl, x3, r3⟩
  have s3 := Step.mk x3
  have t3 := src_str (l := [35, 1, 9]) r3
  rw [show strOfNums [35, 1, 9] = ⟨#[35, 1, 9]⟩ by rfl] at t3
  obtain ⟨va3, vc3, hv3, _⟩ := r3.slice
  subst hv3
  clear r3
  go_wp2_with fail
  refine (HED.out _ (grows (a := W2))).mono ?_
  rintro e' w4 ⟨v4, rfl, x4, r4⟩
  have s4 := Step.mk x4
  have t4 := src_str (l := [1, 9]) r4
  rw [show strOfNums [1, 9] = ⟨#[1, 9]⟩ by rfl] at t4
  obtain ⟨va4, vc4, hv4, _⟩ := r4.slice
  subst hv4
  clear r4
  go_wp2_with fail
  refine (HSE.out _ (grows (a := W2))).mono ?_
  rintro e' w5 ⟨rfl, x5⟩
  have s5 := Step.mk x5
  go_wp2_with fail
  go_ret
  exact ⟨rfl, HX2.out.trans grows⟩
end Go.Proofs.Ytonnlcjkgpahoaa
