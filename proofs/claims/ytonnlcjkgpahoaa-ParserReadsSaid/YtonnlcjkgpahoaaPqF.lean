/- Parsers: Check, walked, the package and the reference. No condition. -/
import Derived.Test.YtonnlcjkgpahoaaPqE
import Derived.Test.YtonnlcjkgpahoaaId
import Derived.Test.YtonnlcjkgpahoaaMem
import Derived.Maps.Own
import Derived.Maps.Views
import Derived.StringKeys
namespace Go.Proofs.Ytonnlcjkgpahoaa
open Go.RowKit

open Go.Maps
open Go.WideMaps (keyOf_string_mk)
theorem ext_map {H : Type} {P : Program} {k : TypeId} {R : Value → Option (DataW H × List MemPlace)} {w w' : World} {b n : Nat} {D : DataW H} (h : w.ownsMap P k R b n D) (hx : Ext w w') : w'.ownsMap P k R b n D := by
  obtain ⟨es, clock, hb, F, hs, hD⟩ := h
  exact ⟨es, clock, hx.heap hb, F, hs, hD⟩
theorem lookup_bool {H : Type} {P : Program} {k t e : TypeId} {w : World} {b n : Nat} {D : DataW H} (h : w.ownsMap P k (plainElem P e) b n D) (K : Keyed P k) (ht : P.underlying t = some (.map k e)) (he : P.underlying e = some .bool) (hz : (zeroValue e).run P w = .ok (.bool false) w)
    {key : Value} {kl : Lit} (hkey : keyOf P k key = some kl) : ∃ c, (Instr.lookup t (.map (some b)) key false).run P w = .ok (.bool c) w ∧ D.atKey kl (.lit (.bool false)) = .lit (.bool c) := by
  obtain ⟨v, ps, hrun, hv⟩ := h.lookup K ht hz (plainElem_bool he false) hkey
  unfold plainElem at hv
  rw [he] at hv
  cases v <;> simp at hv
  obtain ⟨h1, h2⟩ := hv
  exact ⟨_, hrun, h1.symm⟩
theorem grown_map {w w' : World} {a : World} {B : Nat} (hx : Ext a w) (h : w.grownBy w' (some B)) (hB : a.heap.size ≤ B) : Ext a w' :=
  Ext.mod hx (S := fun k => some k = some B) (grown_mod h) (fun k hk => by simp only [Option.some.injEq] at hk; omega)
/-- the names of the first k states are in the map at B -/
def NamesM (w : World) (B : Nat) (ss : List Ps.St) (k : Nat) : Prop := ∃ D : DataW Unit, w.ownsMap Try.prog 9 (plainElem Try.prog 4) B k D ∧ ∀ s : ByteArray, s.size ≤ maxLen → D.atKey (.string s.data.toList) (.lit (.bool false)) = .lit (.bool ((ss.take k).any fun y => Hd.same y.nm s))
theorem str_law : Keyed Try.prog 9 := string_keyed Try.underlying9
theorem zero_b (w : World) : (zeroValue 4).run Try.prog w = .ok (.bool false) w := by kernel_rfl
theorem NamesM.ext {w w' : World} {B k : Nat} {ss : List Ps.St} (h : NamesM w B ss k) (hx : Ext w w') : NamesM w' B ss k := by
  obtain ⟨D, h1, h2⟩ := h; exact ⟨D, ext_map h1 hx, h2⟩
theorem NamesM.look {w : World} {B k : Nat} {ss : List Ps.St} (h : NamesM w B ss k) {s : ByteArray} (hs : s.size ≤ maxLen) : (Instr.lookup 92 (.map (some B)) (.string s) false).run Try.prog w = .ok (.bool ((ss.take k).any fun y => Hd.same y.nm s)) w := by
  obtain ⟨D, h1, h2⟩ := h
  obtain ⟨c, hr, hc⟩ := lookup_bool h1 str_law Try.underlying92 Try.underlying4 (zero_b w) (keyOf_string_mk Try.underlying9 hs)
  rw [h2 s hs] at hc
  simp only [DataW.lit.injEq, Lit.bool.injEq] at hc
  rw [hr, hc]
theorem NamesM.put {w' : World} {B k : Nat} {ss : List Ps.St} {D : DataW Unit} {x : Ps.St} (hx : ss[k]? = some x) (hn : x.nm.size ≤ maxLen) (h2 : ∀ s : ByteArray, s.size ≤ maxLen → D.atKey (.string s.data.toList) (.lit (.bool false)) = .lit (.bool ((ss.take k).any fun y => Hd.same y.nm s))) (hD : IsMap D)
    (h : w'.ownsMap Try.prog 9 (plainElem Try.prog 4) B (k + 1) (D.put (.string x.nm.data.toList) (.lit (.bool true)))) : NamesM w' B ss (k + 1) := by
  refine ⟨_, h, fun s hs => ?_⟩
  have ht : ss.take (k + 1) = ss.take k ++ [x] := by rw [List.take_add_one, hx]; rfl
  rw [ht, List.any_append]
  by_cases e : s = x.nm
  · subst e
    rw [atKey_put_same hD (str_law.key (keyOf_string_mk Try.underlying9 hn))]
    simp [Hd.same_self]
  · have hne : (Lit.string s.data.toList) ≠ .string x.nm.data.toList := fun h => e (by
      simp only [Lit.string.injEq] at h
      cases s; cases hh : x.nm
      rw [hh] at h
      congr 1
      exact Array.ext' h)
    rw [atKey_put_other hne, h2 s hs]
    have : Hd.same x.nm s = false := by rw [← Bool.not_eq_true, Hd.same_iff]; exact fun h => e h.symm
    simp [this]
theorem NamesM.new (w : World) (ss : List Ps.St) : NamesM (w.alloc (.map #[] 0)) w.heap.size ss 0 :=
  ⟨.map [], World.ownsMap_made _ _ _ _, fun s _ => by simp; rfl⟩
theorem ret_three {R : Int × Int × Int} {a b c : Int} (h : R = (a, b, c)) : Ending.returned (.tuple #[.int .i64 a, .int .i64 b, .int .i64 c]) = .returned (.tuple #[.int .i64 R.1, .int .i64 R.2.1, .int .i64 R.2.2]) := by rw [h]
namespace Ps
theorem chk_bad {P : Pg.Prog} {ss : List St} {k : Nat} (h1 : ss.length ≠ 0) (h2 : ¬ 12 < ss.length) (hk : k < ss.length) (hz : ∀ j, j < k → (allE P ss j).2 = 0) (hp : (allE P ss k).2 ≠ 0) : chk P ss = ((k : Int), (allE P ss k).1, (allE P ss k).2) := by
  unfold chk; rw [if_neg h1, if_neg h2, fb_some hk hz hp]
theorem chk_good {P : Pg.Prog} {ss : List St} (h1 : ss.length ≠ 0) (h2 : ¬ 12 < ss.length) (hz : ∀ j, j < ss.length → (allE P ss j).2 = 0) : chk P ss = (0, 0, 0) := by
  unfold chk; rw [if_neg h1, if_neg h2, fb_none hz]
theorem allE_name {P : Pg.Prog} {ss : List St} {k : Nat} {x : St} (hx : ss[k]? = some x) (h : Id.ok x.nm = false) : allE P ss k = (-1, 6) := by
  unfold allE; rw [List.getD_eq_getElem?_getD, hx]; show (if (!Id.ok x.nm) = true then _ else _) = _; rw [h]; rfl
theorem allE_dup {P : Pg.Prog} {ss : List St} {k : Nat} {x : St} (hx : ss[k]? = some x) (h : Id.ok x.nm = true) (hd : ((ss.take k).any fun y => Hd.same y.nm x.nm) = true) : allE P ss k = (-1, 7) := by
  unfold allE dup; rw [List.getD_eq_getElem?_getD, hx]; show (if (!Id.ok x.nm) = true then _ else if ((ss.take k).any fun y => Hd.same y.nm x.nm) = true then _ else _) = _; rw [h, hd]; rfl
theorem allE_st {P : Pg.Prog} {ss : List St} {k : Nat} {x : St} (hx : ss[k]? = some x) (h : Id.ok x.nm = true) (hd : ((ss.take k).any fun y => Hd.same y.nm x.nm) = false) : allE P ss k = stE P ss.length k x := by
  unfold allE dup; rw [List.getD_eq_getElem?_getD, hx]; show (if (!Id.ok x.nm) = true then _ else if ((ss.take k).any fun y => Hd.same y.nm x.nm) = true then _ else stE P ss.length k x) = _; rw [h, hd]; rfl
end Ps
set_option maxRecDepth 8000 in
set_option maxHeartbeats 8000000 in
theorem pcheck_any {W : World} {p : Pg.PV} {P : Pg.Prog} {ss : List Ps.St} (hq : Ps.IsQ W p P ss) : Calls Try.prog 23 #[p.val] W (Rets W (.tuple #[.int .i64 (Ps.chk P ss).1, .int .i64 (Ps.chk P ss).2.1, .int .i64 (Ps.chk P ss).2.2])) := by
  obtain ⟨s, a1, a2, a3, a4, a5, a6, a7, a8, m1, m2, n3, m3, n4, m4, n5, m5, n6, m6, n7, m7, m8, hf⟩ := hq.1.form
  obtain ⟨rfl, hhs, hmd, _, hl1, hl2, _⟩ := hf
  have hss := hq.2
  dsimp only at hss
  obtain ⟨a6', m6', e6, hl6, hc6⟩ := hss.slice
  simp only [Value.slice.injEq] at e6
  obtain ⟨rfl, rfl, rfl⟩ := e6
  unfold maxLen at hc6
  obtain ⟨R, hR⟩ : ∃ z, z = Ps.chk P ss := ⟨_, rfl⟩
  rw [← hR]
  have HQ := Lib.hid hq
  have HSS := Lib.hid hss
  have bx := alloc_heap W (.cells #[.string s, .slice a1 P.hs.length m1, .slice a2 P.md.length m2, .slice a3 n3 m3, .slice a4 n4 m4, .slice a5 n5 m5, .slice a6 ss.length m6, .slice a7 n7 m7, .slice a8 P.dp.length m8] 31)
  have pc0 := alw (cell_of (o := 0) bx)
  have pc1 := alw (cell_of (o := 1) bx)
  have pc2 := alw (cell_of (o := 2) bx)
  have pc3 := alw (cell_of (o := 3) bx)
  have pc4 := alw (cell_of (o := 4) bx)
  have pc5 := alw (cell_of (o := 5) bx)
  have pc6 := alw (cell_of (o := 6) bx)
  have pc7 := alw (cell_of (o := 7) bx)
  have pc8 := alw (cell_of (o := 8) bx)
  clear bx
  dsimp only [Pg.PV.val]
  clear hq hhs hmd hss
  by_cases h0 : ss.length = 0
  · have HR : Hid (R = (-1, -1, 8)) := Lib.hid (by rw [hR]; unfold Ps.chk; rw [if_pos h0])
    have e0 : ((ss.length : Int) == 0) = true := beq_iff_eq.2 (by omega)
    clear hR
    go_enter Try.func23, Try.ntmps23
    go_wp2_with fail
    go_ret3
    exact ⟨ret_three (by rw [HR.out]), grows⟩
  · have e0 : ((ss.length : Int) == 0) = false := beq_eq_false_iff_ne.2 (by omega)
    by_cases h12 : 12 < ss.length
    · have HR : Hid (R = (-1, -1, 12)) := Lib.hid (by rw [hR]; unfold Ps.chk; rw [if_neg h0, if_pos h12])
      have e1 : decide ((12 : Int) < (ss.length : Int)) = true := decide_eq_true (by omega)
      clear hR
      go_enter Try.func23, Try.ntmps23
      go_wp2_with fail
      go_ret3
      exact ⟨ret_three (by rw [HR.out]), grows⟩
    · have e1 : decide ((12 : Int) < (ss.length : Int)) = false := decide_eq_false (by omega)
      have HR := Lib.hid hR
      have HH0 := Lib.hid h0
      have HH12 := Lib.hid h12
      have hmm := @run_makeMap Try.prog
      clear hR h0
      go_enter Try.func23, Try.ntmps23
      go_wp2_with fail
      go_loopw [24] (fun q wr => ∃ i : Nat, i ≤ ss.length ∧ q = .int .i64 i ∧ Hid (NamesM wr (W.heap.size + 1) ss i ∧ Ext (W.alloc (.cells #[.string s, .slice a1 P.hs.length m1, .slice a2 P.md.length m2, .slice a3 n3 m3, .slice a4 n4 m4, .slice a5 n5 m5, .slice a6 ss.length m6, .slice a7 n7 m7, .slice a8 P.dp.length m8] 31)) wr ∧ ∀ j, j < i → (Ps.allE P ss j).2 = 0)) (fun q _ => ss.length - (intOf q).toNat)
      case atStart => exact ⟨0, Nat.zero_le _, rfl, Lib.hid ⟨by have h := NamesM.new (W.alloc (.cells #[.string s, .slice a1 P.hs.length m1, .slice a2 P.md.length m2, .slice a3 n3 m3, .slice a4 n4 m4, .slice a5 n5 m5, .slice a6 ss.length m6, .slice a7 n7 m7, .slice a8 P.dp.length m8] 31)) ss; rw [World.size_alloc] at h; exact h, (Ext.refl _).alloc _, by intro j hj; omega⟩⟩
      case round =>
        clear hmm
        obtain ⟨i, hi, rfl, HI⟩ := hrel
        obtain ⟨hnm, hx, hz⟩ := HI.out
        have sx := Step.mk hx
        have HZ := Lib.hid hz
        have HN := Lib.hid hnm
        clear hx hz HI hnm
        by_cases hlt : i < ss.length
        · obtain ⟨x, hk⟩ : ∃ x, ss[i]? = some x := ⟨_, List.getElem?_eq_getElem (by omega)⟩
          obtain ⟨ab, ao, rfl, _, _⟩ := HSS.out.at (by omega)
          obtain ⟨ea, ec, ca, cc, hnm, hex, hcs, hcl, hcm, g0, g1, g2, g3, g4, g5, g6⟩ := st_at HSS.out i x hk rfl
          have HK := Lib.hid hk
          have HM := Lib.hid hnm
          have y0 := alw g0
          have y1 := alw g1
          have y2 := alw g2
          have y3 := alw g3
          have y4 := alw g4
          have y5 := alw g5
          have y6 := alw g6
          have bx := alloc_heap wr (.cells #[.string x.nm, .slice ea x.ex.length ec, .bool x.sel, .int .i64 x.h, .int .i64 x.f, .slice ca x.cs.length cc, .int .i64 x.df] 61)
          have dc0 := alw (cell_of (o := 0) bx)
          have dc1 := alw (cell_of (o := 1) bx)
          have dc2 := alw (cell_of (o := 2) bx)
          have dc3 := alw (cell_of (o := 3) bx)
          have dc4 := alw (cell_of (o := 4) bx)
          have dc5 := alw (cell_of (o := 5) bx)
          have dc6 := alw (cell_of (o := 6) bx)
          clear bx
          obtain ⟨id, hid⟩ : ∃ z, z = Id.ok x.nm := ⟨_, rfl⟩
          have HID : Hid (∀ w, Calls Try.prog 51 #[.string x.nm] w (Rets w (.bool id))) := Lib.hid (fun w => by have h := ident_any x.nm w hnm; rw [← hid] at h; exact Rets.of_eq h)
          have HI2 := Lib.hid hid
          clear hk hex hcs hcl hcm g0 g1 g2 g3 g4 g5 g6 hid hnm
          cases id with
          | false =>
            have HE : Hid (Ps.allE P ss i = (-1, 6)) := Lib.hid (Ps.allE_name HK.out HI2.out.symm)
            go_wp2_with fail
            refine (HID.out _).mono ?_
            rintro e w5 ⟨rfl, xw5⟩
            have sw5 := Step.mk xw5
            go_wp2_with fail
            go_ret3
            exact ⟨ret_three (by rw [HR.out, Ps.chk_bad HH0.out HH12.out hlt HZ.out (by rw [HE.out]; decide), HE.out]), grows⟩
          | true =>
            obtain ⟨dp, hdp⟩ : ∃ z, z = ((ss.take i).any fun y => Hd.same y.nm x.nm) := ⟨_, rfl⟩
            have HDP := Lib.hid hdp
            clear hdp
            go_wp2_with fail
            refine (HID.out _).mono ?_
            rintro e w5 ⟨rfl, x5⟩
            have s5 := Step.mk x5
            have hlook := ((HN.out.ext (grows (a := wr) (b := w5))).look HM.out)
            rw [← HDP.out] at hlook
            cases dp with
            | true =>
              have HE : Hid (Ps.allE P ss i = (-1, 7)) := Lib.hid (Ps.allE_dup HK.out HI2.out.symm HDP.out.symm)
              go_wp2_with fail
              go_ret3
              exact ⟨ret_three (by rw [HR.out, Ps.chk_bad HH0.out HH12.out hlt HZ.out (by rw [HE.out]; decide), HE.out]), grows⟩
            | false =>
              have HE : Hid (Ps.allE P ss i = Ps.stE P ss.length i x) := Lib.hid (Ps.allE_st HK.out HI2.out.symm HDP.out.symm)
              obtain ⟨⟨S1, S2⟩, hS⟩ : ∃ z, z = Ps.stE P ss.length i x := ⟨_, rfl⟩
              have HC : Hid (∀ w, Ext W w → Calls Try.prog 52 #[.agg #[.string s, .slice a1 P.hs.length m1, .slice a2 P.md.length m2, .slice a3 n3 m3, .slice a4 n4 m4, .slice a5 n5 m5, .slice (some ⟨ab, ao, none⟩) ss.length m6, .slice a7 n7 m7, .slice a8 P.dp.length m8], .int .i64 i] w (Rets w (.tuple #[.int .i64 S1, .int .i64 S2]))) := Lib.hid (fun w hx => by have h := cstate_any (HQ.out.ext hx) i x HK.out; rw [← hS] at h; exact h)
              have HSX := Lib.hid hS
              obtain ⟨D, hD⟩ := HN.out.ext (grows (a := wr) (b := w5))
              have HD2 := Lib.hid hD.2
              have hown := hD.1
              have hkey : keyOf Try.prog 9 (.string x.nm) = some (.string x.nm.data.toList) := keyOf_string_mk Try.underlying9 HM.out
              have HDM : Hid (IsMap D) := Lib.hid (by obtain ⟨es, clock, _, _, _, e⟩ := hown; exact ⟨_, e⟩)
              have HKY := Lib.hid hkey
              have HOW := Lib.hid hown
              clear hS hD hown hkey
              go_wp2_with (first | (at_mapUpdate; refine wpList_mapUpdate_own _ rfl _ _ _ 92 rfl 9 4 str_law Try.underlying92 _ (W.heap.size + 1) i _ rfl HOW.out (by unfold maxLen; omega) _ _ _ rfl rfl HKY.out _ [] (plainElem_bool Try.underlying4 true) ?_) | fail)
              intro w6 hown6 hg6
              have hx6 : Ext (W.alloc (.cells #[.string s, .slice a1 P.hs.length m1, .slice a2 P.md.length m2, .slice a3 n3 m3, .slice a4 n4 m4, .slice a5 n5 m5, .slice (some ⟨ab, ao, none⟩) ss.length m6, .slice a7 n7 m7, .slice a8 P.dp.length m8] 31)) w6 := grown_map (grows (a := (W.alloc (.cells #[.string s, .slice a1 P.hs.length m1, .slice a2 P.md.length m2, .slice a3 n3 m3, .slice a4 n4 m4, .slice a5 n5 m5, .slice (some ⟨ab, ao, none⟩) ss.length m6, .slice a7 n7 m7, .slice a8 P.dp.length m8] 31))) (b := w5)) hg6 (by rw [World.size_alloc]; omega)
              have s6 : Step (W.alloc (.cells #[.string s, .slice a1 P.hs.length m1, .slice a2 P.md.length m2, .slice a3 n3 m3, .slice a4 n4 m4, .slice a5 n5 m5, .slice (some ⟨ab, ao, none⟩) ss.length m6, .slice a7 n7 m7, .slice a8 P.dp.length m8] 31)) w6 := Step.mk hx6
              have HN6 : Hid (NamesM w6 (W.heap.size + 1) ss (i + 1)) := Lib.hid (NamesM.put HK.out HM.out HD2.out HDM.out hown6)
              clear hown6 hg6 hx6 hlook
              by_cases hs0 : S2 = 0
              · subst hs0
                have HE0 : Hid ((Ps.allE P ss i).2 = 0) := Lib.hid (by rw [HE.out, ← HSX.out])
                go_wp2_with fail
                refine (HC.out _ grows).mono ?_
                rintro e w7 ⟨rfl, xw7⟩
                have sw7 := Step.mk xw7
                go_wp2_with fail
                go_roundw
                case rel =>
                  refine ⟨i + 1, by omega, by go_num, Lib.hid ⟨HN6.out.ext grows, grows, fun j hj => ?_⟩⟩
                  rcases Nat.lt_or_ge j i with h1 | h1
                  · exact HZ.out j h1
                  · obtain rfl : j = i := by omega
                    exact HE0.out
                case measure => simp [intOf]; omega
              · have z1 : (S2 != 0) = true := bne_iff_ne.2 hs0
                have HS0 := Lib.hid hs0
                clear hs0
                go_wp2_with fail
                refine (HC.out _ grows).mono ?_
                rintro e w7 ⟨rfl, xw7⟩
                have sw7 := Step.mk xw7
                go_wp2_with fail
                go_ret3
                exact ⟨ret_three (by rw [HR.out, Ps.chk_bad HH0.out HH12.out hlt HZ.out (by rw [HE.out, ← HSX.out]; exact HS0.out), HE.out, ← HSX.out]), grows⟩
        · obtain rfl : i = ss.length := by omega
          go_wp2_with fail
          go_ret3
          exact ⟨ret_three (by rw [HR.out, Ps.chk_good HH0.out HH12.out HZ.out]), grows⟩
end Go.Proofs.Ytonnlcjkgpahoaa
namespace Go.Proofs.Ytonnlcjkgpahoaa
open Go.RowKit

namespace Ps
theorem any_no {ss : List St} {k : Nat} {nm : ByteArray} (hk : k ≤ ss.length) (h : ∀ j, j < k → Hd.same (ss.getD j st0).nm nm = false) : ((ss.take k).any fun y => Hd.same y.nm nm) = false := by
  rw [← Bool.not_eq_true, List.any_eq_true]
  rintro ⟨y, hy, h1⟩
  obtain ⟨j, hj, rfl⟩ := List.mem_iff_getElem.1 hy
  rw [List.length_take] at hj
  have h2 := h j (by omega)
  rw [List.getD_eq_getElem?_getD, List.getElem?_eq_getElem (by omega), Option.getD_some] at h2
  rw [List.getElem_take] at h1
  rw [h2] at h1; cases h1
theorem any_yes {ss : List St} {k i : Nat} {nm : ByteArray} {y : St} (hi : i < k) (hy : ss[i]? = some y) (h : Hd.same y.nm nm = true) : ((ss.take k).any fun y => Hd.same y.nm nm) = true := by
  rw [List.any_eq_true]
  exact ⟨y, List.mem_of_getElem? (i := i) (by rw [List.getElem?_take, if_pos hi]; exact hy), h⟩
end Ps
set_option maxRecDepth 8000 in
set_option maxHeartbeats 8000000 in
theorem rstate_any {W : World} {p : Pg.PV} {P : Pg.Prog} {ss : List Ps.St} (hq : Ps.IsQ W p P ss) (k : Nat) (x : Ps.St) (hk : ss[k]? = some x) : Calls Try.prog 53 #[p.val, .int .i64 k] W (Rets W (.tuple #[.int .i64 (Ps.allE P ss k).1, .int .i64 (Ps.allE P ss k).2])) := by
  obtain ⟨s, a1, a2, a3, a4, a5, a6, a7, a8, m1, m2, n3, m3, n4, m4, n5, m5, n6, m6, n7, m7, m8, hf⟩ := hq.1.form
  obtain ⟨rfl, hhs, hmd, _, hl1, hl2, _⟩ := hf
  have hss := hq.2
  dsimp only at hss
  obtain ⟨a6', m6', e6, hl6, hc6⟩ := hss.slice
  simp only [Value.slice.injEq] at e6
  obtain ⟨rfl, rfl, rfl⟩ := e6
  unfold maxLen at hc6
  obtain ⟨ab, ao, rfl, _, _⟩ := hss.at (by have := (List.getElem?_eq_some_iff.1 hk).1; omega)
  have hkl : k < ss.length := (List.getElem?_eq_some_iff.1 hk).1
  obtain ⟨ea, ec, ca, cc, hnm, hex, hcs, hcl, hcm, g0, g1, g2, g3, g4, g5, g6⟩ := st_at hss k x hk rfl
  obtain ⟨wd, hwd⟩ : ∃ z, z = Pg.wid P x.h x.f := ⟨_, rfl⟩
  have HWD : Hid (Pg.wid P x.h x.f = wd) := Lib.hid hwd.symm
  obtain ⟨lb, hlb⟩ : ∃ z, z = Ps.leads ss.length k x.df := ⟨_, rfl⟩
  have HW : Hid (∀ w, Ext W w → Calls Try.prog 59 #[.agg #[.string s, .slice a1 P.hs.length m1, .slice a2 P.md.length m2, .slice a3 n3 m3, .slice a4 n4 m4, .slice a5 n5 m5, .slice (some ⟨ab, ao, none⟩) ss.length m6, .slice a7 n7 m7, .slice a8 P.dp.length m8], .agg #[.int .i64 x.h, .int .i64 x.f]] w (Rets w (.int .i64 wd))) := Lib.hid (fun w hx => by have h := rwidth_any (hq.1.ext hx) x.h x.f; rw [← hwd] at h; exact h)
  have HLD : Hid (∀ w, Ext W w → Calls Try.prog 81 #[.agg #[.string s, .slice a1 P.hs.length m1, .slice a2 P.md.length m2, .slice a3 n3 m3, .slice a4 n4 m4, .slice a5 n5 m5, .slice (some ⟨ab, ao, none⟩) ss.length m6, .slice a7 n7 m7, .slice a8 P.dp.length m8], .int .i64 k, .int .i64 x.df] w (Rets w (.bool lb))) := Lib.hid (fun w hx => by have h := rnext_any (hq.ext hx) k x.df; rw [← hlb] at h; exact h)
  obtain ⟨R, hR⟩ : ∃ z, z = Ps.allE P ss k := ⟨_, rfl⟩
  rw [← hR]
  obtain ⟨⟨C1, C2⟩, hC⟩ : ∃ z, z = Ps.csE wd ss.length k x.cs := ⟨_, rfl⟩
  have HCC : Hid (x.cs.length = 0 ∨ Bv.ok wd = true → ∀ w, Ext W w → Calls Try.prog 80 #[.agg #[.string s, .slice a1 P.hs.length m1, .slice a2 P.md.length m2, .slice a3 n3 m3, .slice a4 n4 m4, .slice a5 n5 m5, .slice (some ⟨ab, ao, none⟩) ss.length m6, .slice a7 n7 m7, .slice a8 P.dp.length m8], .int .i64 k] w (Rets w (.tuple #[.int .i64 C1, .int .i64 C2]))) := Lib.hid (fun hw w hx => by have h := rcases_any (hq.ext hx) k x hk (by rw [HWD.out]; exact hw); rw [HWD.out, ← hC] at h; exact h)
  obtain ⟨id, hid⟩ : ∃ z, z = Id.ok x.nm := ⟨_, rfl⟩
  have HID : Hid (∀ w, Calls Try.prog 61 #[.string x.nm] w (Rets w (.bool id))) := Lib.hid (fun w => by have h := rident_any x.nm w hnm; rw [← hid] at h; exact Rets.of_eq h)
  have HI2 := Lib.hid hid
  have HWB := Lib.hid (show 0 ≤ wd ∧ wd ≤ 32 by rw [hwd]; exact Pg.wid_bd P x.h x.f)
  have HC := Lib.hid hC
  have HK := Lib.hid hk
  have HLB := Lib.hid hlb
  have HSS := Lib.hid hss
  have y0 := alw g0
  have y1 := alw g1
  have y2 := alw g2
  have y3 := alw g3
  have y4 := alw g4
  have y5 := alw g5
  have y6 := alw g6
  have bx := alloc_heap W (.cells #[.string s, .slice a1 P.hs.length m1, .slice a2 P.md.length m2, .slice a3 n3 m3, .slice a4 n4 m4, .slice a5 n5 m5, .slice (some ⟨ab, ao, none⟩) ss.length m6, .slice a7 n7 m7, .slice a8 P.dp.length m8] 31)
  have pc0 := alw (cell_of (o := 0) bx)
  have pc1 := alw (cell_of (o := 1) bx)
  have pc2 := alw (cell_of (o := 2) bx)
  have pc3 := alw (cell_of (o := 3) bx)
  have pc4 := alw (cell_of (o := 4) bx)
  have pc5 := alw (cell_of (o := 5) bx)
  have pc6 := alw (cell_of (o := 6) bx)
  have pc7 := alw (cell_of (o := 7) bx)
  have pc8 := alw (cell_of (o := 8) bx)
  clear bx
  have bx := alloc_heap (W.alloc (.cells #[.string s, .slice a1 P.hs.length m1, .slice a2 P.md.length m2, .slice a3 n3 m3, .slice a4 n4 m4, .slice a5 n5 m5, .slice (some ⟨ab, ao, none⟩) ss.length m6, .slice a7 n7 m7, .slice a8 P.dp.length m8] 31)) (.cells #[.string x.nm, .slice ea x.ex.length ec, .bool x.sel, .int .i64 x.h, .int .i64 x.f, .slice ca x.cs.length cc, .int .i64 x.df] 61)
  rw [World.size_alloc] at bx
  have xc0 := alw (cell_of (o := 0) bx)
  have xc1 := alw (cell_of (o := 1) bx)
  have xc2 := alw (cell_of (o := 2) bx)
  have xc3 := alw (cell_of (o := 3) bx)
  have xc4 := alw (cell_of (o := 4) bx)
  have xc5 := alw (cell_of (o := 5) bx)
  have xc6 := alw (cell_of (o := 6) bx)
  clear bx
  have hexm := hex.2
  unfold maxLen at hcm hexm
  have HEX := Lib.hid hex
  dsimp only [Pg.PV.val]
  clear hq hhs hmd hss hk hex hcs hnm g0 g1 g2 g3 g4 g5 g6 hwd hlb hC hid
  cases id with
  | false =>
    have HR : Hid (R = (-1, 6)) := Lib.hid (by rw [hR]; exact Ps.allE_name HK.out HI2.out.symm)
    clear hR
    go_enter Try.func53, Try.ntmps53
    go_wp2_with fail
    refine (HID.out _).mono ?_
    rintro e w3 ⟨rfl, xw3⟩
    have sw3 := Step.mk xw3
    go_wp2_with fail
    go_ret2
    exact ⟨ret_two (by rw [HR.out]), grows⟩
  | true =>
    have HRR := Lib.hid hR
    clear hR
    go_enter Try.func53, Try.ntmps53
    go_wp2_with fail
    refine (HID.out _).mono ?_
    rintro e w3 ⟨rfl, xw3⟩
    have sw3 := Step.mk xw3
    go_wp2_with fail
    go_loopw [7] (fun q wr => ∃ i : Nat, i ≤ k ∧ q = .int .i64 i ∧ Ext (((W.alloc (.cells #[.string s, .slice a1 P.hs.length m1, .slice a2 P.md.length m2, .slice a3 n3 m3, .slice a4 n4 m4, .slice a5 n5 m5, .slice (some ⟨ab, ao, none⟩) ss.length m6, .slice a7 n7 m7, .slice a8 P.dp.length m8] 31))).alloc (.cells #[.string x.nm, .slice ea x.ex.length ec, .bool x.sel, .int .i64 x.h, .int .i64 x.f, .slice ca x.cs.length cc, .int .i64 x.df] 61)) wr ∧ Hid (∀ j, j < i → Hd.same (ss.getD j Ps.st0).nm x.nm = false)) (fun q _ => k - (intOf q).toNat)
    case atStart => exact ⟨0, Nat.zero_le _, rfl, grows, Lib.hid (by intro j hj; omega)⟩
    case round =>
      obtain ⟨i, hi, rfl, hx, HZ⟩ := hrel
      have sx := Step.mk hx
      by_cases hlt : i < k
      · obtain ⟨y, hy⟩ : ∃ y, ss[i]? = some y := ⟨_, List.getElem?_eq_getElem (by omega)⟩
        obtain ⟨_, _, _, _, _, _, _, _, _, u0, _, _, _, _, _, _⟩ := st_at HSS.out i y hy rfl
        have v0 := alw u0
        have HY := Lib.hid hy
        clear u0 hy
        cases hsm : Hd.same y.nm x.nm
        · have hne : (y.nm.toList == x.nm.toList) = false := hsm
          have HN := Lib.hid hsm
          clear hsm
          go_wp2_with fail
          refine wp_region_later (W := _) (by kernel_rfl) (by kernel_rfl) (Ext.refl _) ?_
          repeat (go_big_quiet_step (fail))
          refine wpQuiet_nil ?_
          intro w4 xw4
          have sw4 := Step.mk xw4
          go_wp2_with fail
          go_roundw
          case rel =>
            refine ⟨i + 1, by omega, by go_num, grows, Lib.hid (fun j hj => ?_)⟩
            rcases Nat.lt_or_ge j i with h1 | h1
            · exact HZ.out j h1
            · obtain rfl : j = i := by omega
              rw [List.getD_eq_getElem?_getD, HY.out]; exact HN.out
          case measure => simp [intOf]; omega
        · have hne : (y.nm.toList == x.nm.toList) = true := hsm
          have HR : Hid (R = (-1, 7)) := Lib.hid (by rw [HRR.out]; exact Ps.allE_dup HK.out HI2.out.symm (Ps.any_yes hlt HY.out hsm))
          clear hsm
          go_wp2_with fail
          refine wp_region_later (W := _) (by kernel_rfl) (by kernel_rfl) (Ext.refl _) ?_
          repeat (go_big_quiet_step (fail))
          refine wpQuiet_nil ?_
          intro w4 xw4
          have sw4 := Step.mk xw4
          go_wp2_with fail
          go_ret2
          exact ⟨ret_two (by rw [HR.out]), grows⟩
      · obtain rfl : i = k := by omega
        have HS : Hid (R = Ps.stE P ss.length i x) := Lib.hid (by rw [HRR.out]; exact Ps.allE_st HK.out HI2.out.symm (Ps.any_no (by omega) HZ.out))
        clear HRR HZ
        by_cases h1 : 4 < x.ex.length
        · have HR : Hid (R = (-1, 12)) := Lib.hid (HS.out.trans (Ps.stE_lim (.inl h1)))
          have d1 : decide ((4 : Int) < (x.ex.length : Int)) = true := decide_eq_true (by omega)
          go_wp2_with fail
          go_ret2
          exact ⟨ret_two (by rw [HR.out]), grows⟩
        · have d1 : decide ((4 : Int) < (x.ex.length : Int)) = false := decide_eq_false (by omega)
          by_cases h2 : 8 < x.cs.length
          · have HR : Hid (R = (-1, 12)) := Lib.hid (HS.out.trans (Ps.stE_lim (.inr h2)))
            have d2 : decide ((8 : Int) < (x.cs.length : Int)) = true := decide_eq_true (by omega)
            go_wp2_with fail
            go_ret2
            exact ⟨ret_two (by rw [HR.out]), grows⟩
          · have d2 : decide ((8 : Int) < (x.cs.length : Int)) = false := decide_eq_false (by omega)
            have HR0 := Lib.hid (HS.out.trans (Ps.stE_lim' h1 h2))
            clear HS
            go_wp2_with fail
            go_loopw [8] (fun q wr => ∃ j : Nat, j ≤ x.ex.length ∧ q = .int .i64 j ∧ Ext (((W.alloc (.cells #[.string s, .slice a1 P.hs.length m1, .slice a2 P.md.length m2, .slice a3 n3 m3, .slice a4 n4 m4, .slice a5 n5 m5, .slice (some ⟨ab, ao, none⟩) ss.length m6, .slice a7 n7 m7, .slice a8 P.dp.length m8] 31))).alloc (.cells #[.string x.nm, .slice ea x.ex.length ec, .bool x.sel, .int .i64 x.h, .int .i64 x.f, .slice ca x.cs.length cc, .int .i64 x.df] 61)) wr ∧ Hid (∀ i, i < j → (decide (0 ≤ x.ex.getD i 0) && decide (x.ex.getD i 0 < P.hs.length)) = true)) (fun q _ => x.ex.length - (intOf q).toNat)
            case atStart => exact ⟨0, Nat.zero_le _, rfl, by exact hx, Lib.hid (by intro j hj; omega)⟩
            case round =>
              clear sx hx
              obtain ⟨j, hj, rfl, hx, HZ⟩ := hrel
              have sx := Step.mk hx
              by_cases hltj : j < x.ex.length
              · obtain ⟨y, hy⟩ : ∃ y, x.ex[j]? = some y := ⟨_, List.getElem?_eq_getElem (by omega)⟩
                obtain ⟨eb, eo, rfl, n1⟩ := ns_at HEX.out (by omega)
                have r1 := n1 j y hy
                have HY := Lib.hid hy
                clear n1 hy
                by_cases hy0 : y < 0
                · have e1 : decide (y < 0) = true := decide_eq_true hy0
                  have HR : Hid (R = (-1, 8)) := Lib.hid (by rw [HR0.out, Ps.exB_no HY.out (.inl hy0)]; rfl)
                  go_wp2_with fail
                  refine wp_region_later (W := _) (by kernel_rfl) (by kernel_rfl) (Ext.refl _) ?_
                  repeat (go_big_quiet_step (fail))
                  refine wpQuiet_nil ?_
                  intro w4 xw4
                  have sw4 := Step.mk xw4
                  go_wp2_with fail
                  go_ret2
                  exact ⟨ret_two (by rw [HR.out]), grows⟩
                · have e1 : decide (y < 0) = false := decide_eq_false hy0
                  by_cases hyn : (P.hs.length : Int) ≤ y
                  · have e2 : decide ((P.hs.length : Int) ≤ y) = true := decide_eq_true hyn
                    have HR : Hid (R = (-1, 8)) := Lib.hid (by rw [HR0.out, Ps.exB_no HY.out (.inr hyn)]; rfl)
                    go_wp2_with fail
                    refine wp_region_later (W := _) (by kernel_rfl) (by kernel_rfl) (Ext.refl _) ?_
                    repeat (go_big_quiet_step (fail))
                    refine wpQuiet_nil ?_
                    intro w4 xw4
                    have sw4 := Step.mk xw4
                    go_wp2_with fail
                    go_ret2
                    exact ⟨ret_two (by rw [HR.out]), grows⟩
                  · have e2 : decide ((P.hs.length : Int) ≤ y) = false := decide_eq_false hyn
                    go_wp2_with fail
                    refine wp_region_later (W := _) (by kernel_rfl) (by kernel_rfl) (Ext.refl _) ?_
                    repeat (go_big_quiet_step (fail))
                    refine wpQuiet_nil ?_
                    intro w4 xw4
                    have sw4 := Step.mk xw4
                    go_wp2_with fail
                    go_roundw
                    case rel =>
                      refine ⟨j + 1, by omega, by go_num, grows, Lib.hid (fun i hi => ?_)⟩
                      rcases Nat.lt_or_ge i j with h1 | h1
                      · exact HZ.out i h1
                      · obtain rfl : i = j := by omega
                        rw [List.getD_eq_getElem?_getD, HY.out]
                        show (decide (0 ≤ y) && decide (y < P.hs.length)) = true
                        rw [decide_eq_true (by omega), decide_eq_true (by omega)]; rfl
                    case measure => simp [intOf]; omega
              · obtain rfl : j = x.ex.length := by omega
                have HYES : Hid (Ps.exB P.hs.length x.ex = true) := Lib.hid (Ps.exB_yes HZ.out)
                cases hsl : x.sel with
                | true =>
                  by_cases hw0 : wd = 0
                  · subst hw0
                    have HR : Hid (R = (-1, 8)) := Lib.hid (by rw [HR0.out, HYES.out, hsl, HWD.out]; rfl)
                    go_wp2_with fail
                    refine (HW.out _ grows).mono ?_
                    rintro e w4 ⟨rfl, xw4⟩
                    have sw4 := Step.mk xw4
                    go_wp2_with fail
                    go_ret2
                    exact ⟨ret_two (by rw [HR.out]), grows⟩
                  · have w0 : (wd == 0) = false := beq_eq_false_iff_ne.2 hw0
                    have HR : Hid (R = if C2 = 0 then (if lb then (0, 0) else (-1, 14)) else (C1, C2)) := Lib.hid (by rw [HR0.out, HYES.out, hsl, HWD.out, w0, HLB.out, ← HC.out]; rfl)
                    have HCX := Lib.hid (HCC.out (.inr (Bv.ok_of (by have := HWB.out.1; omega) HWB.out.2)))
                    go_wp2_with fail
                    refine (HW.out _ grows).mono ?_
                    rintro e w4 ⟨rfl, xw4⟩
                    have sw4 := Step.mk xw4
                    go_wp2_with fail
                    refine (HCX.out _ grows).mono ?_
                    rintro e w5 ⟨rfl, x5⟩
                    have s5 := Step.mk x5
                    by_cases hc2 : C2 = 0
                    · subst hc2
                      go_wp2_with fail
                      refine (HLD.out _ grows).mono ?_
                      rintro e w6 ⟨rfl, x6⟩
                      have s6 := Step.mk x6
                      cases lb with
                      | false =>
                        go_wp2_with fail
                        go_ret2
                        exact ⟨ret_two (by rw [HR.out]; rfl), grows⟩
                      | true =>
                        go_wp2_with fail
                        go_ret2
                        exact ⟨ret_two (by rw [HR.out]; rfl), grows⟩
                    · have z1 : (C2 != 0) = true := bne_iff_ne.2 hc2
                      have H20 := Lib.hid hc2
                      clear hc2
                      go_wp2_with fail
                      go_ret2
                      exact ⟨ret_two (by rw [HR.out, if_neg H20.out]), grows⟩
                | false =>
                  by_cases hc : 0 < x.cs.length
                  · have e3 : decide ((0 : Int) < (x.cs.length : Int)) = true := decide_eq_true (by omega)
                    have HR : Hid (R = (-1, 11)) := Lib.hid (by rw [HR0.out, HYES.out, hsl, decide_eq_true hc]; rfl)
                    go_wp2_with fail
                    go_ret2
                    exact ⟨ret_two (by rw [HR.out]), grows⟩
                  · have e3 : decide ((0 : Int) < (x.cs.length : Int)) = false := decide_eq_false (by omega)
                    have HR : Hid (R = if C2 = 0 then (if lb then (0, 0) else (-1, 14)) else (C1, C2)) := Lib.hid (by rw [HR0.out, HYES.out, hsl, HWD.out, decide_eq_false hc, HLB.out, ← HC.out]; rfl)
                    have HCX := Lib.hid (HCC.out (.inl (by omega)))
                    go_wp2_with fail
                    refine (HCX.out _ grows).mono ?_
                    rintro e w5 ⟨rfl, x5⟩
                    have s5 := Step.mk x5
                    by_cases hc2 : C2 = 0
                    · subst hc2
                      go_wp2_with fail
                      refine (HLD.out _ grows).mono ?_
                      rintro e w6 ⟨rfl, x6⟩
                      have s6 := Step.mk x6
                      cases lb with
                      | false =>
                        go_wp2_with fail
                        go_ret2
                        exact ⟨ret_two (by rw [HR.out]; rfl), grows⟩
                      | true =>
                        go_wp2_with fail
                        go_ret2
                        exact ⟨ret_two (by rw [HR.out]; rfl), grows⟩
                    · have z1 : (C2 != 0) = true := bne_iff_ne.2 hc2
                      have H20 := Lib.hid hc2
                      clear hc2
                      go_wp2_with fail
                      go_ret2
                      exact ⟨ret_two (by rw [HR.out, if_neg H20.out]), grows⟩
set_option maxRecDepth 8000 in
set_option maxHeartbeats 8000000 in
theorem rcheck_any {W : World} {p : Pg.PV} {P : Pg.Prog} {ss : List Ps.St} (hq : Ps.IsQ W p P ss) : Calls Try.prog 24 #[p.val] W (Rets W (.tuple #[.int .i64 (Ps.chk P ss).1, .int .i64 (Ps.chk P ss).2.1, .int .i64 (Ps.chk P ss).2.2])) := by
  obtain ⟨s, a1, a2, a3, a4, a5, a6, a7, a8, m1, m2, n3, m3, n4, m4, n5, m5, n6, m6, n7, m7, m8, hf⟩ := hq.1.form
  obtain ⟨rfl, hhs, hmd, _, hl1, hl2, _⟩ := hf
  have hss := hq.2
  dsimp only at hss
  obtain ⟨a6', m6', e6, hl6, hc6⟩ := hss.slice
  simp only [Value.slice.injEq] at e6
  obtain ⟨rfl, rfl, rfl⟩ := e6
  unfold maxLen at hc6
  obtain ⟨R, hR⟩ : ∃ z, z = Ps.chk P ss := ⟨_, rfl⟩
  rw [← hR]
  have HQ := Lib.hid hq
  have bx := alloc_heap W (.cells #[.string s, .slice a1 P.hs.length m1, .slice a2 P.md.length m2, .slice a3 n3 m3, .slice a4 n4 m4, .slice a5 n5 m5, .slice a6 ss.length m6, .slice a7 n7 m7, .slice a8 P.dp.length m8] 31)
  have pc0 := alw (cell_of (o := 0) bx)
  have pc1 := alw (cell_of (o := 1) bx)
  have pc2 := alw (cell_of (o := 2) bx)
  have pc3 := alw (cell_of (o := 3) bx)
  have pc4 := alw (cell_of (o := 4) bx)
  have pc5 := alw (cell_of (o := 5) bx)
  have pc6 := alw (cell_of (o := 6) bx)
  have pc7 := alw (cell_of (o := 7) bx)
  have pc8 := alw (cell_of (o := 8) bx)
  clear bx
  dsimp only [Pg.PV.val]
  clear hq hhs hmd hss
  by_cases h0 : ss.length = 0
  · have HR : Hid (R = (-1, -1, 8)) := Lib.hid (by rw [hR]; unfold Ps.chk; rw [if_pos h0])
    have e0 : ((ss.length : Int) == 0) = true := beq_iff_eq.2 (by omega)
    clear hR
    go_enter Try.func24, Try.ntmps24
    go_wp2_with fail
    go_ret3
    exact ⟨ret_three (by rw [HR.out]), grows⟩
  · have e0 : ((ss.length : Int) == 0) = false := beq_eq_false_iff_ne.2 (by omega)
    by_cases h12 : 12 < ss.length
    · have HR : Hid (R = (-1, -1, 12)) := Lib.hid (by rw [hR]; unfold Ps.chk; rw [if_neg h0, if_pos h12])
      have e1 : decide ((12 : Int) < (ss.length : Int)) = true := decide_eq_true (by omega)
      clear hR
      go_enter Try.func24, Try.ntmps24
      go_wp2_with fail
      go_ret3
      exact ⟨ret_three (by rw [HR.out]), grows⟩
    · have e1 : decide ((12 : Int) < (ss.length : Int)) = false := decide_eq_false (by omega)
      have HR := Lib.hid hR
      have HH0 := Lib.hid h0
      have HH12 := Lib.hid h12
      clear hR h0
      go_enter Try.func24, Try.ntmps24
      go_wp2_with fail
      go_loopw [5] (fun q wr => ∃ i : Nat, i ≤ ss.length ∧ q = .int .i64 i ∧ Ext (W.alloc (.cells #[.string s, .slice a1 P.hs.length m1, .slice a2 P.md.length m2, .slice a3 n3 m3, .slice a4 n4 m4, .slice a5 n5 m5, .slice a6 ss.length m6, .slice a7 n7 m7, .slice a8 P.dp.length m8] 31)) wr ∧ Hid (∀ j, j < i → (Ps.allE P ss j).2 = 0)) (fun q _ => ss.length - (intOf q).toNat)
      case atStart => exact ⟨0, Nat.zero_le _, rfl, Ext.refl _, Lib.hid (by intro j hj; omega)⟩
      case round =>
        obtain ⟨i, hi, rfl, hx, HZ⟩ := hrel
        have sx := Step.mk hx
        by_cases hlt : i < ss.length
        · obtain ⟨x, hk⟩ : ∃ x, ss[i]? = some x := ⟨_, List.getElem?_eq_getElem (by omega)⟩
          obtain ⟨⟨S1, S2⟩, hS⟩ : ∃ z, z = Ps.allE P ss i := ⟨_, rfl⟩
          have HC : Hid (∀ w, Ext W w → Calls Try.prog 53 #[.agg #[.string s, .slice a1 P.hs.length m1, .slice a2 P.md.length m2, .slice a3 n3 m3, .slice a4 n4 m4, .slice a5 n5 m5, .slice a6 ss.length m6, .slice a7 n7 m7, .slice a8 P.dp.length m8], .int .i64 i] w (Rets w (.tuple #[.int .i64 S1, .int .i64 S2]))) := Lib.hid (fun w hx => by have h := rstate_any (HQ.out.ext hx) i x hk; rw [← hS] at h; exact h)
          have HSX := Lib.hid hS
          clear hS hk
          by_cases hs0 : S2 = 0
          · subst hs0
            go_wp2_with fail
            refine (HC.out _ grows).mono ?_
            rintro e w7 ⟨rfl, xw7⟩
            have sw7 := Step.mk xw7
            go_wp2_with fail
            go_roundw
            case rel =>
              refine ⟨i + 1, by omega, by go_num, grows, Lib.hid (fun j hj => ?_)⟩
              rcases Nat.lt_or_ge j i with h1 | h1
              · exact HZ.out j h1
              · obtain rfl : j = i := by omega
                rw [← HSX.out]
            case measure => simp [intOf]; omega
          · have z1 : (S2 != 0) = true := bne_iff_ne.2 hs0
            have HS0 := Lib.hid hs0
            clear hs0
            go_wp2_with fail
            refine (HC.out _ grows).mono ?_
            rintro e w7 ⟨rfl, xw7⟩
            have sw7 := Step.mk xw7
            go_wp2_with fail
            go_ret3
            exact ⟨ret_three (by rw [HR.out, Ps.chk_bad HH0.out HH12.out hlt HZ.out (by rw [← HSX.out]; exact HS0.out), ← HSX.out]), grows⟩
        · obtain rfl : i = ss.length := by omega
          go_wp2_with fail
          go_ret3
          exact ⟨ret_three (by rw [HR.out, Ps.chk_good HH0.out HH12.out HZ.out]), grows⟩
end Go.Proofs.Ytonnlcjkgpahoaa
