/- Environments: Equal, Get, environments of their own, walked. No condition. -/
import Derived.Test.YtonnlcjkgpahoaaPqA
import Derived.Test.YtonnlcjkgpahoaaStep
import Derived.Test.YtonnlcjkgpahoaaIoL
import Derived.Test.YtonnlcjkgpahoaaMem
import Derived.Deep.OwnRows
import Derived.Laws.CopyOwn
namespace Go.Proofs.Ytonnlcjkgpahoaa
open Go.RowKit

namespace Rg
theorem eq_of {α : Type} {d : α} {a b : List α} (hl : a.length = b.length) (h : ∀ j, j < a.length → a.getD j d = b.getD j d) : a = b := by
  apply List.ext_getElem? ; intro i
  rcases Nat.lt_or_ge i a.length with h1 | h1
  · have := h i h1
    rw [List.getD_eq_getElem?_getD, List.getD_eq_getElem?_getD, List.getElem?_eq_getElem h1, List.getElem?_eq_getElem (by omega)] at this
    rw [List.getElem?_eq_getElem h1, List.getElem?_eq_getElem (by omega)]
    simpa using this
  · rw [List.getElem?_eq_none h1, List.getElem?_eq_none (by omega)]
end Rg
set_option maxRecDepth 8000 in
theorem eqvals_any {W : World} {v u : Value} {a b : List Int} (ha : Ns .u32 W v a) (hb : Ns .u32 W u b) :
    Calls Try.prog 56 #[v, u] W (Rets W (.bool (decide (a = b)))) := by
  obtain ⟨oa, ca, rfl⟩ := ns_slice ha
  obtain ⟨ob, cb, rfl⟩ := ns_slice hb
  have ma := ha.2
  have mb := hb.2
  unfold maxLen at ma mb
  have HA := Lib.hid ha
  have HB := Lib.hid hb
  clear ha hb
  by_cases hl : a.length = b.length
  · have hle : a.length ≤ b.length := by omega
    have hge : b.length ≤ a.length := by omega
    have hne : ((a.length : Int) != (b.length : Int)) = false := by simp [hl]
    have HL := Lib.hid hl
    clear hl
    go_enter Try.func56, Try.ntmps56
    go_wp2_with fail
    go_loopw [5] (fun i wr => ∃ k : Nat, k ≤ a.length ∧ i = .int .i64 k ∧ Ext W wr ∧ Hid (∀ j, j < k → a.getD j 0 = b.getD j 0)) (fun i _ => a.length - (intOf i).toNat)
    case atStart => exact ⟨0, Nat.zero_le _, rfl, Ext.refl _, Lib.hid (by intro j hj; omega)⟩
    case round =>
      obtain ⟨k, hk, rfl, hx, HZ⟩ := hrel
      have sx := Step.mk hx
      by_cases hlt : k < a.length
      · have hlt2 : k < b.length := by omega
        obtain ⟨x, hxk⟩ : ∃ x, a[k]? = some x := ⟨_, List.getElem?_eq_getElem hlt⟩
        obtain ⟨y, hyk⟩ : ∃ y, b[k]? = some y := ⟨_, List.getElem?_eq_getElem hlt2⟩
        obtain ⟨b1, o1, rfl, c1⟩ := ns_at HA.out (by omega)
        obtain ⟨b2, o2, rfl, c2⟩ := ns_at HB.out (by omega)
        have f1 := c1 k x hxk
        have f2 := c2 k y hyk
        have hga : a.getD k 0 = x := by rw [List.getD_eq_getElem?_getD, hxk]; rfl
        have hgb : b.getD k 0 = y := by rw [List.getD_eq_getElem?_getD, hyk]; rfl
        have HGA := Lib.hid hga
        have HGB := Lib.hid hgb
        clear c1 c2 hxk hyk hga hgb
        by_cases hxy : x = y
        · have hb1 : (x != y) = false := by simp [hxy]
          have HXY := Lib.hid hxy
          clear hxy
          go_wp2_with fail
          refine wp_region_later (by kernel_rfl) (by kernel_rfl) (Ext.refl _) ?_
          repeat (go_big_quiet_step (fail))
          refine wpQuiet_nil ?_
          intro w1 hxw1
          have sw1 := Step.mk hxw1
          go_wp2_with fail
          go_roundw
          case rel =>
            refine ⟨k + 1, by omega, by go_num, by exact hx.trans hxw1, Lib.hid (fun j hj => ?_)⟩
            rcases Nat.lt_or_ge j k with h1 | h1
            · exact HZ.out j h1
            · obtain rfl : j = k := by omega
              rw [HGA.out, HGB.out, HXY.out]
          case measure => simp [intOf]; omega
        · have hb1 : (x != y) = true := by simp [hxy]
          have HXY := Lib.hid hxy
          clear hxy
          go_wp2_with fail
          refine wp_region_later (by kernel_rfl) (by kernel_rfl) (Ext.refl _) ?_
          repeat (go_big_quiet_step (fail))
          refine wpQuiet_nil ?_
          intro w1 hxw1
          have sw1 := Step.mk hxw1
          go_wp2_with fail
          go_ret
          exact ⟨ret_bool (decide_eq_false (fun e => HXY.out (by rw [← HGA.out, ← HGB.out, e]))).symm, grows⟩
      · obtain rfl : k = a.length := by omega
        go_wp2_with fail
        go_ret
        exact ⟨ret_bool (decide_eq_true (Rg.eq_of HL.out HZ.out)).symm, grows⟩
  · have hne : ((a.length : Int) != (b.length : Int)) = true := by simp; omega
    have HL := Lib.hid hl
    clear hl
    go_enter Try.func56, Try.ntmps56
    go_wp2_with fail
    go_ret
    exact ⟨ret_bool (decide_eq_false (fun e => HL.out (by rw [e]))).symm, grows⟩
end Go.Proofs.Ytonnlcjkgpahoaa
namespace Go.Proofs.Ytonnlcjkgpahoaa
open Go.RowKit

namespace En
def eqB (A B : Pg.Env) : Bool := decide (A.va = B.va) && (decide (A.fi = B.fi) && (decide (A.me = B.me) && decide (A.pl = B.pl)))
theorem eq_self (A : Pg.Env) : eqB A A = true := by unfold eqB; simp
theorem str_inj {a b : List Int} (ha : Io.Bytes a) (hb : Io.Bytes b) (h : strOfNums a = strOfNums b) : a = b := by
  have h1 : a.map (fun n => UInt8.ofNat n.toNat) = b.map (fun n => UInt8.ofNat n.toNat) := by
    have := congrArg (fun s : ByteArray => s.data.toList) h
    simpa [strOfNums] using this
  clear h
  induction a generalizing b with
  | nil => cases b with
    | nil => rfl
    | cons y b => simp at h1
  | cons x a ih => cases b with
    | nil => simp at h1
    | cons y b =>
      simp only [List.map_cons, List.cons.injEq] at h1
      have hx := ha x (by simp)
      have hy := hb y (by simp)
      have h2 := congrArg UInt8.toNat h1.1
      simp only [UInt8.toNat_ofNat'] at h2
      rw [ih (fun z hz => ha z (by simp [hz])) (fun z hz => hb z (by simp [hz])) h1.2]
      congr 1
      omega
end En
theorem pl_alw {W : World} {v : Value} {l : List Int} (h : Ns .u8 W v l) (w : World) [g : Grows W w] : (convert 35 9 v).run Try.prog w = .ok (.string (strOfNums l)) w := src_str (h.1.ext g.out)
set_option maxRecDepth 8000 in
set_option maxHeartbeats 4000000 in
theorem refeequal_any {W : World} {e f : Pg.EV} {E F : Pg.Env} (he : Pg.IsE W e E) (hf : Pg.IsE W f F) :
    Calls Try.prog 27 #[e.val, f.val] W (Rets W (.bool (En.eqB E F))) := by
  obtain ⟨b0, b1, b2, b3, d0, d1, d2, d3, hg⟩ := he.form
  obtain ⟨rfl, hva, hfi, hme, hpl, g0, g1, g2, g3⟩ := hg
  obtain ⟨c0, c1, c2, c3, f0, f1, f2, f3, hg⟩ := hf.form
  obtain ⟨rfl, iva, ifi, ime, ipl, i0, i1, i2, i3⟩ := hg
  dsimp only [Pg.EV.val]
  have bb := alloc_heap W (.cells #[.slice b0 E.va.length d0, .slice b1 E.fi.length d1, .slice b2 E.me.length d2, .slice b3 E.pl.length d3] 37)
  have j0 := alw (cell_of (o := 0) bb)
  have j1 := alw (cell_of (o := 1) bb)
  have j2 := alw (cell_of (o := 2) bb)
  have j3 := alw (cell_of (o := 3) bb)
  have be := alloc_heap (W.alloc (.cells #[.slice b0 E.va.length d0, .slice b1 E.fi.length d1, .slice b2 E.me.length d2, .slice b3 E.pl.length d3] 37)) (.cells #[.slice c0 F.va.length f0, .slice c1 F.fi.length f1, .slice c2 F.me.length f2, .slice c3 F.pl.length f3] 37)
  rw [World.size_alloc] at be
  have k0 := alw (cell_of (o := 0) be)
  have k1 := alw (cell_of (o := 1) be)
  have k2 := alw (cell_of (o := 2) be)
  have k3 := alw (cell_of (o := 3) be)
  have t1 := pl_alw hpl.1
  have t2 := pl_alw ipl.1
  have HVA := Lib.hid hva
  have IVA := Lib.hid iva
  have HFI := Lib.hid hfi
  have IFI := Lib.hid ifi
  have HPI := Lib.hid (fun h => En.str_inj hpl.2 ipl.2 h)
  obtain ⟨q3, hq3⟩ : ∃ q, q = decide (E.me = F.me) := ⟨_, rfl⟩
  have HQ3 : Hid (∀ w, Ext W w → Calls Try.prog 56 #[.slice b2 E.me.length d2, .slice c2 F.me.length f2] w (Rets w (.bool q3))) := Lib.hid (fun w hx => by have h := eqvals_any (hme.1.ext hx) (ime.1.ext hx); rw [← hq3] at h; exact h)
  have HM := Lib.hid hq3
  clear bb be he hf hva hfi hme hpl iva ifi ime ipl hq3
  by_cases l0 : E.va.length = F.va.length
  · have z0 : ((E.va.length : Int) != (F.va.length : Int)) = false := by simp [l0]
    have L0 := Lib.hid l0
    have m0 : E.va.length ≤ F.va.length := by omega
    clear l0
    by_cases l1 : E.fi.length = F.fi.length
    · have z1 : ((E.fi.length : Int) != (F.fi.length : Int)) = false := by simp [l1]
      have L1 := Lib.hid l1
      have m1 : E.fi.length ≤ F.fi.length := by omega
      clear l1
      by_cases hpl : E.pl = F.pl
      · have hs : strOfNums E.pl = strOfNums F.pl := by rw [hpl]
        have HP := Lib.hid hpl
        rw [hs] at t1
        clear hpl hs
        go_enter Try.func27, Try.ntmps27
        go_wp2_with fail
        go_loopw [5] (fun i wr => ∃ k : Nat, k ≤ E.va.length ∧ i = .int .i64 k ∧ Ext ((W.alloc (.cells #[.slice b0 E.va.length d0, .slice b1 E.fi.length d1, .slice b2 E.me.length d2, .slice b3 E.pl.length d3] 37)).alloc (.cells #[.slice c0 F.va.length f0, .slice c1 F.fi.length f1, .slice c2 F.me.length f2, .slice c3 F.pl.length f3] 37)) wr ∧ Hid (∀ j, j < k → E.va.getD j false = F.va.getD j false)) (fun i _ => E.va.length - (intOf i).toNat)
        case atStart => exact ⟨0, Nat.zero_le _, rfl, Ext.refl _, Lib.hid (by intro j hj; omega)⟩
        case round =>
          obtain ⟨k, hk, rfl, hx, HZ⟩ := hrel
          obtain ⟨v1, rfl⟩ : ∃ v1 : World, v1 = wr := ⟨_, rfl⟩
          have sx := Step.mk hx
          by_cases hlt : k < E.va.length
          · obtain ⟨x, hxk⟩ : ∃ x, E.va[k]? = some x := ⟨_, List.getElem?_eq_getElem hlt⟩
            obtain ⟨y, hyk⟩ : ∃ y, F.va[k]? = some y := ⟨_, List.getElem?_eq_getElem (by omega)⟩
            obtain ⟨p1, o1, e1, n1⟩ := bs_at HVA.out (by omega)
            obtain ⟨p2, o2, e2, n2⟩ := bs_at IVA.out (by omega)
            subst e1 e2
            have g1 := n1 k x hxk
            have g2 := n2 k y hyk
            have HGA := Lib.hid (show E.va.getD k false = x by rw [List.getD_eq_getElem?_getD, hxk]; rfl)
            have HGB := Lib.hid (show F.va.getD k false = y by rw [List.getD_eq_getElem?_getD, hyk]; rfl)
            clear n1 n2 hxk hyk
            cases x <;> cases y
            · go_wp2_with fail
              refine wp_region_later (by kernel_rfl) (by kernel_rfl) (Ext.refl _) ?_
              repeat (go_big_quiet_step (fail))
              refine wpQuiet_nil ?_
              intro w1 hxw1
              have sw1 := Step.mk hxw1
              go_wp2_with fail
              go_roundw
              case rel =>
                refine ⟨k + 1, by omega, by go_num, by exact hx.trans hxw1, Lib.hid (fun j hj => ?_)⟩
                rcases Nat.lt_or_ge j k with h1 | h1
                · exact HZ.out j h1
                · obtain rfl : j = k := by omega
                  rw [HGA.out, HGB.out]
              case measure => simp [intOf]; omega
            · go_wp2_with fail
              refine wp_region_later (by kernel_rfl) (by kernel_rfl) (Ext.refl _) ?_
              repeat (go_big_quiet_step (fail))
              refine wpQuiet_nil ?_
              intro w1 hxw1
              have sw1 := Step.mk hxw1
              go_wp2_with fail
              go_ret
              exact ⟨ret_bool (by unfold En.eqB; rw [decide_eq_false (fun e => by have h1 := HGA.out; rw [e, HGB.out] at h1; cases h1)]; rfl), grows⟩
            · go_wp2_with fail
              refine wp_region_later (by kernel_rfl) (by kernel_rfl) (Ext.refl _) ?_
              repeat (go_big_quiet_step (fail))
              refine wpQuiet_nil ?_
              intro w1 hxw1
              have sw1 := Step.mk hxw1
              go_wp2_with fail
              go_ret
              exact ⟨ret_bool (by unfold En.eqB; rw [decide_eq_false (fun e => by have h1 := HGA.out; rw [e, HGB.out] at h1; cases h1)]; rfl), grows⟩
            · go_wp2_with fail
              refine wp_region_later (by kernel_rfl) (by kernel_rfl) (Ext.refl _) ?_
              repeat (go_big_quiet_step (fail))
              refine wpQuiet_nil ?_
              intro w1 hxw1
              have sw1 := Step.mk hxw1
              go_wp2_with fail
              go_roundw
              case rel =>
                refine ⟨k + 1, by omega, by go_num, by exact hx.trans hxw1, Lib.hid (fun j hj => ?_)⟩
                rcases Nat.lt_or_ge j k with h1 | h1
                · exact HZ.out j h1
                · obtain rfl : j = k := by omega
                  rw [HGA.out, HGB.out]
              case measure => simp [intOf]; omega
          · obtain rfl : k = E.va.length := by omega
            have HV : Hid (E.va = F.va) := Lib.hid (Rg.eq_of L0.out HZ.out)
            clear HZ
            go_wp2_with fail
            go_loopw [6] (fun i wr => ∃ k : Nat, k ≤ E.fi.length ∧ i = .int .i64 k ∧ Ext v1 wr ∧ Hid (∀ j, j < k → E.fi.getD j [] = F.fi.getD j [])) (fun i _ => E.fi.length - (intOf i).toNat)
            case atStart => exact ⟨0, Nat.zero_le _, rfl, Ext.refl _, Lib.hid (by intro j hj; omega)⟩
            case round =>
              obtain ⟨k, hk, rfl, hy, HZ⟩ := hrel
              obtain ⟨v2, rfl⟩ : ∃ v2 : World, v2 = wr := ⟨_, rfl⟩
              have sy := Step.mk hy
              by_cases hlt : k < E.fi.length
              · obtain ⟨x, hxk⟩ : ∃ x, E.fi[k]? = some x := ⟨_, List.getElem?_eq_getElem hlt⟩
                obtain ⟨y, hyk⟩ : ∃ y, F.fi[k]? = some y := ⟨_, List.getElem?_eq_getElem (by omega)⟩
                obtain ⟨p1, o1, e1, _, _⟩ := Rows.at HFI.out (by omega)
                obtain ⟨p2, o2, e2, _, _⟩ := Rows.at IFI.out (by omega)
                subst e1 e2
                obtain ⟨la1, lc1, g1, n1, _⟩ := rows_at HFI.out k x hxk rfl
                obtain ⟨la2, lc2, g2, n2, _⟩ := rows_at IFI.out k y hyk rfl
                have HGA := Lib.hid (show E.fi.getD k [] = x by rw [List.getD_eq_getElem?_getD, hxk]; rfl)
                have HGB := Lib.hid (show F.fi.getD k [] = y by rw [List.getD_eq_getElem?_getD, hyk]; rfl)
                obtain ⟨q, hq⟩ : ∃ q, q = decide (x = y) := ⟨_, rfl⟩
                have HEQ : Hid (∀ w, Ext W w → Calls Try.prog 56 #[.slice la1 x.length lc1, .slice la2 y.length lc2] w (Rets w (.bool q))) := Lib.hid (fun w hw => by have h := eqvals_any (n1.ext hw) (n2.ext hw); rw [← hq] at h; exact h)
                have HQ := Lib.hid hq
                clear hxk hyk hq n1 n2
                cases q with
                | true =>
                  go_wp2_with fail
                  refine wp_region_later (by kernel_rfl) (by kernel_rfl) (Ext.refl _) ?_
                  repeat (go_big_quiet_step (first | (go_at_call 56; exact Rets.later_at (HEQ.out _ grows))))
                  refine wpQuiet_nil ?_
                  intro w2 hxw2
                  have sw2 := Step.mk hxw2
                  go_wp2_with fail
                  go_roundw
                  case rel =>
                    refine ⟨k + 1, by omega, by go_num, by exact hy.trans hxw2, Lib.hid (fun j hj => ?_)⟩
                    rcases Nat.lt_or_ge j k with h1 | h1
                    · exact HZ.out j h1
                    · obtain rfl : j = k := by omega
                      rw [HGA.out, HGB.out, of_decide_eq_true HQ.out.symm]
                  case measure => simp [intOf]; omega
                | false =>
                  go_wp2_with fail
                  refine wp_region_later (by kernel_rfl) (by kernel_rfl) (Ext.refl _) ?_
                  repeat (go_big_quiet_step (first | (go_at_call 56; exact Rets.later_at (HEQ.out _ grows))))
                  refine wpQuiet_nil ?_
                  intro w2 hxw2
                  have sw2 := Step.mk hxw2
                  go_wp2_with fail
                  go_ret
                  exact ⟨ret_bool (by unfold En.eqB; rw [decide_eq_false (p := E.fi = F.fi) (fun e => of_decide_eq_false HQ.out.symm (by rw [← HGA.out, ← HGB.out, e]))]; simp), grows⟩
              · obtain rfl : k = E.fi.length := by omega
                have HF : Hid (E.fi = F.fi) := Lib.hid (Rg.eq_of L1.out HZ.out)
                clear HZ
                go_wp2_with fail
                refine (HQ3.out _ grows).mono ?_
                rintro e w3 ⟨rfl, x3⟩
                have s3 := Step.mk x3
                go_wp2_with fail
                go_ret
                exact ⟨ret_bool (by unfold En.eqB; rw [← HM.out, decide_eq_true HV.out, decide_eq_true HF.out, decide_eq_true HP.out]; simp), grows⟩
      · have hs : ¬ strOfNums E.pl = strOfNums F.pl := fun e => hpl (HPI.out e)
        have hl : ¬ (strOfNums E.pl).toList = (strOfNums F.pl).toList := fun e => hs (by rw [ByteArray.toList_eq, ByteArray.toList_eq] at e; exact ByteArray.ext (Array.toList_inj.1 e))
        have hb : (!((strOfNums E.pl).toList == (strOfNums F.pl).toList)) = true := by simpa using hl
        have HP := Lib.hid hpl
        clear hpl
        go_enter Try.func27, Try.ntmps27
        go_wp2_with fail
        go_ret
        exact ⟨ret_bool (by unfold En.eqB; rw [decide_eq_false HP.out]; simp), grows⟩
    · have z1 : ((E.fi.length : Int) != (F.fi.length : Int)) = true := by simp; omega
      have L1 := Lib.hid l1
      clear l1
      go_enter Try.func27, Try.ntmps27
      go_wp2_with fail
      go_ret
      exact ⟨ret_bool (by unfold En.eqB; rw [decide_eq_false (p := E.fi = F.fi) (fun e => L1.out (by rw [e]))]; simp), grows⟩
  · have z0 : ((E.va.length : Int) != (F.va.length : Int)) = true := by simp; omega
    have L0 := Lib.hid l0
    clear l0
    go_enter Try.func27, Try.ntmps27
    go_wp2_with fail
    go_ret
    exact ⟨ret_bool (by unfold En.eqB; rw [decide_eq_false (fun e => L0.out (by rw [e]))]; rfl), grows⟩
end Go.Proofs.Ytonnlcjkgpahoaa
namespace Go.Proofs.Ytonnlcjkgpahoaa
open Go.RowKit

/-- a table with rows of its own: the cells vs of the table are the rows' slices, the data ls; every block is B or later, no two rows share one -/
def Tab (B : Nat) (w : World) (v : Value) (vs : List Value) (ls : List (List Int)) : Prop :=
  vs.length = ls.length ∧ w.ownsRow B 34 1 v ls.length vs ∧
  (∀ (i : Nat) (u : Value) (l : List Int), vs[i]? = some u → ls[i]? = some l → w.ownsRow B 64 1 u l.length (l.map (.int .u32)) ∧ ∀ x ∈ l, U32 x) ∧
  (∀ (i j : Nat) (u u' : Value) (k : Nat), vs[i]? = some u → vs[j]? = some u' → u.ownBlock = some k → u'.ownBlock = some k → i = j)

theorem own_keep {w w' : World} {base : Nat} {e : TypeId} {size : Nat} {v : Value} {n : Nat} {xs : List Value} (h : w.ownsRow base e size v n xs) (hb : ∀ k, v.ownBlock = some k → w'.heap[k]? = w.heap[k]?) : w'.ownsRow base e size v n xs := by
  obtain ⟨h1, h2⟩ := h
  refine ⟨h1, ?_⟩
  rcases h2 with h2 | ⟨g, cap, cur, rfl, hg, hh, r⟩
  · exact .inl h2
  · exact .inr ⟨g, cap, cur, rfl, hg, by rw [hb g rfl]; exact hh, r⟩
theorem own_heap {w : World} {base : Nat} {e : TypeId} {size : Nat} {v : Value} {n : Nat} {xs : List Value} (h : w.ownsRow base e size v n xs) {k : Nat} (hk : v.ownBlock = some k) : ∃ cur, w.heap[k]? = some (.cells cur e (0, 0)) ∧ base ≤ k := by
  rcases h.2 with ⟨rfl, _⟩ | ⟨g, cap, cur, rfl, hg, hh, r⟩
  · simp [Value.ownBlock] at hk
  · simp only [Value.ownBlock, Option.some.injEq] at hk
    subst hk
    exact ⟨cur, hh, hg⟩
theorem own_lt {w : World} {base : Nat} {e : TypeId} {size : Nat} {v : Value} {n : Nat} {xs : List Value} (h : w.ownsRow base e size v n xs) {k : Nat} (hk : v.ownBlock = some k) : k < w.heap.size := by
  obtain ⟨cur, hh, _⟩ := own_heap h hk
  exact lt_of_block hh
theorem own_one {w : World} {base : Nat} {e : TypeId} {size : Nat} {v : Value} {n : Nat} {xs : List Value} (h : w.ownsRow base e size v n xs) : v.oneCell' = true := by
  obtain ⟨oa, c, rfl⟩ := own_slice h
  rfl
theorem own_max {w : World} {base : Nat} {e : TypeId} {size : Nat} {v : Value} {n : Nat} {xs : List Value} (h : w.ownsRow base e size v n xs) : n ≤ maxLen := by
  rcases h.2 with ⟨_, rfl⟩ | ⟨g, cap, cur, rfl, hg, hh, h1, h2, _⟩
  · exact Nat.zero_le _
  · exact Nat.le_trans h1 h2
theorem ints_one {k : IntKind} {l : List Int} : ∀ u ∈ l.map (Value.int k), u.oneCell' = true := fun u hu => by
  rw [List.mem_map] at hu; obtain ⟨x, _, rfl⟩ := hu; rfl

namespace Tab
variable {B : Nat} {w w' : World} {v : Value} {vs : List Value} {ls : List (List Int)}
theorem ne (h : Tab B w v vs ls) {i : Nat} {u : Value} {k : Nat} (hi : vs[i]? = some u) (hk : u.ownBlock = some k) : v.ownBlock ≠ some k := by
  obtain ⟨h1, h2, h3, _⟩ := h
  intro e
  obtain ⟨l, hl⟩ : ∃ l, ls[i]? = some l := ⟨_, List.getElem?_eq_getElem (by rw [← h1]; exact (List.getElem?_eq_some_iff.1 hi).1)⟩
  obtain ⟨c1, g1, _⟩ := own_heap h2 e
  obtain ⟨c2, g2, _⟩ := own_heap (h3 i u l hi hl).1 hk
  exact ne_of_type g1 g2 (by decide) rfl
theorem row (h : Tab B w v vs ls) {i : Nat} {l : List Int} (hl : ls[i]? = some l) : ∃ u, vs[i]? = some u ∧ w.ownsRow B 64 1 u l.length (l.map (.int .u32)) ∧ ∀ x ∈ l, U32 x := by
  have hlt := (List.getElem?_eq_some_iff.1 hl).1
  obtain ⟨u, hu⟩ : ∃ u, vs[i]? = some u := ⟨_, List.getElem?_eq_getElem (by rw [h.1]; exact hlt)⟩
  exact ⟨u, hu, h.2.2.1 i u l hu hl⟩
theorem rows (h : Tab B w v vs ls) : Rows w 1 RowR v ls := by
  have hh := h
  obtain ⟨h1, h2, h3, h4⟩ := h
  rcases h2.2 with ⟨rfl, h0⟩ | ⟨g, cap, cur, rfl, hg, hx, q1, q2, _⟩
  · exact .inl ⟨rfl, List.eq_nil_of_length_eq_zero h0⟩
  · refine .inr ⟨⟨g, 0, none⟩, cap, rfl, q1, q2, fun _ => rfl, fun i d hi => ?_⟩
    obtain ⟨u, hu, ho, hU⟩ := hh.row hi
    refine ⟨[u], rfl, ⟨u, rfl, ⟨own_src ho ints_one, own_max ho⟩, hU⟩, fun j x hj => ?_⟩
    cases j with
    | succ j => simp at hj
    | zero =>
      simp only [List.getElem?_cons_zero, Option.some.injEq] at hj
      subst hj
      have := h2.cells (g := g) rfl i u hu
      rw [add_mk] at this
      rw [Nat.mul_one, Nat.add_zero]; exact this
theorem ext (h : Tab B w v vs ls) (hx : Ext w w') : Tab B w' v vs ls :=
  ⟨h.1, own_ext h.2.1 hx, fun i u l hu hl => ⟨own_ext (h.2.2.1 i u l hu hl).1 hx, (h.2.2.1 i u l hu hl).2⟩, h.2.2.2⟩
theorem nil : Tab B w (.slice none 0 0) [] [] :=
  ⟨rfl, World.ownsRow_nil _ _ _ _, fun i u l hu => by simp at hu, fun i j u u' k hu => by simp at hu⟩
/-- one row turned into another, in its own block -/
theorem rowTo (h : Tab B w v vs ls) {i g n c : Nat} {l0 l : List Int} (hu : vs[i]? = some (.slice (some ⟨g, 0, none⟩) n c)) (hl : ls[i]? = some l0) (hk : ∀ k, k ≠ g → k < w.heap.size → w'.heap[k]? = w.heap[k]?)
    (ho : w'.ownsRow B 64 1 (.slice (some ⟨g, 0, none⟩) n c) l.length (l.map (.int .u32))) (hU : ∀ x ∈ l, U32 x) : Tab B w' v vs (ls.set i l) := by
  have hh := h
  obtain ⟨h1, h2, h3, h4⟩ := h
  have hne := hh.ne hu rfl
  refine ⟨by rw [List.length_set]; exact h1, ?_, fun j u m hj hm => ?_, h4⟩
  · rw [List.length_set]
    exact own_keep h2 (fun k e => hk k (fun e' => hne (by rw [← e', ← e])) (own_lt h2 e))
  · by_cases hij : i = j
    · subst hij
      rw [List.getElem?_set_self (List.getElem?_eq_some_iff.1 hl).1] at hm
      obtain rfl := Option.some.inj hm
      obtain rfl := Option.some.inj (hu.symm.trans hj)
      exact ⟨ho, hU⟩
    · rw [List.getElem?_set_ne hij] at hm
      obtain ⟨q1, q2⟩ := h3 j u m hj hm
      exact ⟨own_keep q1 (fun k e => hk k (fun e' => hij (h4 i j _ _ k hu hj (by rw [e']; rfl) e)) (own_lt q1 e)), q2⟩
/-- a new row laid into the table's cell i -/
theorem setRow {G n c i g m k : Nat} {l : List Int} (h : Tab B w (.slice (some ⟨G, 0, none⟩) n c) vs ls) (hi : i < ls.length) (ho : w.ownsRow B 64 1 (.slice (some ⟨g, 0, none⟩) m k) l.length (l.map (.int .u32))) (hU : ∀ x ∈ l, U32 x)
    (hf : ∀ (j : Nat) (u : Value), vs[j]? = some u → u.ownBlock ≠ some g) : Tab B (w.setCell ⟨G, i, none⟩ (.slice (some ⟨g, 0, none⟩) m k)) (.slice (some ⟨G, 0, none⟩) n c) (vs.set i (.slice (some ⟨g, 0, none⟩) m k)) (ls.set i l) := by
  have hh := h
  obtain ⟨h1, h2, h3, h4⟩ := h
  rcases h2.2 with ⟨e, _⟩ | ⟨G', cap, cur, e, hB, hG, q1, q2, q3, q4⟩
  · cases e
  · simp only [Value.slice.injEq, Option.some.injEq, Addr.mk.injEq, and_true] at e
    obtain ⟨rfl, rfl, rfl⟩ := e
    have hother : ∀ q, q ≠ G → (w.setCell ⟨G, i, none⟩ (.slice (some ⟨g, 0, none⟩) m k)).heap[q]? = w.heap[q]? := fun q hq => Below.heap_setCell _ _ _ _ (fun e => hq e)
    obtain ⟨cg, hg, _⟩ := own_heap ho rfl
    refine ⟨by simp [h1], ?_, fun j u d hj hd => ?_, fun a b u u' q ha hb hu hu' => ?_⟩
    · rw [List.length_set]
      refine ⟨by simp [h2.1], .inr ⟨G, c, cur.setIfInBounds i (.slice (some ⟨g, 0, none⟩) m k), rfl, hB, setCell_heap hG, q1, q2, by simpa using q3, ?_⟩⟩
      rw [← q4, Array.toList_setIfInBounds, List.take_set]
    · by_cases hij : i = j
      · subst hij
        rw [List.getElem?_set_self hi] at hd
        rw [List.getElem?_set_self (by rw [h1]; exact hi)] at hj
        obtain rfl := Option.some.inj hd
        obtain rfl := Option.some.inj hj
        exact ⟨own_keep ho (fun q e => hother q (fun e' => by
          simp only [Value.ownBlock, Option.some.injEq] at e
          exact ne_of_type hG hg (by decide) (by rw [← e', e]))), hU⟩
      · rw [List.getElem?_set_ne hij] at hd hj
        obtain ⟨z1, z2⟩ := h3 j u d hj hd
        exact ⟨own_keep z1 (fun q e => hother q (fun e' => hh.ne hj e (by rw [e']; rfl))), z2⟩
    · by_cases hia : i = a <;> by_cases hib : i = b
      · omega
      · subst hia
        rw [List.getElem?_set_self (by rw [h1]; exact hi)] at ha
        rw [List.getElem?_set_ne hib] at hb
        obtain rfl := Option.some.inj ha
        simp only [Value.ownBlock, Option.some.injEq] at hu
        subst hu
        exact absurd hu' (hf b u' hb)
      · subst hib
        rw [List.getElem?_set_self (by rw [h1]; exact hi)] at hb
        rw [List.getElem?_set_ne hia] at ha
        obtain rfl := Option.some.inj hb
        simp only [Value.ownBlock, Option.some.injEq] at hu'
        subst hu'
        exact absurd hu (hf a u ha)
      · rw [List.getElem?_set_ne hia] at ha
        rw [List.getElem?_set_ne hib] at hb
        exact h4 a b u u' q ha hb hu hu'
/-- a row put behind the others -/
theorem push (h : Tab B w v vs ls) {u v' : Value} {l : List Int} (ho : w.ownsRow B 64 1 u l.length (l.map (.int .u32))) (hU : ∀ x ∈ l, U32 x) (hf : ∀ (j : Nat) (u' : Value) (k : Nat), vs[j]? = some u' → u'.ownBlock = some k → u.ownBlock ≠ some k)
    (hv : w'.ownsRow B 34 1 v' (ls.length + 1) (vs ++ [u])) (hg : w.grownBy w' v.ownBlock) : Tab B w' v' (vs ++ [u]) (ls ++ [l]) := by
  have hh := h
  obtain ⟨h1, h2, h3, h4⟩ := h
  have hu : ∀ k, u.ownBlock = some k → some k ≠ v.ownBlock := fun k e e' => by
    obtain ⟨c1, g1, _⟩ := own_heap ho e
    obtain ⟨c2, g2, _⟩ := own_heap h2 e'.symm
    exact ne_of_type g1 g2 (by decide) rfl
  refine ⟨by simp [h1], by rw [List.length_append]; exact hv, fun i x d hi hd => ?_, fun a b x y k ha hb hx hy => ?_⟩
  · rcases Nat.lt_or_ge i ls.length with hlt | hge
    · rw [List.getElem?_append_left (by omega)] at hi
      rw [List.getElem?_append_left hlt] at hd
      obtain ⟨z1, z2⟩ := h3 i x d hi hd
      exact ⟨own_keep z1 (fun k e => hg.block k (own_lt z1 e) (fun e' => hh.ne hi e e'.symm)), z2⟩
    · have hi2 := (List.getElem?_eq_some_iff.1 hi).1
      simp at hi2
      obtain rfl : i = ls.length := by omega
      rw [List.getElem?_append_right (by omega)] at hi hd
      simp [h1] at hi hd
      subst hi hd
      exact ⟨own_keep ho (fun k e => hg.block k (own_lt ho e) (hu k e)), hU⟩
  · rcases Nat.lt_or_ge a vs.length with ha1 | ha1 <;> rcases Nat.lt_or_ge b vs.length with hb1 | hb1
    · rw [List.getElem?_append_left ha1] at ha
      rw [List.getElem?_append_left hb1] at hb
      exact h4 a b x y k ha hb hx hy
    · have hb2 := (List.getElem?_eq_some_iff.1 hb).1
      simp at hb2
      rw [List.getElem?_append_left ha1] at ha
      rw [List.getElem?_append_right hb1, show b - vs.length = 0 by omega] at hb
      simp at hb; subst hb
      exact absurd hy (hf a x k ha hx)
    · have ha2 := (List.getElem?_eq_some_iff.1 ha).1
      simp at ha2
      rw [List.getElem?_append_left hb1] at hb
      rw [List.getElem?_append_right ha1, show a - vs.length = 0 by omega] at ha
      simp at ha; subst ha
      exact absurd hx (hf b y k hb hy)
    · have ha2 := (List.getElem?_eq_some_iff.1 ha).1
      have hb2 := (List.getElem?_eq_some_iff.1 hb).1
      simp at ha2 hb2
      omega
/-- a value laid into a row -/
theorem setCell (h : Tab B w v vs ls) {i j g n c : Nat} {l : List Int} {x : Int} (hu : vs[i]? = some (.slice (some ⟨g, 0, none⟩) n c)) (hl : ls[i]? = some l) (hx : U32 x) : Tab B (w.setCell ⟨g, j, none⟩ (.int .u32 x)) v vs (ls.set i (l.set j x)) := by
  obtain ⟨u, hu', ho, hU⟩ := h.row hl
  obtain rfl := Option.some.inj (hu.symm.trans hu')
  refine h.rowTo hu hl (fun k hk _ => Below.heap_setCell _ _ _ _ (fun e => hk e)) ?_ (fun y hy => ?_)
  · rcases ho.2 with ⟨e, _⟩ | ⟨g', cap, cur, e, hB, hG, q1, q2, q3, q4⟩
    · cases e
    · simp only [Value.slice.injEq, Option.some.injEq, Addr.mk.injEq, and_true] at e
      obtain ⟨rfl, rfl, rfl⟩ := e
      refine ⟨by simp, .inr ⟨g, c, cur.setIfInBounds j (.int .u32 x), ?_, hB, setCell_heap hG, by simpa using q1, q2, by simpa using q3, ?_⟩⟩
      · simp
      · rw [List.length_set, List.map_set, ← q4, Array.toList_setIfInBounds, List.take_set]
  · rcases List.mem_or_eq_of_mem_set hy with hy | rfl
    · exact hU y hy
    · exact hx
end Tab
theorem alwF {W : World} {p o : Nat} {c : Array Value} {t : TypeId} (h : W.heap[p]? = some (.cells c t (0, 0))) (w : World) [g : Grows W w] : w.frozen? ⟨p, o, none⟩ = false := free_of (g.out.heap h)
theorem info_u32s : (Try.prog.info? 34).map (fun i => (i.zero, i.size, i.bytes)) = some (some (.slice none 0 0), 1, 24) := by kernel_rfl
theorem mk_row (n : Nat) (h : n ≤ 1000000) (w : World) : (Instr.makeSlice 34 (.int .i64 (n : Int)) (.int .i64 (n : Int))).run Try.prog w = .ok (.slice (some ⟨w.heap.size, 0, none⟩) n n) (w.alloc (.cells (madeCells #[.int .u32 0] n) 64)) :=
  run_make_row' _ _ _ 4 Try.underlying34 info_u32 rfl _ _ n (by omega) (by omega) w
theorem mk_tab (n : Nat) (h : n ≤ 1000000) (w : World) : (Instr.makeSlice 33 (.int .i64 (n : Int)) (.int .i64 (n : Int))).run Try.prog w = .ok (.slice (some ⟨w.heap.size, 0, none⟩) n n) (w.alloc (.cells (madeCells #[.slice none 0 0] n) 34)) :=
  run_make_row' _ _ _ 24 Try.underlying33 info_u32s rfl _ _ n (by omega) (by omega) w
theorem made_list (z : Value) (n : Nat) : (madeCells #[z] n).toList = List.replicate n z := by
  apply List.ext_getElem
  · simp [madeCells]
  · intro i h1 h2; simp [madeCells, Nat.mod_one]
theorem own_made {B : Nat} {w : World} {m : Nat} (hB : B ≤ w.heap.size) (hm : m ≤ maxLen) : (w.alloc (.cells (madeCells #[.int .u32 0] m) 64)).ownsRow B 64 1 (.slice (some ⟨w.heap.size, 0, none⟩) m m) (List.replicate m (0 : Int)).length ((List.replicate m (0 : Int)).map (.int .u32)) := by
  refine ⟨by simp, .inr ⟨w.heap.size, m, _, by simp, hB, alloc_heap w _, by simp, hm, by simp [madeCells], ?_⟩⟩
  rw [made_list]; simp
theorem zero_u32 {m : Nat} : ∀ x ∈ List.replicate m (0 : Int), U32 x := fun x hx => by
  obtain rfl := List.eq_of_mem_replicate hx; exact ⟨by decide, by decide⟩
theorem Tab.made {B : Nat} {w : World} {n : Nat} (hB : B ≤ w.heap.size) (hm : n ≤ maxLen) : Tab B (w.alloc (.cells (madeCells #[.slice none 0 0] n) 34)) (.slice (some ⟨w.heap.size, 0, none⟩) n n) (List.replicate n (.slice none 0 0)) (List.replicate n []) := by
  refine ⟨by simp, ⟨by simp, .inr ⟨w.heap.size, n, _, by simp, hB, alloc_heap w _, by simp, hm, by simp [madeCells], ?_⟩⟩, fun i u l hu hl => ?_, fun i j u u' k hu hu' h1 h2 => ?_⟩
  · rw [made_list]; simp
  · obtain rfl := List.eq_of_mem_replicate (List.mem_of_getElem? hu)
    obtain rfl := List.eq_of_mem_replicate (List.mem_of_getElem? hl)
    exact ⟨World.ownsRow_nil _ _ _ _, by simp⟩
  · obtain rfl := List.eq_of_mem_replicate (List.mem_of_getElem? hu)
    simp [Value.ownBlock] at h1
namespace Rg
/-- a list of lists, as far as k; the others are empty -/
def part (l : List (List Int)) (k : Nat) : List (List Int) := l.take k ++ List.replicate (l.length - k) []
theorem part_len (l : List (List Int)) {k : Nat} (h : k ≤ l.length) : (part l k).length = l.length := by simp [part]; omega
theorem part_zero (l : List (List Int)) : part l 0 = List.replicate l.length [] := by simp [part]
theorem part_full (l : List (List Int)) : part l l.length = l := by simp [part]
theorem part_get {l : List (List Int)} {k : Nat} (h : k < l.length) : (part l k)[k]? = some [] := by
  unfold part
  have hl : (l.take k).length = k := by simp; omega
  rw [List.getElem?_append_right (by omega), hl, Nat.sub_self, show l.length - k = (l.length - (k + 1)) + 1 by omega, List.replicate_succ]; rfl
theorem set_same {α : Type} {l : List α} {k : Nat} {x : α} (h : l[k]? = some x) : l.set k x = l := by
  apply List.ext_getElem?; intro i
  by_cases hi : k = i
  · subst hi; rw [List.getElem?_set_self (List.getElem?_eq_some_iff.1 h).1, h]
  · rw [List.getElem?_set_ne hi]
theorem part_succ {l : List (List Int)} {k : Nat} {x : List Int} (h : l[k]? = some x) : part l (k + 1) = (part l k).set k x := by
  have hlt := (List.getElem?_eq_some_iff.1 h).1
  unfold part
  have hl : (l.take k).length = k := by simp; omega
  rw [List.set_append_right _ _ (by omega), hl, Nat.sub_self, show l.length - k = (l.length - (k + 1)) + 1 by omega, List.replicate_succ, List.set_cons_zero, List.take_add_one, h]
  simp
end Rg
theorem Tab.lt {B : Nat} {w : World} {v : Value} {vs : List Value} {ls : List (List Int)} (h : Tab B w v vs ls) {j : Nat} {u : Value} {k : Nat} (hu : vs[j]? = some u) (hk : u.ownBlock = some k) : k < w.heap.size := by
  obtain ⟨l, hl⟩ : ∃ l, ls[j]? = some l := ⟨_, List.getElem?_eq_getElem (by rw [← h.1]; exact (List.getElem?_eq_some_iff.1 hu).1)⟩
  exact own_lt (h.2.2.1 j u l hu hl).1 hk
/-- the table's cell k, for good: what it holds, and that it may be written -/
theorem Tab.at {B : Nat} {w : World} {G n c : Nat} {vs : List Value} {ls : List (List Int)} (h : Tab B w (.slice (some ⟨G, 0, none⟩) n c) vs ls) {k : Nat} (hk : k < ls.length) : ∃ u, vs[k]? = some u ∧ (∀ w' [Grows w w'], w'.cell? ⟨G, k, none⟩ = some u) ∧ (∀ w' [Grows w w'], w'.frozen? ⟨G, k, none⟩ = false) := by
  obtain ⟨u, hu⟩ : ∃ u, vs[k]? = some u := ⟨_, List.getElem?_eq_getElem (by rw [h.1]; exact hk)⟩
  obtain ⟨cur, hG, _⟩ := own_heap h.2.1 (k := G) rfl
  have h1 := h.2.1.cells (g := G) rfl k u hu
  rw [add_mk, Nat.zero_add] at h1
  exact ⟨u, hu, alw h1, alwF hG⟩
theorem tab_slice {B : Nat} {w : World} {v : Value} {vs : List Value} {ls : List (List Int)} (h : Tab B w v vs ls) : ∃ oa c, v = .slice oa ls.length c := own_slice h.2.1

theorem take_at {α : Type} {l : List α} {k : Nat} {x : α} (h : l[k]? = some x) : l.take (k + 1) = l.take k ++ [x] := by
  rw [List.take_add_one, h]; rfl
theorem take_len {α : Type} {l : List α} {k : Nat} (h : k ≤ l.length) : (l.take k).length = k := by rw [List.length_take]; omega
theorem ext_grown {a w w' : World} {row : Option Nat} (h : Ext a w) (hg : w.grownBy w' row) (hr : ∀ k, row = some k → a.heap.size ≤ k) : Ext a w' :=
  ((Mod.of_ext (S := fun k => some k = row) h).trans (grown_mod hg)).ext (fun k hk => hr k hk.symm)
theorem Tab.base {B B' : Nat} {w : World} {v : Value} {vs : List Value} {ls : List (List Int)} (h : Tab B w v vs ls) (hb : B' ≤ B) : Tab B' w v vs ls :=
  ⟨h.1, own_base h.2.1 hb, fun i u l hu hl => ⟨own_base (h.2.2.1 i u l hu hl).1 hb, (h.2.2.1 i u l hu hl).2⟩, h.2.2.2⟩
theorem own_ge {w : World} {base : Nat} {e : TypeId} {size : Nat} {v : Value} {n : Nat} {xs : List Value} (h : w.ownsRow base e size v n xs) {k : Nat} (hk : v.ownBlock = some k) : base ≤ k := by
  obtain ⟨_, _, h⟩ := own_heap h hk; exact h
theorem splice_all {L cs : List Value} (h : cs.length = L.length) : splice L 0 cs = cs := by
  unfold splice; rw [List.take_zero, List.nil_append, Nat.zero_add, h, List.drop_length, List.append_nil]
theorem own_lt' {w : World} {base : Nat} {e : TypeId} {size g n c : Nat} {m : Nat} {xs : List Value} (h : w.ownsRow base e size (.slice (some ⟨g, 0, none⟩) m c) n xs) : g < w.heap.size := own_lt h rfl
/-- a new row of zeros put behind the table's rows -/
theorem Tab.pushMade {B m : Nat} {w w2 : World} {v v' : Value} {vs : List Value} {ls : List (List Int)} (h : Tab B w v vs ls) (hB : B ≤ w.heap.size) (hm : m ≤ maxLen) (hx : Ext (w.alloc (.cells (madeCells #[.int .u32 0] m) 64)) w2) {w' : World}
    (hv : w'.ownsRow B 34 1 v' (ls.length + 1) (vs ++ [.slice (some ⟨w.heap.size, 0, none⟩) m m])) (hg : w2.grownBy w' v.ownBlock) : Tab B w' v' (vs ++ [.slice (some ⟨w.heap.size, 0, none⟩) m m]) (ls ++ [List.replicate m 0]) :=
  Tab.push (w := w2) (h.ext (((Ext.refl w).alloc _).trans hx)) (own_ext (own_made hB hm) hx) zero_u32 (fun j u k hu hk e => by
    simp only [Value.ownBlock, Option.some.injEq] at e
    have := h.lt hu hk; omega) hv hg

theorem Tab.cellAt {B : Nat} {w : World} {v : Value} {vs : List Value} {ls : List (List Int)} (h : Tab B w v vs ls) {k n : Nat} {l : List Int} {y : Int} (hl : ls[k]? = some l) (hy : l[n]? = some y) :
    ∃ G c g2 c2, v = .slice (some ⟨G, 0, none⟩) ls.length c ∧ vs[k]? = some (.slice (some ⟨g2, 0, none⟩) l.length c2) ∧ (∀ w' [Grows w w'], w'.cell? ⟨G, k, none⟩ = some (.slice (some ⟨g2, 0, none⟩) l.length c2)) ∧
      (∀ w' [Grows w w'], w'.cell? ⟨g2, n, none⟩ = some (.int .u32 y)) ∧ (∀ w' [Grows w w'], w'.frozen? ⟨g2, n, none⟩ = false) ∧ B ≤ g2 ∧ g2 < w.heap.size ∧ c ≤ maxLen ∧ c2 ≤ maxLen ∧ ls.length ≤ c ∧ l.length ≤ c2 := by
  have hh := h
  have hk := (List.getElem?_eq_some_iff.1 hl).1
  have hn := (List.getElem?_eq_some_iff.1 hy).1
  obtain ⟨u, hu, ho, hU⟩ := h.row hl
  obtain ⟨G, c, rfl, g1, g2, g3, g4, g5, g6⟩ := own_cell h.2.1 (by intro e; rw [e] at hu; simp at hu)
  obtain ⟨q, c2, rfl, q1, q2, q3, q4, q5, q6⟩ := own_cell ho (by intro e; rw [List.map_eq_nil_iff] at e; subst e; simp at hy)
  obtain ⟨cur, hG, _⟩ := own_heap ho (k := q) rfl
  exact ⟨G, c, q, c2, rfl, hu, alw (g5 k _ hu), alw (q5 n _ (by simp [hy])), alwF hG, q1, q2, g4, q4, g3, q3⟩

theorem bools_one {l : List Bool} : ∀ u ∈ l.map Value.bool, u.oneCell' = true := fun u hu => by
  rw [List.mem_map] at hu; obtain ⟨x, _, rfl⟩ := hu; rfl
/-- the cells of a row of its own, for good -/
theorem own_at {B : Nat} {w : World} {e : TypeId} {v : Value} {n : Nat} {xs : List Value} (h : w.ownsRow B e 1 v n xs) {k : Nat} {x : Value} (hk : xs[k]? = some x) :
    ∃ g c, v = .slice (some ⟨g, 0, none⟩) n c ∧ (∀ w' [Grows w w'], w'.cell? ⟨g, k, none⟩ = some x) ∧ (∀ w' [Grows w w'], w'.frozen? ⟨g, k, none⟩ = false) ∧ B ≤ g ∧ g < w.heap.size ∧ n ≤ c ∧ c ≤ maxLen ∧ k < n := by
  obtain ⟨g, c, rfl, h1, h2, h3, h4, h5, h6⟩ := own_cell h (by intro e; rw [e] at hk; simp at hk)
  obtain ⟨cur, hG, _⟩ := own_heap h (k := g) rfl
  have hl := h.1
  rw [Nat.mul_one] at hl
  exact ⟨g, c, rfl, alw (h5 k x hk), alwF hG, h1, h2, h3, h4, by rw [← hl]; exact (List.getElem?_eq_some_iff.1 hk).1⟩
/-- a cell of a row of its own written -/
theorem own_set {B : Nat} {w : World} {e : TypeId} {n c g : Nat} {xs : List Value} (h : w.ownsRow B e 1 (.slice (some ⟨g, 0, none⟩) n c) n xs) (j : Nat) (x : Value) :
    (w.setCell ⟨g, j, none⟩ x).ownsRow B e 1 (.slice (some ⟨g, 0, none⟩) n c) n (xs.set j x) := by
  rcases h.2 with ⟨e, _⟩ | ⟨g', cap, cur, e, hB, hG, q1, q2, q3, q4⟩
  · cases e
  · simp only [Value.slice.injEq, Option.some.injEq, Addr.mk.injEq, and_true] at e
    obtain ⟨rfl, -, rfl⟩ := e
    refine ⟨by simp [h.1], .inr ⟨g, c, cur.setIfInBounds j x, rfl, hB, setCell_heap hG, q1, q2, by simpa using q3, ?_⟩⟩
    rw [← q4, Array.toList_setIfInBounds, List.take_set]
theorem own_setNe {B : Nat} {w : World} {e : TypeId} {v : Value} {n : Nat} {xs : List Value} (h : w.ownsRow B e 1 v n xs) {p : Addr} (hp : v.ownBlock ≠ some p.block) (x : Value) : (w.setCell p x).ownsRow B e 1 v n xs :=
  own_keep h (fun k hk => Below.heap_setCell _ _ _ _ (fun e => hp (by rw [← e, hk])))
/-- rows of different types lie in different blocks -/
theorem own_apart {B C : Nat} {w : World} {e f : TypeId} {a b : Nat} {v u : Value} {n m : Nat} {xs ys : List Value} (h : w.ownsRow B e a v n xs) (h' : w.ownsRow C f b u m ys) (hef : e ≠ f) {k : Nat} (hk : v.ownBlock = some k) : u.ownBlock ≠ some k := by
  intro hu
  obtain ⟨_, g1, _⟩ := own_heap h hk
  obtain ⟨_, g2, _⟩ := own_heap h' hu
  exact ne_of_type g1 g2 hef rfl
/-- rows that differ from each other in no block of a written one -/
theorem Tab.setNe {B : Nat} {w : World} {v : Value} {vs : List Value} {ls : List (List Int)} (h : Tab B w v vs ls) {p : Addr} (hp : v.ownBlock ≠ some p.block) (hr : ∀ (i : Nat) (u : Value), vs[i]? = some u → u.ownBlock ≠ some p.block) (x : Value) : Tab B (w.setCell p x) v vs ls :=
  ⟨h.1, own_setNe h.2.1 hp x, fun i u l hu hl => ⟨own_setNe (h.2.2.1 i u l hu hl).1 (hr i u hu) x, (h.2.2.1 i u l hu hl).2⟩, h.2.2.2⟩

/-- an environment of its own: every block is B or later, no two of its lists share one -/
structure OwnE (B : Nat) (w : World) (e : Pg.EV) (vs : List Value) (E : Pg.Env) : Prop where
  va : w.ownsRow B 4 1 e.c0 E.va.length (E.va.map .bool)
  fi : Tab B w e.c1 vs E.fi
  me : w.ownsRow B 64 1 e.c2 E.me.length (E.me.map (.int .u32))
  mu : ∀ x ∈ E.me, U32 x
  pl : w.ownsRow B 5 1 e.c3 E.pl.length (E.pl.map (.int .u8))
  pb : Io.Bytes E.pl
  mr : ∀ (i : Nat) (u : Value) (k : Nat), vs[i]? = some u → u.ownBlock = some k → e.c2.ownBlock ≠ some k
namespace OwnE
variable {B : Nat} {w w' : World} {e : Pg.EV} {vs : List Value} {E : Pg.Env}
theorem isE (h : OwnE B w e vs E) : Pg.IsE w e E :=
  ⟨⟨own_src h.va bools_one, own_max h.va⟩, h.fi.rows, ⟨⟨own_src h.me ints_one, own_max h.me⟩, h.mu⟩, ⟨⟨own_src h.pl ints_one, own_max h.pl⟩, h.pb⟩⟩
theorem ext (h : OwnE B w e vs E) (hx : Ext w w') : OwnE B w' e vs E :=
  ⟨own_ext h.va hx, h.fi.ext hx, own_ext h.me hx, h.mu, own_ext h.pl hx, h.pb, h.mr⟩
theorem base {C : Nat} (h : OwnE B w e vs E) (hb : C ≤ B) : OwnE C w e vs E :=
  ⟨own_base h.va hb, h.fi.base hb, own_base h.me hb, h.mu, own_base h.pl hb, h.pb, h.mr⟩
/-- a validity written -/
theorem setVa (h : OwnE B w e vs E) {g n c : Nat} (he : e.c0 = .slice (some ⟨g, 0, none⟩) n c) (j : Nat) (b : Bool) : OwnE B (w.setCell ⟨g, j, none⟩ (.bool b)) e vs { E with va := E.va.set j b } := by
  have hk : e.c0.ownBlock = some g := by rw [he]; rfl
  refine ⟨?_, h.fi.setNe (own_apart h.va h.fi.2.1 (by decide) hk) (fun i u hu => ?_) _, own_setNe h.me (own_apart h.va h.me (by decide) hk) _, h.mu, own_setNe h.pl (own_apart h.va h.pl (by decide) hk) _, h.pb, h.mr⟩
  · have h1 := h.va
    rw [he] at h1 ⊢
    obtain ⟨_, _, e2⟩ := own_slice h1
    simp only [Value.slice.injEq] at e2
    obtain ⟨-, rfl, -⟩ := e2
    have h2 := own_set h1 j (.bool b)
    rw [← List.map_set] at h2
    simpa using h2
  · obtain ⟨l, hl⟩ : ∃ l, E.fi[i]? = some l := ⟨_, List.getElem?_eq_getElem (by rw [← h.fi.1]; exact (List.getElem?_eq_some_iff.1 hu).1)⟩
    exact own_apart h.va (h.fi.2.2.1 i u l hu hl).1 (by decide) hk
/-- a metadata value written -/
theorem setMe (h : OwnE B w e vs E) {g n c : Nat} (he : e.c2 = .slice (some ⟨g, 0, none⟩) n c) (j : Nat) {x : Int} (hx : U32 x) : OwnE B (w.setCell ⟨g, j, none⟩ (.int .u32 x)) e vs { E with me := E.me.set j x } := by
  have hk : e.c2.ownBlock = some g := by rw [he]; rfl
  refine ⟨own_setNe h.va (own_apart h.me h.va (by decide) hk) _, h.fi.setNe (own_apart h.me h.fi.2.1 (by decide) hk) (fun i u hu e1 => h.mr i u g hu e1 hk) _, ?_, fun y hy => ?_, own_setNe h.pl (own_apart h.me h.pl (by decide) hk) _, h.pb, h.mr⟩
  · have h1 := h.me
    rw [he] at h1 ⊢
    obtain ⟨_, _, e2⟩ := own_slice h1
    simp only [Value.slice.injEq] at e2
    obtain ⟨-, rfl, -⟩ := e2
    have h2 := own_set h1 j (.int .u32 x)
    rw [← List.map_set] at h2
    simpa using h2
  · rcases List.mem_or_eq_of_mem_set hy with hy | rfl
    · exact h.mu y hy
    · exact hx
/-- a field's value written -/
theorem setFi (h : OwnE B w e vs E) {i g n c : Nat} {l : List Int} (hu : vs[i]? = some (.slice (some ⟨g, 0, none⟩) n c)) (hl : E.fi[i]? = some l) (j : Nat) {x : Int} (hx : U32 x) : OwnE B (w.setCell ⟨g, j, none⟩ (.int .u32 x)) e vs { E with fi := E.fi.set i (l.set j x) } := by
  have ho := (h.fi.2.2.1 i _ l hu hl).1
  have k1 := own_setNe (p := ⟨g, j, none⟩) h.va (own_apart ho h.va (by decide) rfl) (.int .u32 x)
  have k2 := own_setNe (p := ⟨g, j, none⟩) h.me (h.mr i _ g hu rfl) (.int .u32 x)
  have k3 := own_setNe (p := ⟨g, j, none⟩) h.pl (own_apart ho h.pl (by decide) rfl) (.int .u32 x)
  exact ⟨k1, h.fi.setCell hu hl hx, k2, h.mu, k3, h.pb, h.mr⟩
/-- a row replaced by what its block now holds -/
theorem rowTo (h : OwnE B w e vs E) {i g n c : Nat} {l0 l : List Int} (hu : vs[i]? = some (.slice (some ⟨g, 0, none⟩) n c)) (hl : E.fi[i]? = some l0) (hk : ∀ k, k ≠ g → k < w.heap.size → w'.heap[k]? = w.heap[k]?)
    (ho : w'.ownsRow B 64 1 (.slice (some ⟨g, 0, none⟩) n c) l.length (l.map (.int .u32))) (hU : ∀ x ∈ l, U32 x) : OwnE B w' e vs { E with fi := E.fi.set i l } := by
  have hr := (h.fi.2.2.1 i _ l0 hu hl).1
  have keep : ∀ {t : TypeId} {v : Value} {m : Nat} {xs : List Value}, w.ownsRow B t 1 v m xs → v.ownBlock ≠ some g → w'.ownsRow B t 1 v m xs := fun q hq => own_keep q (fun k e1 => hk k (fun e2 => hq (by rw [e1, e2])) (own_lt q e1))
  exact ⟨keep h.va (own_apart hr h.va (by decide) rfl), h.fi.rowTo hu hl hk ho hU, keep h.me (h.mr i _ g hu rfl), h.mu, keep h.pl (own_apart hr h.pl (by decide) rfl), h.pb, h.mr⟩
/-- a new row laid into the table -/
theorem setRow (h : OwnE B w e vs E) {G n c i g m k : Nat} {l : List Int} (he : e.c1 = .slice (some ⟨G, 0, none⟩) n c) (hi : i < E.fi.length) (ho : w.ownsRow B 64 1 (.slice (some ⟨g, 0, none⟩) m k) l.length (l.map (.int .u32))) (hU : ∀ x ∈ l, U32 x)
    (hf : ∀ (j : Nat) (u : Value), vs[j]? = some u → u.ownBlock ≠ some g) (hm : e.c2.ownBlock ≠ some g) : OwnE B (w.setCell ⟨G, i, none⟩ (.slice (some ⟨g, 0, none⟩) m k)) e (vs.set i (.slice (some ⟨g, 0, none⟩) m k)) { E with fi := E.fi.set i l } := by
  have hk : e.c1.ownBlock = some G := by rw [he]; rfl
  refine ⟨own_setNe h.va (own_apart h.fi.2.1 h.va (by decide) hk) _, ?_, own_setNe h.me (own_apart h.fi.2.1 h.me (by decide) hk) _, h.mu, own_setNe h.pl (own_apart h.fi.2.1 h.pl (by decide) hk) _, h.pb, fun j u q hj hq e1 => ?_⟩
  · have h1 := h.fi
    rw [he] at h1 ⊢
    exact h1.setRow hi ho hU hf
  · by_cases hij : i = j
    · subst hij
      rw [List.getElem?_set_self (by rw [h.fi.1]; exact hi)] at hj
      obtain rfl := Option.some.inj hj
      simp only [Value.ownBlock, Option.some.injEq] at hq
      subst hq
      exact hm e1
    · rw [List.getElem?_set_ne hij] at hj
      exact h.mr j u q hj hq e1
end OwnE
/-- what a call that makes an environment leaves -/
def EnvP (W : World) (E : Pg.Env) (e : Ending) (W' : World) : Prop := ∃ v vs, e = .returned (Pg.EV.val v) ∧ Ext W W' ∧ OwnE W.heap.size W' v vs E
theorem env_ret {W W' : World} {v : Pg.EV} {vs : List Value} {E : Pg.Env} (hx : Ext W W') (h : OwnE W.heap.size W' v vs E) : EnvP W E (.returned v.val) W' := ⟨v, vs, rfl, hx, h⟩
theorem EnvP.up {W W0 W' : World} {E : Pg.Env} {e : Ending} (h : EnvP W E e W') (hx : Ext W0 W) : EnvP W0 E e W' := by
  obtain ⟨v, vs, rfl, h1, h2⟩ := h
  exact ⟨v, vs, rfl, hx.trans h1, h2.base hx.le⟩
end Go.Proofs.Ytonnlcjkgpahoaa
namespace Go.Proofs.Ytonnlcjkgpahoaa
open Go.RowKit

namespace En
def inB (n : Nat) (i : Int) : Bool := decide (0 ≤ i) && decide (i < n)
def rowAt (ls : List (List Int)) (i : Int) : List Int := if 0 ≤ i then ls.getD i.toNat [] else []
def vaAt (l : List Bool) (i : Int) : Bool := if 0 ≤ i then l.getD i.toNat false else false
def elB (E : Pg.Env) (h f : Int) : Bool := if h = -1 then inB E.me.length f else vaAt E.va h && inB (rowAt E.fi h).length f
def refB (E : Pg.Env) (h f : Int) : Bool := if h = -1 then inB E.me.length f else inB E.fi.length h && inB (rowAt E.fi h).length f
def lst (E : Pg.Env) (h : Int) : List Int := if h = -1 then E.me else rowAt E.fi h
def get (E : Pg.Env) (h f : Int) : Int := if elB E h f then (lst E h).getD f.toNat 0 else 0
theorem inB_lo {n : Nat} {i : Int} (h : i < 0) : inB n i = false := by unfold inB; rw [decide_eq_false (by omega)]; rfl
theorem inB_hi {n : Nat} {i : Int} (h : (n : Int) ≤ i) : inB n i = false := by unfold inB; rw [decide_eq_false (p := i < n) (by omega), Bool.and_false]
theorem inB_ge {n : Nat} {i : Int} (h : 0 ≤ i) : inB n i = decide (i < n) := by unfold inB; rw [decide_eq_true h]; rfl
theorem inB_at {n k : Nat} (h : k < n) : inB n k = true := by unfold inB; rw [decide_eq_true (by omega), decide_eq_true (by omega)]; rfl
theorem inB_get {n : Nat} {i : Int} (h : inB n i = true) : ∃ k : Nat, i = k ∧ k < n := by
  unfold inB at h
  simp only [Bool.and_eq_true, decide_eq_true_eq] at h
  exact ⟨i.toNat, by omega, by omega⟩
theorem rowAt_in {ls : List (List Int)} {k : Nat} {l : List Int} (h : ls[k]? = some l) : rowAt ls k = l := by
  unfold rowAt; rw [if_pos (by omega), Int.toNat_natCast, List.getD_eq_getElem?_getD, h]; rfl
theorem rowAt_out {ls : List (List Int)} {i : Int} (h : i < 0 ∨ (ls.length : Int) ≤ i) : rowAt ls i = [] := by
  unfold rowAt
  by_cases h0 : 0 ≤ i
  · rw [if_pos h0, List.getD_eq_getElem?_getD, List.getElem?_eq_none (by omega)]; rfl
  · rw [if_neg h0]
theorem vaAt_in {l : List Bool} {k : Nat} {x : Bool} (h : l[k]? = some x) : vaAt l k = x := by
  unfold vaAt; rw [if_pos (by omega), Int.toNat_natCast, List.getD_eq_getElem?_getD, h]; rfl
theorem vaAt_out {l : List Bool} {i : Int} (h : i < 0 ∨ (l.length : Int) ≤ i) : vaAt l i = false := by
  unfold vaAt
  by_cases h0 : 0 ≤ i
  · rw [if_pos h0, List.getD_eq_getElem?_getD, List.getElem?_eq_none (by omega)]; rfl
  · rw [if_neg h0]
end En
theorem inU_any (W : World) (oa : Option Addr) (n c : Nat) (i : Int) : Calls Try.prog 119 #[.slice oa n c, .int .i64 i] W (Rets W (.bool (En.inB n i))) := by
  rcases (show i < 0 ∨ 0 ≤ i by omega) with h0 | h0
  · rw [En.inB_lo h0]
    go_enter Try.func119, Try.ntmps119
    go_wp2_with fail
    go_ret
    exact ⟨rfl, grows⟩
  · rw [En.inB_ge h0]
    go_enter Try.func119, Try.ntmps119
    go_wp2_with fail
    go_ret
    exact ⟨rfl, grows⟩
theorem atRow_in {W : World} {b o n c k : Nat} {u : Value} (hk : k < n) (hc : W.cell? ⟨b, o + k, none⟩ = some u) : Calls Try.prog 120 #[.slice (some ⟨b, o, none⟩) n c, .int .i64 k] W (Rets W u) := by
  have h1 := alw hc
  clear hc
  go_enter Try.func120, Try.ntmps120
  go_wp2_with fail
  go_ret
  exact ⟨rfl, grows⟩
theorem atRow_out (W : World) (oa : Option Addr) (n c : Nat) (i : Int) (h : i < 0 ∨ (n : Int) ≤ i) : Calls Try.prog 120 #[.slice oa n c, .int .i64 i] W (Rets W (.slice none 0 0)) := by
  rcases (show i < 0 ∨ (0 ≤ i ∧ (n : Int) ≤ i) by omega) with h0 | ⟨h0, h1⟩
  all_goals
    clear h
    go_enter Try.func120, Try.ntmps120
    go_wp2_with fail
    go_ret
    exact ⟨rfl, grows⟩
theorem atBool_any {W : World} {v : Value} {l : List Bool} (hb : Bs W v l) (i : Int) : Calls Try.prog 121 #[v, .int .i64 i] W (Rets W (.bool (En.vaAt l i))) := by
  obtain ⟨oa, c, rfl⟩ := bs_slice hb
  have hm := hb.2
  unfold maxLen at hm
  by_cases hin : 0 ≤ i ∧ i < l.length
  · obtain ⟨h0, h1⟩ := hin
    obtain ⟨k, rfl⟩ := Int.eq_ofNat_of_zero_le h0
    obtain ⟨x, hx⟩ : ∃ x, l[k]? = some x := ⟨_, List.getElem?_eq_getElem (by omega)⟩
    obtain ⟨b, o, e1, n1⟩ := bs_at hb (by omega)
    subst e1
    have g1 := n1 k x hx
    rw [En.vaAt_in hx]
    clear hb hx n1
    go_enter Try.func121, Try.ntmps121
    go_wp2_with fail
    go_ret
    exact ⟨rfl, grows⟩
  · rw [En.vaAt_out (by omega)]
    clear hb
    rcases (show i < 0 ∨ (0 ≤ i ∧ (l.length : Int) ≤ i) by omega) with h0 | ⟨h0, h1⟩
    all_goals
      clear hin
      go_enter Try.func121, Try.ntmps121
      go_wp2_with fail
      go_ret
      exact ⟨rfl, grows⟩
set_option maxRecDepth 8000 in
theorem has12_any {W : World} {e : Pg.EV} {E : Pg.Env} (he : Pg.IsE W e E) (i : Int) : Calls Try.prog 33 #[e.val, .int .i64 i] W (Rets W (.bool (En.vaAt E.va i))) := by
  obtain ⟨b0, b1, b2, b3, d0, d1, d2, d3, hg⟩ := he.form
  obtain ⟨rfl, hva, hfi, hme, hpl, g0, g1, g2, g3⟩ := hg
  dsimp only [Pg.EV.val]
  have be := alloc_heap W (.cells #[.slice b0 E.va.length d0, .slice b1 E.fi.length d1, .slice b2 E.me.length d2, .slice b3 E.pl.length d3] 37)
  have k0 := alw (cell_of (o := 0) be)
  clear be
  by_cases hin : 0 ≤ i ∧ i < E.va.length
  · obtain ⟨h0, h1⟩ := hin
    obtain ⟨k, rfl⟩ := Int.eq_ofNat_of_zero_le h0
    obtain ⟨x, hx⟩ : ∃ x, E.va[k]? = some x := ⟨_, List.getElem?_eq_getElem (by omega)⟩
    obtain ⟨b, o, e1, n1⟩ := bs_at hva (by omega)
    subst e1
    have q1 := n1 k x hx
    rw [En.vaAt_in hx]
    clear he hva hfi hme hpl hx n1
    go_enter Try.func33, Try.ntmps33
    go_wp2_with fail
    go_ret
    exact ⟨rfl, grows⟩
  · rw [En.vaAt_out (by omega)]
    clear he hva hfi hme hpl
    rcases (show i < 0 ∨ (0 ≤ i ∧ (E.va.length : Int) ≤ i) by omega) with h0 | ⟨h0, h1⟩
    all_goals
      clear hin
      go_enter Try.func33, Try.ntmps33
      go_wp2_with fail
      go_ret
      exact ⟨rfl, grows⟩
/-- what element returns: the metadata, or the table's row -/
def ElV (W : World) (e : Pg.EV) (E : Pg.Env) (h : Int) (u : Value) : Prop := (h = -1 → u = e.c2) ∧ ∀ (b o n c k : Nat), h = (k : Int) → e.c1 = .slice (some ⟨b, o, none⟩) n c → k < E.fi.length → W.cell? ⟨b, o + k, none⟩ = some u
set_option maxRecDepth 8000 in
theorem element_any {W : World} {e : Pg.EV} {E : Pg.Env} (he : Pg.IsE W e E) (h f : Int) :
    ∃ u, ElV W e E h u ∧ Ns .u32 W u (En.lst E h) ∧ (∀ x ∈ En.lst E h, U32 x) ∧ ∀ w, Ext W w → Calls Try.prog 113 #[e.val, .agg #[.int .i64 h, .int .i64 f]] w (Rets w (.tuple #[u, .bool (En.elB E h f)])) := by
  obtain ⟨b0, b1, b2, b3, d0, d1, d2, d3, hg⟩ := he.form
  obtain ⟨rfl, hva, hfi, hme, hpl, g0, g1, g2, g3⟩ := hg
  dsimp only [Pg.EV.val]
  by_cases hh : h = -1
  · subst hh
    refine ⟨.slice b2 E.me.length d2, ⟨fun _ => rfl, fun b o n c k e => by omega⟩, hme.1, hme.2, fun w hx => ?_⟩
    have HIN := Lib.hid (fun w => inU_any w b2 E.me.length d2 f)
    have HE : Hid (En.elB E (-1) f = En.inB E.me.length f) := Lib.hid (by unfold En.elB; rw [if_pos rfl])
    clear he hva hfi hme hpl
    have be := alloc_heap w (.cells #[.slice b0 E.va.length d0, .slice b1 E.fi.length d1, .slice b2 E.me.length d2, .slice b3 E.pl.length d3] 37)
    have k2 := alw (cell_of (o := 2) be)
    clear be
    have bf := alloc_heap (w.alloc (.cells #[.slice b0 E.va.length d0, .slice b1 E.fi.length d1, .slice b2 E.me.length d2, .slice b3 E.pl.length d3] 37)) (.cells #[.int .i64 (-1), .int .i64 f] 58)
    rw [World.size_alloc] at bf
    have j0 := alw (cell_of (o := 0) bf)
    have j1 := alw (cell_of (o := 1) bf)
    clear bf
    clear hx
    rw [HE.out]
    go_enter Try.func113, Try.ntmps113
    go_wp2_with fail
    refine wp_region_later (W := _) (by kernel_rfl) (by kernel_rfl) (Ext.refl _) ?_
    repeat (go_big_quiet_step (first | (go_at_call 119; exact Rets.later_at (HIN.out _))))
    refine wpQuiet_nil ?_
    intro w1 xw1
    have sw1 := Step.mk xw1
    go_wp2_with fail
    exact bodyPost_ret (v := .tuple #[.slice b2 E.me.length d2, .bool (En.inB E.me.length f)]) (by simp [results, Try.results113, go_sem]) rfl ⟨rfl, grows⟩
  · have hib : (h == -1) = false := by rw [beq_eq_false_iff_ne]; exact hh
    have HL : Hid (En.lst E h = En.rowAt E.fi h) := Lib.hid (by unfold En.lst; rw [if_neg hh])
    have HE : Hid (En.elB E h f = (En.vaAt E.va h && En.inB (En.rowAt E.fi h).length f)) := Lib.hid (by unfold En.elB; rw [if_neg hh])
    have HAT : ∃ (oa : Option Addr) (c : Nat), (∀ (b o n c' k : Nat), h = (k : Int) → (.slice b1 E.fi.length d1 : Value) = .slice (some ⟨b, o, none⟩) n c' → k < E.fi.length → W.cell? ⟨b, o + k, none⟩ = some (.slice oa (En.rowAt E.fi h).length c)) ∧ Ns .u32 W (.slice oa (En.rowAt E.fi h).length c) (En.rowAt E.fi h) ∧ (∀ x ∈ En.rowAt E.fi h, U32 x) ∧ ∀ w, Ext W w → Calls Try.prog 120 #[.slice b1 E.fi.length d1, .int .i64 h] w (Rets w (.slice oa (En.rowAt E.fi h).length c)) := by
      by_cases hin : 0 ≤ h ∧ h < E.fi.length
      · obtain ⟨h0, h1⟩ := hin
        obtain ⟨k, rfl⟩ := Int.eq_ofNat_of_zero_le h0
        obtain ⟨l, hl⟩ : ∃ l, E.fi[k]? = some l := ⟨_, List.getElem?_eq_getElem (by omega)⟩
        obtain ⟨b, o, e1, _, _⟩ := Rows.at hfi (by omega)
        subst e1
        obtain ⟨la, lc, q1, q2, q3⟩ := rows_at hfi k l hl rfl
        rw [En.rowAt_in hl]
        refine ⟨la, lc, fun b' o' n' c' k' e1 e2 _ => ?_, q2, q3, fun w hx => atRow_in (by omega) (hx.cell (q1 W))⟩
        simp only [Value.slice.injEq, Option.some.injEq, Addr.mk.injEq, and_true] at e2
        obtain ⟨⟨rfl, rfl⟩, -, -⟩ := e2
        obtain rfl : k = k' := by omega
        exact q1 W
      · rw [En.rowAt_out (by omega)]
        exact ⟨none, 0, fun b o n c k e1 _ h3 => by omega, ⟨⟨rfl, by simp, .inl ⟨rfl, rfl⟩⟩, Nat.zero_le _⟩, by simp, fun w _ => atRow_out w _ _ _ _ (by omega)⟩
    obtain ⟨oa, c, q1, q2, q3, q4⟩ := HAT
    have HQ := Lib.hid q4
    obtain ⟨m, hm⟩ : ∃ m, m = (En.rowAt E.fi h).length := ⟨_, rfl⟩
    rw [HL.out]
    refine ⟨.slice oa (En.rowAt E.fi h).length c, ⟨fun e => absurd e hh, q1⟩, q2, q3, fun w hx => ?_⟩
    have HX := Lib.hid hx
    have HIN := Lib.hid (fun w => inU_any w oa m c f)
    have HVA := Lib.hid (fun w hx => atBool_any (hva.ext (w' := w) hx) h)
    rw [HE.out]
    rw [← hm] at HQ ⊢
    clear he hva hfi hme hpl q1 q2 q3 q4 hm hh
    have be := alloc_heap w (.cells #[.slice b0 E.va.length d0, .slice b1 E.fi.length d1, .slice b2 E.me.length d2, .slice b3 E.pl.length d3] 37)
    have k0 := alw (cell_of (o := 0) be)
    have k1 := alw (cell_of (o := 1) be)
    clear be
    have bf := alloc_heap (w.alloc (.cells #[.slice b0 E.va.length d0, .slice b1 E.fi.length d1, .slice b2 E.me.length d2, .slice b3 E.pl.length d3] 37)) (.cells #[.int .i64 h, .int .i64 f] 58)
    rw [World.size_alloc] at bf
    have j0 := alw (cell_of (o := 0) bf)
    have j1 := alw (cell_of (o := 1) bf)
    clear bf
    clear hx
    cases hvb : En.vaAt E.va h <;> rw [hvb] at HVA
    all_goals
      clear hvb
      go_enter Try.func113, Try.ntmps113
      go_wp2_with (first
        | (go_at_call 120; refine (HQ.out _ (HX.out.trans grows)).mono ?_; rintro e w1 ⟨rfl, x1⟩; have s1 := Step.mk x1)
        | (go_at_call 121; refine (HVA.out _ (HX.out.trans grows)).mono ?_; rintro e w2 ⟨rfl, x2⟩; have s2 := Step.mk x2)
        | (go_at_call 119; refine (HIN.out _).mono ?_; rintro e w3 ⟨rfl, x3⟩; have s3 := Step.mk x3))
    · exact bodyPost_ret (v := .tuple #[.slice oa m c, .bool false]) (by simp [results, Try.results113, go_sem]) rfl ⟨rfl, grows⟩
    · exact bodyPost_ret (v := .tuple #[.slice oa m c, .bool (En.inB m f)]) (by simp [results, Try.results113, go_sem]) rfl ⟨by simp, grows⟩
set_option maxRecDepth 8000 in
theorem refel_any {W : World} {e : Pg.EV} {E : Pg.Env} (he : Pg.IsE W e E) (h f : Int) :
    Calls Try.prog 117 #[e.val, .agg #[.int .i64 h, .int .i64 f]] W (Rets W (.bool (En.refB E h f))) := by
  obtain ⟨b0, b1, b2, b3, d0, d1, d2, d3, hg⟩ := he.form
  obtain ⟨rfl, hva, hfi, hme, hpl, g0, g1, g2, g3⟩ := hg
  dsimp only [Pg.EV.val]
  have be := alloc_heap W (.cells #[.slice b0 E.va.length d0, .slice b1 E.fi.length d1, .slice b2 E.me.length d2, .slice b3 E.pl.length d3] 37)
  have k1 := alw (cell_of (o := 1) be)
  have k2 := alw (cell_of (o := 2) be)
  clear be
  have bf := alloc_heap (W.alloc (.cells #[.slice b0 E.va.length d0, .slice b1 E.fi.length d1, .slice b2 E.me.length d2, .slice b3 E.pl.length d3] 37)) (.cells #[.int .i64 h, .int .i64 f] 58)
  rw [World.size_alloc] at bf
  have j0 := alw (cell_of (o := 0) bf)
  have j1 := alw (cell_of (o := 1) bf)
  clear bf
  by_cases hh : h = -1
  · subst hh
    have HE : Hid (En.refB E (-1) f = En.inB E.me.length f) := Lib.hid (by unfold En.refB; rw [if_pos rfl])
    clear he hva hfi hme hpl
    rw [HE.out]
    rcases (show f < 0 ∨ 0 ≤ f by omega) with h0 | h0
    · rw [En.inB_lo h0]
      go_enter Try.func117, Try.ntmps117
      go_wp2_with fail
      go_ret
      exact ⟨rfl, grows⟩
    · rw [En.inB_ge h0]
      go_enter Try.func117, Try.ntmps117
      go_wp2_with fail
      go_ret
      exact ⟨rfl, grows⟩
  · have hib : (h == -1) = false := by rw [beq_eq_false_iff_ne]; exact hh
    have HE : Hid (En.refB E h f = (En.inB E.fi.length h && En.inB (En.rowAt E.fi h).length f)) := Lib.hid (by unfold En.refB; rw [if_neg hh])
    rw [HE.out]
    by_cases hin : 0 ≤ h ∧ h < E.fi.length
    · obtain ⟨h0, h1⟩ := hin
      obtain ⟨k, rfl⟩ := Int.eq_ofNat_of_zero_le h0
      obtain ⟨l, hl⟩ : ∃ l, E.fi[k]? = some l := ⟨_, List.getElem?_eq_getElem (by omega)⟩
      obtain ⟨b, o, e1, _, _⟩ := Rows.at hfi (by omega)
      subst e1
      obtain ⟨la, lc, q1, q2, q3⟩ := rows_at hfi k l hl rfl
      have ql := q2.2
      unfold maxLen at ql
      rw [En.rowAt_in hl, En.inB_at (by omega), Bool.true_and]
      clear he hva hfi hme hpl hl q2 q3 hh
      rcases (show f < 0 ∨ 0 ≤ f by omega) with h2 | h2
      · have d2 : decide (0 ≤ f) = false := decide_eq_false (by omega)
        rw [En.inB_lo h2]
        go_enter Try.func117, Try.ntmps117
        go_wp2_with fail
        refine wp_region_later (W := _) (by kernel_rfl) (by kernel_rfl) (Ext.refl _) ?_
        repeat (go_big_quiet_step (first | (fail)))
        refine wpQuiet_nil ?_
        intro w1 xw1
        have sw1 := Step.mk xw1
        go_wp2_with fail
        go_ret
        exact ⟨rfl, grows⟩
      · rw [En.inB_ge h2]
        go_enter Try.func117, Try.ntmps117
        go_wp2_with fail
        refine wp_region_later (W := _) (by kernel_rfl) (by kernel_rfl) (Ext.refl _) ?_
        repeat (go_big_quiet_step (first | (fail)))
        refine wpQuiet_nil ?_
        intro w1 xw1
        have sw1 := Step.mk xw1
        go_wp2_with fail
        go_ret
        exact ⟨rfl, grows⟩
    · clear he hva hfi hme hpl hh
      rcases (show h < 0 ∨ (0 ≤ h ∧ (E.fi.length : Int) ≤ h) by omega) with h0 | ⟨h0, h1⟩
      · have d2 : decide (0 ≤ h) = false := decide_eq_false (by omega)
        rw [En.inB_lo h0, Bool.false_and]
        clear hin
        go_enter Try.func117, Try.ntmps117
        go_wp2_with fail
        refine wp_region_later (W := _) (by kernel_rfl) (by kernel_rfl) (Ext.refl _) ?_
        repeat (go_big_quiet_step (first | (fail)))
        refine wpQuiet_nil ?_
        intro w1 xw1
        have sw1 := Step.mk xw1
        go_wp2_with fail
        go_ret
        exact ⟨rfl, grows⟩
      · have d2 : decide (h < (E.fi.length : Int)) = false := decide_eq_false (by omega)
        rw [En.inB_hi h1, Bool.false_and]
        clear hin
        go_enter Try.func117, Try.ntmps117
        go_wp2_with fail
        refine wp_region_later (W := _) (by kernel_rfl) (by kernel_rfl) (Ext.refl _) ?_
        repeat (go_big_quiet_step (first | (fail)))
        refine wpQuiet_nil ?_
        intro w1 xw1
        have sw1 := Step.mk xw1
        go_wp2_with fail
        go_ret
        exact ⟨rfl, grows⟩
theorem u32_at {W : World} {v : Value} {l : List Int} (h : Ns .u32 W v l) {k : Nat} (hk : k < l.length) : ∃ b o c, v = .slice (some ⟨b, o, none⟩) l.length c ∧ ∀ w' [Grows W w'], w'.cell? ⟨b, o + k, none⟩ = some (.int .u32 (l.getD k 0)) := by
  obtain ⟨oa, c, rfl⟩ := ns_slice h
  obtain ⟨b, o, rfl, n1⟩ := ns_at h (by omega)
  obtain ⟨x, hx⟩ : ∃ x, l[k]? = some x := ⟨_, List.getElem?_eq_getElem hk⟩
  refine ⟨b, o, c, rfl, ?_⟩
  rw [show l.getD k 0 = x by rw [List.getD_eq_getElem?_getD, hx]; rfl]
  exact n1 k x hx
namespace En
theorem elB_get {E : Pg.Env} {h f : Int} (e : elB E h f = true) : ∃ k : Nat, f = k ∧ k < (lst E h).length := by
  unfold elB at e; unfold lst
  by_cases hh : h = -1
  · rw [if_pos hh] at e ⊢; exact inB_get e
  · rw [if_neg hh] at e ⊢
    simp only [Bool.and_eq_true] at e
    exact inB_get e.2
theorem get_no {E : Pg.Env} {h f : Int} (e : elB E h f = false) : get E h f = 0 := by unfold get; rw [e]; rfl
theorem get_yes {E : Pg.Env} {h : Int} {k : Nat} (e : elB E h k = true) : get E h k = (lst E h).getD k 0 := by unfold get; rw [e, if_pos rfl, Int.toNat_natCast]
theorem row_in {ls : List (List Int)} {h f : Int} (e : inB (rowAt ls h).length f = true) : inB ls.length h = true := by
  by_cases h0 : 0 ≤ h ∧ h < ls.length
  · unfold inB; rw [decide_eq_true h0.1, decide_eq_true h0.2]; rfl
  · rw [rowAt_out (by omega)] at e
    unfold inB at e
    simp only [Bool.and_eq_true, decide_eq_true_eq, List.length_nil] at e
    omega
theorem elB_ref {E : Pg.Env} {h f : Int} (hh : ¬ h = -1) : elB E h f = (refB E h f && vaAt E.va h) := by
  unfold elB refB; rw [if_neg hh, if_neg hh]
  cases h1 : inB (rowAt E.fi h).length f
  · simp
  · rw [row_in h1]; simp
theorem elB_meta {E : Pg.Env} {f : Int} : elB E (-1) f = refB E (-1) f := rfl
end En
set_option maxRecDepth 8000 in
theorem get_any {W : World} {e : Pg.EV} {E : Pg.Env} (he : Pg.IsE W e E) (h f : Int) :
    Calls Try.prog 104 #[e.val, .agg #[.int .i64 h, .int .i64 f]] W (Rets W (.int .u32 (En.get E h f))) := by
  obtain ⟨u, _, hu, hb, hc⟩ := element_any he h f
  have HC := Lib.hid hc
  obtain ⟨b0, b1, b2, b3, d0, d1, d2, d3, hg⟩ := he.form
  obtain ⟨rfl, hva, hfi, hme, hpl, g0, g1, g2, g3⟩ := hg
  dsimp only [Pg.EV.val] at HC ⊢
  have be := alloc_heap W (.cells #[.slice b0 E.va.length d0, .slice b1 E.fi.length d1, .slice b2 E.me.length d2, .slice b3 E.pl.length d3] 37)
  have k0 := alw (cell_of (o := 0) be)
  have k1 := alw (cell_of (o := 1) be)
  have k2 := alw (cell_of (o := 2) be)
  have k3 := alw (cell_of (o := 3) be)
  clear be
  have bf := alloc_heap (W.alloc (.cells #[.slice b0 E.va.length d0, .slice b1 E.fi.length d1, .slice b2 E.me.length d2, .slice b3 E.pl.length d3] 37)) (.cells #[.int .i64 h, .int .i64 f] 58)
  rw [World.size_alloc] at bf
  have j0 := alw (cell_of (o := 0) bf)
  have j1 := alw (cell_of (o := 1) bf)
  clear bf
  clear he hva hfi hme hpl hc
  cases hel : En.elB E h f with
  | false =>
    have HG := Lib.hid (En.get_no hel)
    rw [hel] at HC
    rw [HG.out]
    obtain ⟨oa, oc, rfl⟩ := ns_slice hu
    clear hel hu hb
    go_enter Try.func104, Try.ntmps104
    go_wp2_with fail
    refine (HC.out _ grows).mono ?_
    rintro e w1 ⟨rfl, x1⟩
    have s1 := Step.mk x1
    go_wp2_with fail
    go_ret
    exact ⟨rfl, grows⟩
  | true =>
    obtain ⟨k, rfl, hk⟩ := En.elB_get hel
    have HG := Lib.hid (En.get_yes hel)
    rw [hel] at HC
    rw [HG.out]
    obtain ⟨b, o, c, rfl, g4⟩ := u32_at hu hk
    have hm := hu.2
    unfold maxLen at hm
    clear hel hu hb
    obtain ⟨n, hn⟩ : ∃ n, n = (En.lst E h).length := ⟨_, rfl⟩
    rw [← hn] at HC hk hm
    obtain ⟨y, hy⟩ : ∃ y, y = (En.lst E h).getD k 0 := ⟨_, rfl⟩
    rw [← hy]
    rw [← hy] at g4
    clear hn hy HG
    go_enter Try.func104, Try.ntmps104
    go_wp2_with fail
    refine (HC.out _ grows).mono ?_
    rintro e w1 ⟨rfl, x1⟩
    have s1 := Step.mk x1
    go_wp2_with fail
    go_ret
    exact ⟨rfl, grows⟩
set_option maxRecDepth 8000 in
theorem refget_any {W : World} {e : Pg.EV} {E : Pg.Env} (he : Pg.IsE W e E) (h f : Int) :
    Calls Try.prog 106 #[e.val, .agg #[.int .i64 h, .int .i64 f]] W (Rets W (.int .u32 (En.get E h f))) := by
  have HC := Lib.hid (fun w (hx : Ext W w) => refel_any (he.ext hx) h f)
  have HH := Lib.hid (fun w (hx : Ext W w) => has12_any (he.ext hx) h)
  obtain ⟨b0, b1, b2, b3, d0, d1, d2, d3, hg⟩ := he.form
  obtain ⟨rfl, hva, hfi, hme, hpl, g0, g1, g2, g3⟩ := hg
  dsimp only [Pg.EV.val] at HC HH ⊢
  have be := alloc_heap W (.cells #[.slice b0 E.va.length d0, .slice b1 E.fi.length d1, .slice b2 E.me.length d2, .slice b3 E.pl.length d3] 37)
  have k0 := alw (cell_of (o := 0) be)
  have k1 := alw (cell_of (o := 1) be)
  have k2 := alw (cell_of (o := 2) be)
  have k3 := alw (cell_of (o := 3) be)
  clear be
  have bf := alloc_heap (W.alloc (.cells #[.slice b0 E.va.length d0, .slice b1 E.fi.length d1, .slice b2 E.me.length d2, .slice b3 E.pl.length d3] 37)) (.cells #[.int .i64 h, .int .i64 f] 58)
  rw [World.size_alloc] at bf
  have j0 := alw (cell_of (o := 0) bf)
  have j1 := alw (cell_of (o := 1) bf)
  clear bf
  cases hrb : En.refB E h f with
  | false =>
    have HG := Lib.hid (En.get_no (show En.elB E h f = false by
      by_cases hh : h = -1
      · subst hh; rw [En.elB_meta, hrb]
      · rw [En.elB_ref hh, hrb]; rfl))
    rw [hrb] at HC
    rw [HG.out]
    clear he hva hfi hme hpl hrb
    go_enter Try.func106, Try.ntmps106
    go_wp2_with fail
    refine (HC.out _ grows).mono ?_
    rintro e w1 ⟨rfl, x1⟩
    have s1 := Step.mk x1
    go_wp2_with fail
    go_ret
    exact ⟨rfl, grows⟩
  | true =>
    rw [hrb] at HC
    by_cases hh : h = -1
    · subst hh
      have hel : En.elB E (-1) f = true := by rw [En.elB_meta, hrb]
      obtain ⟨k, rfl, hk⟩ := En.elB_get hel
      have HG := Lib.hid (En.get_yes hel)
      rw [HG.out]
      obtain ⟨b, o, c, e1, g4⟩ := u32_at hme.1 hk
      simp only [Value.slice.injEq] at e1
      obtain ⟨rfl, -, rfl⟩ := e1
      have hk' : k < E.me.length := hk
      obtain ⟨y, hy⟩ : ∃ y, y = (En.lst E (-1)).getD k 0 := ⟨_, rfl⟩
      have hy' : y = E.me.getD k 0 := hy
      rw [← hy]
      rw [← hy'] at g4
      clear hel hrb he hva hfi hme hpl hk hy hy' HG
      go_enter Try.func106, Try.ntmps106
      go_wp2_with fail
      refine (HC.out _ grows).mono ?_
      rintro e w1 ⟨rfl, x1⟩
      have s1 := Step.mk x1
      go_wp2_with fail
      go_ret
      exact ⟨rfl, grows⟩
    · have hib : (h == -1) = false := by rw [beq_eq_false_iff_ne]; exact hh
      have hr2 : (En.inB E.fi.length h && En.inB (En.rowAt E.fi h).length f) = true := by
        have := hrb; unfold En.refB at this; rwa [if_neg hh] at this
      simp only [Bool.and_eq_true] at hr2
      obtain ⟨k, rfl, hk⟩ := En.inB_get hr2.1
      obtain ⟨m, rfl, hm⟩ := En.inB_get hr2.2
      obtain ⟨l, hl⟩ : ∃ l, E.fi[k]? = some l := ⟨_, List.getElem?_eq_getElem hk⟩
      cases hv : En.vaAt E.va k with
      | false =>
        have HG := Lib.hid (En.get_no (show En.elB E k m = false by rw [En.elB_ref hh, hrb, hv]; rfl))
        rw [hv] at HH
        rw [HG.out]
        clear he hva hfi hme hpl hrb hh hr2 hl hm hv
        go_enter Try.func106, Try.ntmps106
        go_wp2_with fail
        refine (HC.out _ grows).mono ?_
        rintro e w1 ⟨rfl, x1⟩
        have s1 := Step.mk x1
        go_wp2_with fail
        refine (HH.out _ grows).mono ?_
        rintro e w2 ⟨rfl, x2⟩
        have s2 := Step.mk x2
        go_wp2_with fail
        go_ret
        exact ⟨rfl, grows⟩
      | true =>
        have hel : En.elB E k m = true := by rw [En.elB_ref hh, hrb, hv]; rfl
        have hlst : En.lst E k = l := by unfold En.lst; rw [if_neg hh, En.rowAt_in hl]
        have HG : Hid (En.get E k m = l.getD m 0) := Lib.hid (by rw [En.get_yes hel, hlst])
        rw [hv] at HH
        rw [HG.out]
        rw [En.rowAt_in hl] at hm
        obtain ⟨b, o, e1, _, _⟩ := Rows.at hfi (by omega)
        subst e1
        obtain ⟨la, lc, q1, q2, q3⟩ := rows_at hfi k l hl rfl
        obtain ⟨b5, o5, c5, e5, g4⟩ := u32_at q2 hm
        simp only [Value.slice.injEq] at e5
        obtain ⟨rfl, -, rfl⟩ := e5
        have ql := q2.2
        unfold maxLen at ql
        obtain ⟨y, hy⟩ : ∃ y, y = l.getD m 0 := ⟨_, rfl⟩
        rw [← hy]
        rw [← hy] at g4
        clear he hva hfi hme hpl hrb hh hr2 hl hv hel hlst q2 q3 hy HG
        go_enter Try.func106, Try.ntmps106
        go_wp2_with fail
        refine (HC.out _ grows).mono ?_
        rintro e w1 ⟨rfl, x1⟩
        have s1 := Step.mk x1
        go_wp2_with fail
        refine (HH.out _ grows).mono ?_
        rintro e w2 ⟨rfl, x2⟩
        have s2 := Step.mk x2
        go_wp2_with fail
        refine wp_region_later (W := _) (by kernel_rfl) (by kernel_rfl) (Ext.refl _) ?_
        repeat (go_big_quiet_step (first | (fail)))
        refine wpQuiet_nil ?_
        intro w3 xw3
        have sw3 := Step.mk xw3
        go_wp2_with fail
        go_ret
        exact ⟨rfl, grows⟩
end Go.Proofs.Ytonnlcjkgpahoaa
