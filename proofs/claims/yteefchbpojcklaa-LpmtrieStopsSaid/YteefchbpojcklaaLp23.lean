/- Tries of prefixes: the law Stops, walked. No condition. -/
import Derived.Test.YteefchbpojcklaaLp21
import Derived.Deep.CutRange
import Derived.Test.YteefchbpojcklaaHead
namespace Go.Proofs.Yteefchbpojcklaa
open Go.RowKit

set_option maxRecDepth 8000 in
set_option maxHeartbeats 8000000 in
theorem lpmtrieStops_walk (a0 : Int) (v1 : Value) (a2 : Int) (W : World) (_ : (Lit.int .i64 a0).wf = true) {b1 : Nat} {r1 : Reach} {H : Type} {enc : TypeId × Value → H} {d1 : DataW H} {p1 : List MemPlace}
    (ok1 : Value.okWide Try.prog W r1 b1 22 v1) (h1 : DataW.Trod enc Try.prog W 0 (fun _ => true) true 22 v1 d1 p1) (w2 : (Lit.int .u8 a2).wf = true) :
    Calls Try.prog 6 #[.int .i64 a0, v1, .int .u8 a2] W (Rets W (.bool true)) := by
  obtain ⟨ac, hac⟩ := acs_take ok1 h1
  clear ok1 h1
  obtain ⟨oa, oc, rfl, _, hmx⟩ := hac.slice
  unfold maxLen at hmx
  obtain ⟨m, rfl, hm⟩ : ∃ m : Nat, a2 = m ∧ m < 256 := by
    have h3 : 0 ≤ a2 ∧ a2 < 256 := by simp [Lit.wf, IntKind.min, IntKind.max, IntKind.bits, IntKind.signed] at w2; omega
    obtain ⟨m, rfl⟩ := Int.eq_ofNat_of_zero_le h3.1
    exact ⟨m, rfl, by omega⟩
  clear w2
  by_cases hw : 1 ≤ a0 ∧ a0 ≤ 32
  · obtain ⟨w, rfl⟩ := Int.eq_ofNat_of_zero_le (show 0 ≤ a0 by omega)
    have hw1 : 1 ≤ w := by omega
    have hw2 : w ≤ 32 := by omega
    have HAC := Lib.hid hac
    clear hac hw
    by_cases hlen : ac.length ≤ 60
    · have hd : decide ((60 : Int) < (ac.length : Int)) = false := decide_eq_false (by omega)
      go_enter Try.func6, Try.ntmps6
      go_wp2_with fail
      refine (new_ok w hw1 hw2).mono ?_
      rintro e w1 ⟨g, T0, rfl, x1, i0, b0, _, c0⟩
      have s1 := Step.mk x1
      have L0 := Lp.con_none_items (w := w) c0
      have HA1 : Hid (Ag W w1 g w T0 (.slice none ([] : List Lp.Item).length 0) []) := Lib.hid ⟨i0, b0, ⟨rfl, .inl ⟨rfl, rfl⟩⟩, L0, grows⟩
      clear x1 i0 b0 c0 L0
      go_wp2_with fail
      refine (r9new_ok hw1 hw2).mono ?_
      rintro e w2 ⟨rfl, x2⟩
      have s2 := Step.mk x2
      clear x2
      have HB7 := Lib.hid (alloc_heap w2 (.cells #[.int .i64 w, .slice none 0 0] 32))
      go_wp2_with fail
      obtain ⟨g7, hg7⟩ : ∃ z, z = w2.heap.size := ⟨_, rfl⟩
      have hg7w : W.heap.size ≤ g7 := by rw [hg7]; exact (grows (a := W) (b := w2)).le
      rw [← hg7] at HB7 ⊢
      clear hg7
      go_loopw [11] (fun i wr => ∃ k : Nat, k ≤ ac.length ∧ i = .int .i64 k ∧ Hid (RInv W g w g7 k wr)) (fun i _ => ac.length - (intOf i).toNat)
      case atStart => exact ⟨0, Nat.zero_le _, rfl, Lib.hid ⟨T0, none, 0, [], HA1.out.ext' grows, Ext.heap grows HB7.out, Nat.zero_le _⟩⟩
      case round =>
        obtain ⟨k, hk, rfl, HI⟩ := hrel
        obtain ⟨T, la, lc, L, ag, hb, hL⟩ := HI.out
        have sr : Step W wr := Step.mk ag.ext
        have c0 := alw (cell_of (o := 0) hb)
        have c1 := alw (cell_of (o := 1) hb)
        have HB := Lib.hid hb
        have HAG := Lib.hid ag
        clear HI hb ag
        rcases Nat.lt_or_ge k ac.length with hlt | hge
        · obtain ⟨⟨d, v, n, x⟩, hka⟩ : ∃ y, ac[k]? = some y := ⟨_, List.getElem?_eq_getElem hlt⟩
          obtain ⟨ab, ao, rfl, _, hcells⟩ := Rows.at HAC.out (by omega)
          obtain ⟨cs, _, ⟨rfl, hv⟩, hcs⟩ := hcells k _ hka
          dsimp only at hv
          have y0 := alw (show W.cell? ⟨ab, ao + k * 4, none⟩ = _ from hcs 0 _ rfl)
          have y1 := alw (hcs 1 _ rfl)
          have y2 := alw (hcs 2 _ rfl)
          have y3 := alw (hcs 3 _ rfl)
          dsimp only at y0 y1 y2 y3
          have HST : Hid (∀ w', Ext wr w' → Calls Try.prog 16 #[.pointer (some ⟨g, 0, none⟩), .agg #[.int .i64 w, .slice la L.length lc], .agg #[.int .i64 d, .int .u32 v, .int .i64 n, .int .i64 x]] w' (StepP W w' g w L)) := Lib.hid (fun w' hx => step_any (HAG.out.ext' hx) (by omega) d v hv n x)
          clear hka hcells hcs
          go_upto_region 8 with (fail)
          refine wp_region_later_then (W := wr) 6 5 #[true, true, true, true, true, true, false, false, false, false, false] (by kernel_rfl) (by kernel_rfl) rfl (Ext.refl _) ?_
          simp only [List.take_succ_cons, List.take_zero]
          repeat (go_big_quiet_step (fail))
          refine wpQuiet_nil ?_
          intro w6 x6
          refine wpAny_ready (rs := [6]) (by kernel_rfl) (by simp) (AllReady.cons rfl (fun K hK => ?_) AllReady.nil)
          go_simp
          refine (HST.out _ x6).mono ?_
          rintro e w3 ⟨T', la', lc', L', rfl, ag', hL', kp⟩
          have kb := kp _ _ _ (by decide) (x6.heap HB.out)
          have v0 := cell_of (o := 0) kb
          have v1 := cell_of (o := 1) kb
          have fv0 := free_of (o := 0) kb
          have fv1 := free_of (o := 1) kb
          obtain ⟨md7, hb7⟩ := set2c (.int .i64 w) (.slice la' L'.length lc') kb
          have HR := Lib.hid (RInv.put ag' kb hg7w (show L'.length ≤ k + 1 by omega) md7 hb7)
          clear c0 c1 y0 y1 y2 y3 md7 hb7 kb kp ag'
          go_wp2_with fail
          refine wpAny_take (i := 7) (v := ?_) rfl (by kernel_rfl) (by kernel_rfl) (by kernel_rfl) (fun _ _ _ h => h) (Or.inl ⟨by rfl, ?_⟩) ?_
          rotate_left 1
          · intro w; go_simp <;> with_reducible rfl
          refine wpAny_take (i := 8) (v := ?_) rfl (by kernel_rfl) (by kernel_rfl) (by kernel_rfl) (fun _ _ _ h => h) (Or.inl ⟨by rfl, ?_⟩) ?_
          rotate_left 1
          · intro w; go_simp <;> with_reducible rfl
          refine wpAny_take (i := 9) (v := ?_) rfl (by kernel_rfl) (by kernel_rfl) (by kernel_rfl) (fun _ _ _ h => h) (Or.inl ⟨by rfl, ?_⟩) ?_
          rotate_left 1
          · intro w; go_simp <;> with_reducible rfl
          refine wpAny_ready (rs := [10]) (by kernel_rfl) (by simp) (AllReady.cons rfl (fun K hK => ?_) AllReady.nil)
          go_simp
          refine hK _ _ ?_
          refine wpAny_done (by kernel_rfl) ?_ _
          obtain ⟨wx, hwx⟩ : ∃ z, z = (w3.setCell ⟨g7, 0, none⟩ (.int .i64 w)).setCell ⟨g7, 1, none⟩ (.slice la' L'.length lc') := ⟨_, rfl⟩
          rw [← hwx] at HR ⊢
          clear hwx v0 v1 fv0 fv1
          go_wp2_with fail
          go_roundw
          case rel => exact ⟨k + 1, by omega, by go_num, Lib.hid (HR.out.ext grows)⟩
          case measure => simp [intOf]; omega
        · obtain rfl : k = ac.length := by omega
          have hl := (show L.length ≤ 60 by omega)
          have HS : Hid (∀ w', Ext wr w' → Calls Try.prog 15 #[.pointer (some ⟨g, 0, none⟩), .agg #[.int .i64 w, .slice la L.length lc]] w' (Rets w' (.bool true))) := Lib.hid (fun w' hx => same_any (HAG.out.ext' hx) (by omega))
          have HC1 : Hid (∀ w', Ext wr w' → Calls Try.prog 17 #[.pointer (some ⟨g, 0, none⟩), .int .i64 m] w' (fun e W' => ∃ v, e = .returned (.tuple #[v, .bool true]) ∧ Ext w' W' ∧ Rows W' 3 (PairR w) v (L.take m))) := Lib.hid (fun w' hx => by
            have h1 := collect_any (HAG.out.is.ext hx).gives (by rw [HAG.out.eq]; omega) m (by omega)
            rw [HAG.out.eq] at h1
            exact h1)
          have HC2 : Hid (∀ w', Ext wr w' → Calls Try.prog 17 #[.pointer (some ⟨g, 0, none⟩), .int .i64 100] w' (fun e W' => ∃ v, e = .returned (.tuple #[v, .bool true]) ∧ Ext w' W' ∧ Rows W' 3 (PairR w) v L)) := Lib.hid (fun w' hx => by
            have h1 := collect_any (HAG.out.is.ext hx).gives (by rw [HAG.out.eq]; omega) 100 (by omega)
            rw [HAG.out.eq, List.take_of_length_le (by omega)] at h1
            exact h1)
          obtain ⟨M, hM⟩ : ∃ z, z = L.take m := ⟨_, rfl⟩
          rw [← hM] at HC1
          have hMl : M.length = min m L.length := by rw [hM, List.length_take]
          have hMp : ∀ i a, M[i]? = some a → L[i]? = some a := fun i a h => by
            rw [hM, List.getElem?_take] at h
            split at h
            · exact h
            · cases h
          have HMP := Lib.hid hMp
          clear hM hMp
          have hML : M.length ≤ L.length := by omega
          have hif : (if L.length < m then (L.length : Int) else (m : Int)) = (M.length : Int) := by split <;> omega
          clear hMl
          go_wp2_with fail
          refine (HC1.out _ grows).mono ?_
          rintro e w5 ⟨v5, rfl, x5, r5⟩
          obtain ⟨pa, pc, rfl, hpc, _⟩ := r5.slice
          have s5 := Step.mk x5
          have R5 := Lib.hid r5
          clear x5 r5
          go_wp2_with fail
          refine (HC2.out _ grows).mono ?_
          rintro e w6 ⟨v6, rfl, x6, r6⟩
          obtain ⟨qa, qc, rfl, hqc, _⟩ := r6.slice
          have s6 := Step.mk x6
          have R6 := Lib.hid r6
          clear x6 r6
          go_wp2_with fail
          go_loopw [16] (fun i wq => ∃ j : Nat, j ≤ M.length ∧ i = .int .i64 j ∧ Hid (Ext w6 wq)) (fun i _ => M.length - (intOf i).toNat)
          case atStart => exact ⟨0, Nat.zero_le _, rfl, Lib.hid grows⟩
          case round =>
            obtain ⟨j, hj, rfl, HX⟩ := hrel
            have sq := Step.mk HX.out
            rcases Nat.lt_or_ge j M.length with hlt | hge
            · obtain ⟨⟨V, N, X⟩, ha⟩ : ∃ a, M[j]? = some a := ⟨_, List.getElem?_eq_getElem hlt⟩
              have hb := HMP.out j _ ha
              have hjL : j < L.length := (List.getElem?_eq_some_iff.1 hb).1
              clear hif
              obtain ⟨b', o', rfl, _, hat'⟩ := pairs_at R5.out (by omega)
              obtain ⟨b'', o'', rfl, _, hat''⟩ := pairs_at R6.out (by omega)
              obtain ⟨q0, q1, q2⟩ := hat' j V N X ha
              obtain ⟨q3, q4, q5⟩ := hat'' j V N X hb
              have q0 := alw q0
              have q1 := alw q1
              have q2 := alw q2
              have q3 := alw q3
              have q4 := alw q4
              have q5 := alw q5
              clear hat' hat'' ha hb
              go_wp2_with fail
              refine wp_region_later (W := wr) (by kernel_rfl) (by kernel_rfl) grows ?_
              repeat (go_big_quiet_step (fail))
              refine wpQuiet_nil ?_
              intro w8 x8
              have s8 := Step.mk x8
              clear x8
              go_wp2_with fail
              go_roundw
              case rel => exact ⟨j + 1, by omega, by go_num, Lib.hid grows⟩
              case measure => simp [intOf]; omega
            · obtain rfl : j = M.length := by omega
              go_wp2_with fail
              refine (HS.out _ grows).mono ?_
              rintro e w9 ⟨rfl, x9⟩
              have s9 := Step.mk x9
              clear x9
              go_wp2_with fail
              refine (works_any _).mono ?_
              rintro e wd ⟨rfl, xd⟩
              have sd := Step.mk xd
              go_wp2_with fail
              go_ret
              exact ⟨rfl, grows⟩
    · have hd : decide ((60 : Int) < (ac.length : Int)) = true := decide_eq_true (by omega)
      go_enter Try.func6, Try.ntmps6
      go_wp2_with fail
      refine (new_ok w hw1 hw2).mono ?_
      rintro e w1 ⟨g, T0, rfl, x1, _, _, _, _⟩
      have s1 := Step.mk x1
      clear x1
      go_wp2_with fail
      refine (works_any _).mono ?_
      rintro e w5 ⟨rfl, x5⟩
      have s5 := Step.mk x5
      go_wp2_with fail
      go_ret
      exact ⟨rfl, grows⟩
  · go_enter Try.func6, Try.ntmps6
    go_wp2_with fail
    refine (new_bad a0 hw).mono ?_
    rintro e w1 ⟨rfl, x1⟩
    have s1 := Step.mk x1
    clear x1
    go_wp2_with fail
    refine (works_any _).mono ?_
    rintro e w5 ⟨rfl, x5⟩
    have s5 := Step.mk x5
    go_wp2_with fail
    go_ret
    exact ⟨rfl, grows⟩
end Go.Proofs.Yteefchbpojcklaa
