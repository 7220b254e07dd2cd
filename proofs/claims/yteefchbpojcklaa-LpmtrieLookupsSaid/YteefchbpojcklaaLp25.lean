/- Tries of prefixes: the law Lookups, walked. No condition. -/
import Derived.Test.YteefchbpojcklaaLp21
import Derived.Deep.CutRange
import Derived.Test.YteefchbpojcklaaHead
import Derived.Test.YteefchbpojcklaaLp24
namespace Go.Proofs.Yteefchbpojcklaa
open Go.RowKit

set_option maxRecDepth 8000 in
set_option maxHeartbeats 8000000 in
theorem lpmtrieLookups_walk (a0 : Int) (v1 : Value) (a2 : Int) (W : World) (_ : (Lit.int .i64 a0).wf = true) {b1 : Nat} {r1 : Reach} {H : Type} {enc : TypeId × Value → H} {d1 : DataW H} {p1 : List MemPlace}
    (ok1 : Value.okWide Try.prog W r1 b1 22 v1) (h1 : DataW.Trod enc Try.prog W 0 (fun _ => true) true 22 v1 d1 p1) (w2 : (Lit.int .u32 a2).wf = true) :
    Calls Try.prog 5 #[.int .i64 a0, v1, .int .u32 a2] W (Rets W (.bool true)) := by
  obtain ⟨ac, hac⟩ := acs_take ok1 h1
  clear ok1 h1
  obtain ⟨oa, oc, rfl, _, hmx⟩ := hac.slice
  unfold maxLen at hmx
  obtain ⟨v, rfl, hv⟩ := u32_nat w2
  clear w2
  by_cases hw : 1 ≤ a0 ∧ a0 ≤ 32
  · obtain ⟨w, rfl⟩ := Int.eq_ofNat_of_zero_le (show 0 ≤ a0 by omega)
    have hw1 : 1 ≤ w := by omega
    have hw2 : w ≤ 32 := by omega
    have HAC := Lib.hid hac
    clear hac hw
    by_cases hlen : ac.length ≤ 60
    · have hd : decide ((60 : Int) < (ac.length : Int)) = false := decide_eq_false (by omega)
      go_enter Try.func5, Try.ntmps5
      go_wp2_with fail
      refine (new_ok w hw1 hw2).mono ?_
      rintro e w1 ⟨g, T0, rfl, x1, i0, b0, _, c0⟩
      have s1 := Step.mk x1
      have L0 := Lp.con_none_items (w := w) c0
      have HA1 : Hid (Ag W w1 g w T0 (.slice none ([] : List Lp.Item).length 0) []) := Lib.hid ⟨i0, b0, ⟨rfl, .inl ⟨rfl, rfl⟩⟩, L0, grows⟩
      clear x1 i0 b0 c0 L0
      go_wp2_with fail
      refine (r9new_ok hw1 hw2).mono ?_
      rintro e w2 ⟨rfl, x2⟩
      have s2 := Step.mk x2
      clear x2
      have HB7 := Lib.hid (alloc_heap w2 (.cells #[.int .i64 w, .slice none 0 0] 32))
      go_wp2_with fail
      obtain ⟨g7, hg7⟩ : ∃ z, z = w2.heap.size := ⟨_, rfl⟩
      have hg7w : W.heap.size ≤ g7 := by rw [hg7]; exact (grows (a := W) (b := w2)).le
      rw [← hg7] at HB7 ⊢
      clear hg7
      go_loopw [11] (fun i wr => ∃ k : Nat, k ≤ ac.length ∧ i = .int .i64 k ∧ Hid (RInv W g w g7 k wr)) (fun i _ => ac.length - (intOf i).toNat)
      case atStart => exact ⟨0, Nat.zero_le _, rfl, Lib.hid ⟨T0, none, 0, [], HA1.out.ext' grows, Ext.heap grows HB7.out, Nat.zero_le _⟩⟩
      case round =>
        obtain ⟨k, hk, rfl, HI⟩ := hrel
        obtain ⟨T, la, lc, L, ag, hb, hL⟩ := HI.out
        have sr : Step W wr := Step.mk ag.ext
        have c0 := alw (cell_of (o := 0) hb)
        have c1 := alw (cell_of (o := 1) hb)
        have HB := Lib.hid hb
        have HAG := Lib.hid ag
        clear HI hb ag
        rcases Nat.lt_or_ge k ac.length with hlt | hge
        · obtain ⟨⟨d, vv, n, x⟩, hka⟩ : ∃ y, ac[k]? = some y := ⟨_, List.getElem?_eq_getElem hlt⟩
          obtain ⟨ab, ao, rfl, _, hcells⟩ := Rows.at HAC.out (by omega)
          obtain ⟨cs, _, ⟨rfl, hvv⟩, hcs⟩ := hcells k _ hka
          dsimp only at hvv
          have y0 := alw (show W.cell? ⟨ab, ao + k * 4, none⟩ = _ from hcs 0 _ rfl)
          have y1 := alw (hcs 1 _ rfl)
          have y2 := alw (hcs 2 _ rfl)
          have y3 := alw (hcs 3 _ rfl)
          dsimp only at y0 y1 y2 y3
          have HST : Hid (∀ w', Ext wr w' → Calls Try.prog 16 #[.pointer (some ⟨g, 0, none⟩), .agg #[.int .i64 w, .slice la L.length lc], .agg #[.int .i64 d, .int .u32 vv, .int .i64 n, .int .i64 x]] w' (StepP W w' g w L)) := Lib.hid (fun w' hx => step_any (HAG.out.ext' hx) (by omega) d vv hvv n x)
          clear hka hcells hcs
          go_upto_region 8 with (fail)
          refine wp_region_later_then (W := wr) 6 5 #[true, true, true, true, true, true, false, false, false, false, false] (by kernel_rfl) (by kernel_rfl) rfl (Ext.refl _) ?_
          simp only [List.take_succ_cons, List.take_zero]
          repeat (go_big_quiet_step (fail))
          refine wpQuiet_nil ?_
          intro w6 x6
          refine wpAny_ready (rs := [6]) (by kernel_rfl) (by simp) (AllReady.cons rfl (fun K hK => ?_) AllReady.nil)
          go_simp
          refine (HST.out _ x6).mono ?_
          rintro e w3 ⟨T', la', lc', L', rfl, ag', hL', kp⟩
          have kb := kp _ _ _ (by decide) (x6.heap HB.out)
          have v0 := cell_of (o := 0) kb
          have v1 := cell_of (o := 1) kb
          have fv0 := free_of (o := 0) kb
          have fv1 := free_of (o := 1) kb
          obtain ⟨md7, hb7⟩ := set2c (.int .i64 w) (.slice la' L'.length lc') kb
          have HR := Lib.hid (RInv.put ag' kb hg7w (show L'.length ≤ k + 1 by omega) md7 hb7)
          clear c0 c1 y0 y1 y2 y3 md7 hb7 kb kp ag'
          go_wp2_with fail
          refine wpAny_take (i := 7) (v := ?_) rfl (by kernel_rfl) (by kernel_rfl) (by kernel_rfl) (fun _ _ _ h => h) (Or.inl ⟨by rfl, ?_⟩) ?_
          rotate_left 1
          · intro w; go_simp <;> with_reducible rfl
          refine wpAny_take (i := 8) (v := ?_) rfl (by kernel_rfl) (by kernel_rfl) (by kernel_rfl) (fun _ _ _ h => h) (Or.inl ⟨by rfl, ?_⟩) ?_
          rotate_left 1
          · intro w; go_simp <;> with_reducible rfl
          refine wpAny_take (i := 9) (v := ?_) rfl (by kernel_rfl) (by kernel_rfl) (by kernel_rfl) (fun _ _ _ h => h) (Or.inl ⟨by rfl, ?_⟩) ?_
          rotate_left 1
          · intro w; go_simp <;> with_reducible rfl
          refine wpAny_ready (rs := [10]) (by kernel_rfl) (by simp) (AllReady.cons rfl (fun K hK => ?_) AllReady.nil)
          go_simp
          refine hK _ _ ?_
          refine wpAny_done (by kernel_rfl) ?_ _
          obtain ⟨wx, hwx⟩ : ∃ z, z = (w3.setCell ⟨g7, 0, none⟩ (.int .i64 w)).setCell ⟨g7, 1, none⟩ (.slice la' L'.length lc') := ⟨_, rfl⟩
          rw [← hwx] at HR ⊢
          clear hwx v0 v1 fv0 fv1
          go_wp2_with fail
          go_roundw
          case rel => exact ⟨k + 1, by omega, by go_num, Lib.hid (HR.out.ext grows)⟩
          case measure => simp [intOf]; omega
        · obtain rfl : k = ac.length := by omega
          have hl := (show L.length ≤ 60 by omega)
          obtain ⟨K, hK⟩ : ∃ z, z = v % 2 ^ w := ⟨_, rfl⟩
          have hKl : K < 2 ^ w := by rw [hK]; exact Nat.mod_lt _ (Nat.two_pow_pos w)
          have hK32 : K < 4294967296 := Nat.lt_of_lt_of_le hKl (Nat.pow_le_pow_right (n := 2) (by decide) hw2)
          have hkey := Lp.and_key hw1 hw2 hv
          rw [← hK] at hkey
          obtain ⟨pw, hpw⟩ : ∃ z, z = Bv.pmask w w := ⟨_, rfl⟩
          have HMW : Hid (∀ w', Calls Try.prog 18 #[.int .i64 w, .int .i64 w] w' (Rets w' (.int .u32 pw))) := Lib.hid (fun w' => by have h1 := r9mask_any (W := w') hw1 hw2 (Nat.le_refl w); rw [← hpw] at h1; exact h1)
          rw [← hpw] at hkey
          have HMK : Hid (∀ (k : Nat) w', k ≤ w → Calls Try.prog 18 #[.int .i64 k, .int .i64 w] w' (Rets w' (.int .u32 (Bv.pmask k w)))) := Lib.hid (fun k w' hk => r9mask_any hw1 hw2 hk)
          have HLK : Hid (∀ w', Ext wr w' → ∀ o, Lp.Scan L w K L.length o → Calls Try.prog 19 #[.pointer (some ⟨g, 0, none⟩), .int .u32 K] w' (Rets w' (.tuple #[.int .i64 (Lp.lkA o), .int .i64 (Lp.lkN o), .bool o.isSome]))) := Lib.hid (fun w' hx o ho => by
            have h1 := lookup_any (HAG.out.is.ext hx) K hK32
            rw [Lp.Scan.end hKl (by rw [HAG.out.eq]; exact ho)] at h1
            exact h1)
          have HC2 : Hid (∀ w', Ext wr w' → Calls Try.prog 17 #[.pointer (some ⟨g, 0, none⟩), .int .i64 100] w' (fun e W' => ∃ v, e = .returned (.tuple #[v, .bool true]) ∧ Ext w' W' ∧ Rows W' 3 (PairR w) v L)) := Lib.hid (fun w' hx => by
            have h1 := collect_any (HAG.out.is.ext hx).gives (by rw [HAG.out.eq]; omega) 100 (by omega)
            rw [HAG.out.eq, List.take_of_length_le (by omega)] at h1
            exact h1)
          have HAND : Hid (∀ N, N ≤ w → Go.bits .and .u32 (K : Int) (Bv.pmask N w) = ((Lp.trunc w K N : Nat) : Int)) := Lib.hid (fun N hN => Lp.and_trunc hw1 hw2 hN hKl)
          have HLE : Hid (∀ V N X, (V, N, X) ∈ L → N ≤ w) := Lib.hid (fun V N X hm => by rw [← HAG.out.eq] at hm; exact (Lp.con_le T V N X hm).1)
          clear hK hpw hlen
          go_wp2_with fail
          refine (HC2.out _ grows).mono ?_
          rintro e w6 ⟨v6, rfl, x6, r6⟩
          obtain ⟨qa, qc, rfl, hqc, _⟩ := r6.slice
          have s6 := Step.mk x6
          have R6 := Lib.hid r6
          clear x6 r6
          go_wp2_with fail
          refine (HMW.out _).mono ?_
          rintro e w7 ⟨rfl, x7⟩
          have s7 := Step.mk x7
          clear x7
          go_wp2_with fail
          go_loopw [14, 15, 16, 17] (fun a b c i wq => ∃ (j : Nat) (o : Option (Int × Nat)), j ≤ L.length ∧ a = .int .i64 (Lp.lkA o) ∧ b = .int .i64 (Lp.nn o) ∧ c = .bool o.isSome ∧ i = .int .i64 j ∧ Hid (Ext w7 wq ∧ Lp.Scan L w K j o)) (fun _ _ _ i _ => L.length - (intOf i).toNat)
          case atStart => exact ⟨0, none, Nat.zero_le _, rfl, rfl, rfl, rfl, Lib.hid ⟨grows, Lp.Scan.zero L w K⟩⟩
          case round =>
            obtain ⟨j, o, hj, rfl, rfl, rfl, rfl, HX⟩ := hrel
            obtain ⟨wq, rfl⟩ : ∃ z : World, z = wr := ⟨_, rfl⟩
            have sq := Step.mk HX.out.1
            rcases Nat.lt_or_ge j L.length with hlt | hge
            · obtain ⟨b', o', rfl, _, hat'⟩ := pairs_at R6.out (by omega)
              obtain ⟨⟨V, N, X⟩, ha⟩ : ∃ a, L[j]? = some a := ⟨_, List.getElem?_eq_getElem hlt⟩
              obtain ⟨q3, q4, q5⟩ := hat' j V N X ha
              have hN : N ≤ w := HLE.out V N X (List.mem_of_getElem? ha)
              have q3 := alw q3
              have q4 := alw q4
              have q5 := alw q5
              have HHA := Lib.hid ha
              clear hat' ha
              go_wp2_with fail
              go_loopw [18, 19] (fun a b wz => ∃ k : Nat, k ≤ w + 1 ∧ a = .int .i64 (Lp.ones N k) ∧ b = .int .i64 k ∧ Hid (Ext wq wz)) (fun _ b _ => w + 1 - (intOf b).toNat)
              case atStart => exact ⟨0, Nat.zero_le _, by rw [Lp.ones_zero], rfl, Lib.hid grows⟩
              case round =>
                obtain ⟨k, hk, rfl, rfl, HZ⟩ := hrel
                have sz := Step.mk HZ.out
                rcases Nat.lt_or_ge w k with hkw | hkw
                · obtain rfl : k = w + 1 := by omega
                  rw [Lp.ones_end hN]
                  have hbits := HAND.out N hN
                  obtain ⟨pm, hpm⟩ : ∃ z, z = Bv.pmask N w := ⟨_, rfl⟩
                  obtain ⟨tk, htk⟩ : ∃ z, z = Lp.trunc w K N := ⟨_, rfl⟩
                  rw [← hpm, ← htk] at hbits
                  rw [← hpm] at q4
                  have HTK := Lib.hid htk
                  clear hpm htk hkey
                  by_cases h1 : tk = V
                  · subst h1
                    by_cases h2 : Lp.nn o < (N : Int)
                    · have HSC := Lib.hid (HX.out.2.hit HHA.out HTK.out.symm h2)
                      obtain ⟨nno, hno⟩ : ∃ z, z = Lp.nn o := ⟨_, rfl⟩
                      rw [← hno] at h2 ⊢
                      clear hno
                      go_wp2_with fail
                      refine wp_region_later (W := wr) (by kernel_rfl) (by kernel_rfl) grows ?_
                      repeat (go_big_quiet_step (fail))
                      refine wpQuiet_nil ?_
                      intro w8 x8
                      have s8 := Step.mk x8
                      clear x8
                      go_wp2_with fail
                      go_roundw
                      case rel => exact ⟨j + 1, some (X, N), by omega, rfl, rfl, rfl, by go_num, Lib.hid ⟨grows, HSC.out⟩⟩
                      case measure => simp [intOf]; omega
                    · have HSC := Lib.hid (HX.out.2.miss HHA.out (fun _ => by omega))
                      obtain ⟨nno, hno⟩ : ∃ z, z = Lp.nn o := ⟨_, rfl⟩
                      have HNO := Lib.hid hno
                      rw [← hno] at h2 ⊢
                      clear hno
                      go_wp2_with fail
                      refine wp_region_later (W := wr) (by kernel_rfl) (by kernel_rfl) grows ?_
                      repeat (go_big_quiet_step (fail))
                      refine wpQuiet_nil ?_
                      intro w8 x8
                      have s8 := Step.mk x8
                      clear x8
                      go_wp2_with fail
                      go_roundw
                      case rel => exact ⟨j + 1, o, by omega, rfl, by rw [HNO.out], rfl, by go_num, Lib.hid ⟨grows, HSC.out⟩⟩
                      case measure => simp [intOf]; omega
                  · have HSC := Lib.hid (HX.out.2.miss HHA.out (fun ht => absurd (HTK.out.trans ht) h1))
                    have h1a : ((tk : Int) == (V : Int)) = false := beq_eq_false_iff_ne.2 (by omega)
                    have h1b : (tk == V) = false := beq_eq_false_iff_ne.2 h1
                    go_wp2_with fail
                    refine wp_region_later (W := wr) (by kernel_rfl) (by kernel_rfl) grows ?_
                    repeat (go_big_quiet_step (fail))
                    refine wpQuiet_nil ?_
                    intro w8 x8
                    have s8 := Step.mk x8
                    clear x8
                    go_wp2_with fail
                    go_roundw
                    case rel => exact ⟨j + 1, o, by omega, rfl, rfl, rfl, by go_num, Lib.hid ⟨grows, HSC.out⟩⟩
                    case measure => simp [intOf]; omega
                · have HM2 := Lib.hid (fun w' => HMK.out k w' hkw)
                  by_cases hkN : k = N
                  · subst hkN
                    obtain ⟨pm, hpm⟩ : ∃ z, z = Bv.pmask k w := ⟨_, rfl⟩
                    rw [← hpm] at HM2 q4
                    clear hpm
                    go_wp2_with fail
                    refine wp_region_later (W := wr) (by kernel_rfl) (by kernel_rfl) grows ?_
                    repeat (go_big_quiet_step ((go_at_call 18; exact Rets.later_at (HM2.out _))))
                    refine wpQuiet_nil ?_
                    intro w8 x8
                    have s8 := Step.mk x8
                    clear x8
                    go_wp2_with fail
                    go_roundw
                    case rel => exact ⟨k + 1, by omega, by rw [Lp.ones_at], by go_num, Lib.hid grows⟩
                    case measure => simp [intOf]; omega
                  · have hne : ¬ Bv.pmask N w = Bv.pmask k w := fun h => hkN (Bv.pmask_inj hw1 hw2 hN hkw h.symm)
                    obtain ⟨pm, hpm⟩ : ∃ z, z = Bv.pmask N w := ⟨_, rfl⟩
                    obtain ⟨pk, hpk⟩ : ∃ z, z = Bv.pmask k w := ⟨_, rfl⟩
                    rw [← hpm, ← hpk] at hne
                    rw [← hpm] at q4
                    rw [← hpk] at HM2
                    clear hpm hpk
                    go_wp2_with fail
                    refine wp_region_later (W := wr) (by kernel_rfl) (by kernel_rfl) grows ?_
                    repeat (go_big_quiet_step ((go_at_call 18; exact Rets.later_at (HM2.out _))))
                    refine wpQuiet_nil ?_
                    intro w8 x8
                    have s8 := Step.mk x8
                    clear x8
                    go_wp2_with fail
                    go_roundw
                    case rel => exact ⟨k + 1, by omega, by rw [Lp.ones_off hkN], by go_num, Lib.hid grows⟩
                    case measure => simp [intOf]; omega
            · obtain rfl : j = L.length := by omega
              have HL2 : Hid (∀ w', Ext wr w' → Calls Try.prog 19 #[.pointer (some ⟨g, 0, none⟩), .int .u32 K] w' (Rets w' (.tuple #[.int .i64 (Lp.lkA o), .int .i64 (Lp.lkN o), .bool o.isSome]))) := Lib.hid (fun w' hx => HLK.out w' hx o HX.out.2)
              cases o with
              | none =>
                simp only [Lp.lkA, Lp.lkN, Lp.nn, Option.map_none, Option.getD_none, Option.isSome_none] at HL2 ⊢
                go_wp2_with fail
                refine (HL2.out _ grows).mono ?_
                rintro e w9 ⟨rfl, x9⟩
                have s9 := Step.mk x9
                clear x9
                go_wp2_with fail
                refine (works_any _).mono ?_
                rintro e wd ⟨rfl, xd⟩
                have sd := Step.mk xd
                go_wp2_with fail
                go_ret
                exact ⟨rfl, grows⟩
              | some p =>
                obtain ⟨x, n⟩ := p
                simp only [Lp.lkA, Lp.lkN, Lp.nn, Option.map_some, Option.getD_some, Option.isSome_some] at HL2 ⊢
                go_wp2_with fail
                refine (HL2.out _ grows).mono ?_
                rintro e w9 ⟨rfl, x9⟩
                have s9 := Step.mk x9
                clear x9
                go_wp2_with fail
                refine (works_any _).mono ?_
                rintro e wd ⟨rfl, xd⟩
                have sd := Step.mk xd
                go_wp2_with fail
                go_ret
                exact ⟨rfl, grows⟩
    · have hd : decide ((60 : Int) < (ac.length : Int)) = true := decide_eq_true (by omega)
      go_enter Try.func5, Try.ntmps5
      go_wp2_with fail
      refine (new_ok w hw1 hw2).mono ?_
      rintro e w1 ⟨g, T0, rfl, x1, _, _, _, _⟩
      have s1 := Step.mk x1
      clear x1
      go_wp2_with fail
      refine (works_any _).mono ?_
      rintro e w5 ⟨rfl, x5⟩
      have s5 := Step.mk x5
      go_wp2_with fail
      go_ret
      exact ⟨rfl, grows⟩
  · go_enter Try.func5, Try.ntmps5
    go_wp2_with fail
    refine (new_bad a0 hw).mono ?_
    rintro e w1 ⟨rfl, x1⟩
    have s1 := Step.mk x1
    clear x1
    go_wp2_with fail
    refine (works_any _).mono ?_
    rintro e w5 ⟨rfl, x5⟩
    have s5 := Step.mk x5
    go_wp2_with fail
    go_ret
    exact ⟨rfl, grows⟩
end Go.Proofs.Yteefchbpojcklaa
