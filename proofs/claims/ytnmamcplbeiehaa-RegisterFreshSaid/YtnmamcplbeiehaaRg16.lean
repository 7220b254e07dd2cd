/- Registers: the law Runs, walked. No condition. -/
import Derived.Test.YtnmamcplbeiehaaRg15
namespace Go.Proofs.Ytnmamcplbeiehaa
open Go.RowKit

set_option maxRecDepth 100000 in
set_option maxHeartbeats 8000000 in
theorem registerRuns_walk (v0 v1 v2 : Value) (W : World) {b0 b1 b2 : Nat} {r0 r1 r2 : Reach} {H : Type} {enc : TypeId × Value → H} {d0 d1 d2 : DataW H} {p0 p1 p2 : List MemPlace}
    (ok0 : Value.okWide Try.prog W r0 b0 76 v0) (h0 : DataW.Trod enc Try.prog W 0 (fun _ => true) true 76 v0 d0 p0)
    (ok1 : Value.okWide Try.prog W r1 b1 88 v1) (h1 : DataW.Trod enc Try.prog W 0 (fun _ => true) true 88 v1 d1 p1)
    (ok2 : Value.okWide Try.prog W r2 b2 84 v2) (h2 : DataW.Trod enc Try.prog W 0 (fun _ => true) true 84 v2 d2 p2) :
    Calls Try.prog 11 #[v0, v1, v2] W (Rets W (.bool true)) := by
  obtain ⟨s, a1, n1, m1, a2, n2, m2, a3, m3, a4, n4, m4, a5, n5, m5, a6, n6, m6, a7, n7, m7, a8, n8, m8, rs, rfl, hr⟩ := rprog_take ok0 h0
  obtain ⟨l, hal⟩ := accs_take ok1 h1
  obtain ⟨r, i, x, rfl, hrb, hib, hxb⟩ := acc_take ok2 h2
  obtain ⟨ao, ac, rfl, lle, lmx⟩ := hal.slice
  obtain ⟨_, _, he, lb, mb⟩ := hr.slice
  simp only [Value.slice.injEq, true_and] at he
  obtain ⟨rfl, rfl⟩ := he
  unfold maxLen at lmx mb
  unfold Rg.B64 at hrb
  clear ok0 h0 ok1 h1 ok2 h2 d0 d1 d2
  have HR := Lib.hid hr
  have HAL := Lib.hid hal
  have bb := alloc_heap W (.cells #[.string s, .slice a1 n1 m1, .slice a2 n2 m2, .slice a3 rs.length m3, .slice a4 n4 m4, .slice a5 n5 m5, .slice a6 n6 m6, .slice a7 n7 m7, .slice a8 n8 m8] 76)
  have p0 := alw (cell_of (o := 0) bb)
  have p1 := alw (cell_of (o := 1) bb)
  have p2 := alw (cell_of (o := 2) bb)
  have p3 := alw (cell_of (o := 3) bb)
  have p4 := alw (cell_of (o := 4) bb)
  have p5 := alw (cell_of (o := 5) bb)
  have p6 := alw (cell_of (o := 6) bb)
  have p7 := alw (cell_of (o := 7) bb)
  have p8 := alw (cell_of (o := 8) bb)
  clear bb
  have bx := alloc_heap (W.alloc (.cells #[.string s, .slice a1 n1 m1, .slice a2 n2 m2, .slice a3 rs.length m3, .slice a4 n4 m4, .slice a5 n5 m5, .slice a6 n6 m6, .slice a7 n7 m7, .slice a8 n8 m8] 76)) (.cells #[.int .i64 r, .int .u32 i, .int .u32 x] 84)
  rw [World.size_alloc] at bx
  have q0 := alw (cell_of (o := 0) bx)
  have q1 := alw (cell_of (o := 1) bx)
  have q2 := alw (cell_of (o := 2) bx)
  clear bx
  obtain ⟨ta, hta⟩ : ∃ t, t = Rg.tooB rs [] := ⟨_, rfl⟩
  have HTA : Hid (∀ w, Ext W w → Calls Try.prog 29 #[.agg #[.string s, .slice a1 n1 m1, .slice a2 n2 m2, .slice a3 rs.length m3, .slice a4 n4 m4, .slice a5 n5 m5, .slice a6 n6 m6, .slice a7 n7 m7, .slice a8 n8 m8], .slice none 0 0] w (Rets w (.bool ta))) := Lib.hid (fun w hx => by have h := too_any (s := s) (a1 := a1) (n1 := n1) (m1 := m1) (a2 := a2) (n2 := n2) (m2 := m2) (a4 := a4) (n4 := n4) (m4 := m4) (a5 := a5) (n5 := n5) (m5 := m5) (a6 := a6) (n6 := n6) (m6 := m6) (a7 := a7) (n7 := n7) (m7 := m7) (a8 := a8) (n8 := n8) (m8 := m8) (HR.out.ext (fun _ _ h => h.ext hx) hx) (show Rows w 1 RowR (.slice none 0 0) [] from .inl ⟨rfl, rfl⟩); rw [← hta] at h; exact h)
  clear hr hal
  cases ta with
  | true =>
    clear hta
    go_enter Try.func11, Try.ntmps11
    go_wp2_with fail
    refine (HTA.out _ grows).mono ?_
    rintro e w1 ⟨rfl, xw1⟩
    have sw1 := Step.mk xw1
    go_wp2_with fail
    refine (rworks_any _).mono ?_
    rintro e w5 ⟨rfl, x5⟩
    have s5 := Step.mk x5
    go_wp2_with fail
    go_ret
    exact ⟨rfl, grows⟩
  | false =>
    obtain ⟨l1, _, _⟩ := Rg.too_len hta.symm
    clear hta
    by_cases l60 : l.length ≤ 60
    · go_enter Try.func11, Try.ntmps11
      go_wp2_with fail
      refine (HTA.out _ grows).mono ?_
      rintro e w1 ⟨rfl, xw1⟩
      have sw1 := Step.mk xw1
      go_wp2_with fail
      go_loopw [7] (fun q wr => ∃ k : Nat, k ≤ rs.length ∧ q = .int .i64 k ∧ Ext ((W.alloc (.cells #[.string s, .slice a1 n1 m1, .slice a2 n2 m2, .slice a3 rs.length m3, .slice a4 n4 m4, .slice a5 n5 m5, .slice a6 n6 m6, .slice a7 n7 m7, .slice a8 n8 m8] 76)).alloc (.cells #[.int .i64 r, .int .u32 i, .int .u32 x] 84)) wr ∧ Hid (∀ j, j < k → Rg.chk (rs.getD j Rg.z) = 0)) (fun q _ => rs.length - (intOf q).toNat)
      case atStart => exact ⟨0, Nat.zero_le _, rfl, xw1, Lib.hid (by intro j hj; omega)⟩
      case round =>
        obtain ⟨k, hk, rfl, hx, HZ⟩ := hrel
        obtain ⟨v1, rfl⟩ : ∃ v1 : World, v1 = wr := ⟨_, rfl⟩
        have sx := Step.mk hx
        by_cases hlt : k < rs.length
        · obtain ⟨g, hgk⟩ : ∃ y, rs[k]? = some y := ⟨_, List.getElem?_eq_getElem hlt⟩
          obtain ⟨b2, o2, hb2, _, _⟩ := Rows.at HR.out (by omega)
          subst hb2
          obtain ⟨f3, f4, f5, q3, z1, z2⟩ := regs_at HR.out k g hgk rfl
          have HGB := Lib.hid (Rg.getD_of (d := Rg.z) hgk)
          obtain ⟨c, hc⟩ : ∃ c, c = Rg.chk g := ⟨_, rfl⟩
          have HRK : Hid (∀ w, Calls Try.prog 28 #[.agg #[.string g.nm, .int .i64 g.w, .int .i64 g.s]] w (Rets w (.int .i64 c))) := Lib.hid (fun w => by have h := refcheck_any g q3 w; rw [← hc] at h; exact h)
          have HC := Lib.hid hc
          unfold maxLen at q3
          clear hgk hc
          by_cases h100 : g.nm.size ≤ 100
          · by_cases hc0 : c = 0
            · have hcb : (c != 0) = false := by simp [hc0]
              have HC0 := Lib.hid hc0
              clear hc0
              go_wp2_with fail
              refine (HRK.out _).mono ?_
              rintro e w3 ⟨rfl, xw3⟩
              have sw3 := Step.mk xw3
              go_wp2_with fail
              go_roundw
              case rel =>
                refine ⟨k + 1, by omega, by go_num, by exact hx.trans xw3, Lib.hid (fun j hj => ?_)⟩
                rcases Nat.lt_or_ge j k with h1 | h1
                · exact HZ.out j h1
                · obtain rfl : j = k := by omega
                  rw [HGB.out, ← HC.out, HC0.out]
              case measure => simp [intOf]; omega
            · have hcb : (c != 0) = true := by simp [hc0]
              clear hc0
              go_wp2_with fail
              refine (HRK.out _).mono ?_
              rintro e w3 ⟨rfl, xw3⟩
              have sw3 := Step.mk xw3
              go_wp2_with fail
              refine (rworks_any _).mono ?_
              rintro e w5 ⟨rfl, x5⟩
              have s5 := Step.mk x5
              go_wp2_with fail
              go_ret
              exact ⟨rfl, grows⟩
          · go_wp2_with fail
            refine (rworks_any _).mono ?_
            rintro e w5 ⟨rfl, x5⟩
            have s5 := Step.mk x5
            go_wp2_with fail
            go_ret
            exact ⟨rfl, grows⟩
        · obtain rfl : k = rs.length := by omega
          have hG : Rg.Good rs := fun g hg => by
            obtain ⟨j, hj, rfl⟩ := List.mem_iff_getElem.1 hg
            have h := HZ.out j hj
            rw [Rg.getD_of (List.getElem?_eq_getElem hj)] at h
            exact h
          have HG := Lib.hid hG
          have HAA := Lib.hid (accs_all HAL.out)
          have HNW : Hid (∀ w, Ext W w → Calls Try.prog 31 #[.agg #[.string s, .slice a1 n1 m1, .slice a2 n2 m2, .slice a3 rs.length m3, .slice a4 n4 m4, .slice a5 n5 m5, .slice a6 n6 m6, .slice a7 n7 m7, .slice a8 n8 m8]] w (TabP w (Rg.new rs))) := Lib.hid (fun w hx => by have h := new_any (s := s) (a1 := a1) (n1 := n1) (m1 := m1) (a2 := a2) (n2 := n2) (m2 := m2) (a4 := a4) (n4 := n4) (m4 := m4) (a5 := a5) (n5 := n5) (m5 := m5) (a6 := a6) (n6 := n6) (m6 := m6) (a7 := a7) (n7 := n7) (m7 := m7) (a8 := a8) (n8 := n8) (m8 := m8) (HR.out.ext (fun _ _ h => h.ext hx) hx) l1; exact h)
          clear hG HZ
          go_wp2_with fail
          refine (HNW.out _ (grows (a := W))).mono ?_
          rintro e w3 ⟨v3, vs3, rfl, x3, t3⟩
          have s3 := Step.mk x3
          obtain ⟨oa3, oc3, rfl⟩ := tab_slice t3
          have T3 := Lib.hid t3.rows
          clear t3
          go_wp2_with fail
          go_loopw [8, 9, 10] (fun o t j wr => ∃ k : Nat, k ≤ l.length ∧ j = .int .i64 k ∧ t = .int .u32 (Rg.wnt r i (l.take k)) ∧ ∃ oa oc, o = .slice oa (Rg.cts rs (l.take k)).length oc ∧ Ext ((W.alloc (.cells #[.string s, .slice a1 n1 m1, .slice a2 n2 m2, .slice a3 rs.length m3, .slice a4 n4 m4, .slice a5 n5 m5, .slice a6 n6 m6, .slice a7 n7 m7, .slice a8 n8 m8] 76)).alloc (.cells #[.int .i64 r, .int .u32 i, .int .u32 x] 84)) wr ∧ Hid (Rows wr 1 RowR (.slice oa (Rg.cts rs (l.take k)).length oc) (Rg.cts rs (l.take k)))) (fun _ _ j _ => l.length - (intOf j).toNat)
          case atStart => exact ⟨0, Nat.zero_le _, rfl, rfl, oa3, oc3, rfl, hx.trans x3, T3⟩
          case round =>
            obtain ⟨k, hk, rfl, rfl, oa, oc, rfl, hy, HT⟩ := hrel
            obtain ⟨v4, rfl⟩ : ∃ v4 : World, v4 = wr := ⟨_, rfl⟩
            have sy := Step.mk hy
            have HRUN := Lib.hid (Rg.run_all HG.out r i (l := l.take k) (fun a ha => HAA.out a (List.mem_of_mem_take ha)))
            obtain ⟨C, hC⟩ : ∃ C, C = Rg.cts rs (l.take k) := ⟨_, rfl⟩
            obtain ⟨N, hN⟩ : ∃ N, N = Rg.wnt r i (l.take k) := ⟨_, rfl⟩
            rw [← hC] at HT ⊢
            rw [← hN]
            rw [← hC, ← hN] at HRUN
            have HCE := Lib.hid hC
            have HNE := Lib.hid hN
            obtain ⟨hsh, hla, hnu⟩ := HRUN.out
            obtain ⟨hc8, hc1⟩ := Rg.shape_small hsh HG.out l1
            have HSH := Lib.hid hsh
            have HLA := Lib.hid hla
            have HC1 := Lib.hid hc1
            unfold U32 at hnu
            clear hC hN hsh hla hc1
            by_cases hlt : k < l.length
            · obtain ⟨⟨ar, ai, ax⟩, hak⟩ : ∃ a, l[k]? = some a := ⟨_, List.getElem?_eq_getElem hlt⟩
              obtain ⟨b3, o3, hb3, _, _⟩ := Rows.at HAL.out (by omega)
              subst hb3
              obtain ⟨g0, g1, g2, u0, u1, u2⟩ := accs_at HAL.out k _ hak rfl
              dsimp only at g0 g1 g2 u0 u1 u2
              have HCA := Lib.hid (Rg.cts_add (rs := rs) hak)
              have HWA := Lib.hid (Rg.wnt_add (r := r) (i := i) hak)
              obtain ⟨M, hM⟩ : ∃ M, M = Rg.write rs C ar ai ax := ⟨_, rfl⟩
              have HWR : Hid (∀ w, Ext v4 w → Calls Try.prog 38 #[.agg #[.string s, .slice a1 n1 m1, .slice a2 n2 m2, .slice a3 rs.length m3, .slice a4 n4 m4, .slice a5 n5 m5, .slice a6 n6 m6, .slice a7 n7 m7, .slice a8 n8 m8], .slice oa C.length oc, .int .i64 ar, .int .u32 ai, .int .u32 ax] w (TabP w M)) := Lib.hid (fun w hx => by have h := write_any (s := s) (a1 := a1) (n1 := n1) (m1 := m1) (a2 := a2) (n2 := n2) (m2 := m2) (a4 := a4) (n4 := n4) (m4 := m4) (a5 := a5) (n5 := n5) (m5 := m5) (a6 := a6) (n6 := n6) (m6 := m6) (a7 := a7) (n7 := n7) (m7 := m7) (a8 := a8) (n8 := n8) (m8 := m8) (HR.out.ext (fun _ _ h => h.ext ((grows (a := W) (b := v4)).trans hx)) ((grows (a := W) (b := v4)).trans hx)) (HT.out.ext (fun _ _ h => h.ext hx) hx) hc8 HC1.out ar ai ax u1.1 u1.2 u2.1 u2.2; rw [← hM] at h; exact h)
              have HM := Lib.hid hM
              unfold Rg.B64 at u0
              unfold U32 at u1 u2
              clear hak hM
              go_wp2_with fail
              refine Rel.region (W := v4) (Rel.tab [(17, fun v w => Rows w 1 RowR v M)]) (Rel.tab_lasts (by intro p hp v w w' hr hx; simp only [List.mem_cons, List.not_mem_nil, or_false] at hp; subst hp; (· exact Rows.ext hr (fun _ _ h => h.ext hx) hx))) (by kernel_rfl) (by kernel_rfl) (Ext.refl _) ?_
              refine Rel.chunk 17 rfl rfl rfl ?_
              simp only [List.take_succ_cons, List.take_zero, List.drop_succ_cons, List.drop_zero, Nat.reduceAdd]
              repeat (go_big_quiet_step (fail))
              refine wpQuiet_nil ?_
              refine Rel.callG (fun v w => Rows w 1 RowR v M) rfl rfl rfl Try.func38 (by nofun) (by decide) #[.agg #[.string s, .slice a1 n1 m1, .slice a2 n2 m2, .slice a3 rs.length m3, .slice a4 n4 m4, .slice a5 n5 m5, .slice a6 n6 m6, .slice a7 n7 m7, .slice a8 n8 m8], .slice oa C.length oc, .int .i64 ar, .int .u32 ai, .int .u32 ax] rfl (fun w hx _ => by refine (HWR.out w hx).mono ?_; rintro e w9 ⟨u9, vs9, he, hx9, ht9⟩; exact ⟨u9, he, hx9, ht9.rows⟩) ?_
              intro v17 w17 _ _ _
              simp only [Act.put, List.setIfInBounds_toArray, List.set_cons_succ, List.set_cons_zero]
              refine Rel.chunk 1 rfl rfl rfl ?_
              simp only [List.take_succ_cons, List.take_zero, List.drop_succ_cons, List.drop_zero, Nat.reduceAdd]
              repeat (go_big_quiet_step (fail))
              refine wpQuiet_nil ?_
              refine Rel.fin ?_
              intro w6 hx6 hf6
              have s6 := Step.mk hx6
              have t6 := (hf6 17).2 rfl
              obtain ⟨oa6, oc6, rfl, _, _⟩ := t6.slice
              have T6 := Lib.hid t6
              clear t6 hf6
              by_cases e1 : ar = r
              · by_cases e2 : ai = i
                · have d1 : (ar == r) = true := by simp [e1]
                  have d2 : (ai == i) = true := by simp [e2]
                  have E1 := Lib.hid e1
                  have E2 := Lib.hid e2
                  clear e1 e2
                  go_wp2_with fail
                  refine wp_region_later (by kernel_rfl) (by kernel_rfl) (Ext.refl _) ?_
                  repeat (go_big_quiet_step (fail))
                  refine wpQuiet_nil ?_
                  intro w7 hxw7
                  have sw7 := Step.mk hxw7
                  go_wp2_with fail
                  go_roundw
                  case rel =>
                    refine ⟨k + 1, by omega, by go_num, by rw [HWA.out, ← HNE.out]; rw [if_pos ⟨E1.out, E2.out⟩], oa6, oc6, by rw [HCA.out, ← HCE.out, ← HM.out], by exact (hy.trans hx6).trans hxw7, Lib.hid (by rw [HCA.out, ← HCE.out, ← HM.out]; exact T6.out.ext (fun _ _ h => h.ext hxw7) hxw7)⟩
                  case measure => simp [intOf]; omega
                · have d1 : (ar == r) = true := by simp [e1]
                  have d2 : (ai == i) = false := by simp [e2]
                  have E2 := Lib.hid e2
                  clear e1 e2
                  go_wp2_with fail
                  refine wp_region_later (by kernel_rfl) (by kernel_rfl) (Ext.refl _) ?_
                  repeat (go_big_quiet_step (fail))
                  refine wpQuiet_nil ?_
                  intro w7 hxw7
                  have sw7 := Step.mk hxw7
                  go_wp2_with fail
                  go_roundw
                  case rel =>
                    refine ⟨k + 1, by omega, by go_num, by rw [HWA.out, ← HNE.out]; rw [if_neg (fun h => E2.out h.2)], oa6, oc6, by rw [HCA.out, ← HCE.out, ← HM.out], by exact (hy.trans hx6).trans hxw7, Lib.hid (by rw [HCA.out, ← HCE.out, ← HM.out]; exact T6.out.ext (fun _ _ h => h.ext hxw7) hxw7)⟩
                  case measure => simp [intOf]; omega
              · have d1 : (ar == r) = false := by simp [e1]
                have E1 := Lib.hid e1
                clear e1
                go_wp2_with fail
                refine wp_region_later (by kernel_rfl) (by kernel_rfl) (Ext.refl _) ?_
                repeat (go_big_quiet_step (fail))
                refine wpQuiet_nil ?_
                intro w7 hxw7
                have sw7 := Step.mk hxw7
                go_wp2_with fail
                go_roundw
                case rel =>
                  refine ⟨k + 1, by omega, by go_num, by rw [HWA.out, ← HNE.out]; rw [if_neg (fun h => E1.out h.1)], oa6, oc6, by rw [HCA.out, ← HCE.out, ← HM.out], by exact (hy.trans hx6).trans hxw7, Lib.hid (by rw [HCA.out, ← HCE.out, ← HM.out]; exact T6.out.ext (fun _ _ h => h.ext hxw7) hxw7)⟩
                case measure => simp [intOf]; omega
            · obtain rfl : k = l.length := by omega
              have HCC : Hid (∀ w, Ext v4 w → Calls Try.prog 33 #[.agg #[.string s, .slice a1 n1 m1, .slice a2 n2 m2, .slice a3 rs.length m3, .slice a4 n4 m4, .slice a5 n5 m5, .slice a6 n6 m6, .slice a7 n7 m7, .slice a8 n8 m8], .slice oa C.length oc] w (Rets w (.int .i64 0))) := Lib.hid (fun w hx => by have h := cc_any (s := s) (a1 := a1) (n1 := n1) (m1 := m1) (a2 := a2) (n2 := n2) (m2 := m2) (a4 := a4) (n4 := n4) (m4 := m4) (a5 := a5) (n5 := n5) (m5 := m5) (a6 := a6) (n6 := n6) (m6 := m6) (a7 := a7) (n7 := n7) (m7 := m7) (a8 := a8) (n8 := n8) (m8 := m8) (HR.out.ext (fun _ _ h => h.ext ((grows (a := W) (b := v4)).trans hx)) ((grows (a := W) (b := v4)).trans hx)) (HT.out.ext (fun _ _ h => h.ext hx) hx); rw [Rg.cc_zero HSH.out] at h; exact h)
              obtain ⟨V, hV⟩ : ∃ V, V = Rg.read rs C r i := ⟨_, rfl⟩
              have HRD : Hid (∀ w, Ext v4 w → Calls Try.prog 36 #[.agg #[.string s, .slice a1 n1 m1, .slice a2 n2 m2, .slice a3 rs.length m3, .slice a4 n4 m4, .slice a5 n5 m5, .slice a6 n6 m6, .slice a7 n7 m7, .slice a8 n8 m8], .slice oa C.length oc, .int .i64 r, .int .u32 i] w (Rets w (.int .u32 V))) := Lib.hid (fun w hx => by have h := read_any (s := s) (a1 := a1) (n1 := n1) (m1 := m1) (a2 := a2) (n2 := n2) (m2 := m2) (a4 := a4) (n4 := n4) (m4 := m4) (a5 := a5) (n5 := n5) (m5 := m5) (a6 := a6) (n6 := n6) (m6 := m6) (a7 := a7) (n7 := n7) (m7 := m7) (a8 := a8) (n8 := n8) (m8 := m8) (HR.out.ext (fun _ _ h => h.ext ((grows (a := W) (b := v4)).trans hx)) ((grows (a := W) (b := v4)).trans hx)) (HT.out.ext (fun _ _ h => h.ext hx) hx) r i hib.1 hib.2; rw [← hV] at h; exact h)
              have hib1 := hib.1
              have hib2 := hib.2
              clear HCE HNE
              by_cases c1 : r < 0
              · obtain rfl : V = 0 := by rw [hV]; unfold Rg.read; rw [Rg.has_no (.inl c1)]; rfl
                have dr0 : decide (r < 0) = true := decide_eq_true c1
                clear hV
                go_wp2_with fail
                refine (HCC.out _ grows).mono ?_
                rintro e w6 ⟨rfl, xw6⟩
                have sw6 := Step.mk xw6
                go_wp2_with fail
                refine (HRD.out _ grows).mono ?_
                rintro e w7 ⟨rfl, xw7⟩
                have sw7 := Step.mk xw7
                go_wp2_with fail
                refine wp_region_later (by kernel_rfl) (by kernel_rfl) (Ext.refl _) ?_
                repeat (go_big_quiet_step (fail))
                refine wpQuiet_nil ?_
                intro w8 hxw8
                have sw8 := Step.mk hxw8
                go_wp2_with fail
                refine (rworks_any _).mono ?_
                rintro e w9 ⟨rfl, x9⟩
                have s9 := Step.mk x9
                go_wp2_with fail
                go_ret
                exact ⟨rfl, grows⟩
              · obtain ⟨k, rfl⟩ := Int.eq_ofNat_of_zero_le (show 0 ≤ r by omega)
                by_cases c2 : k < rs.length
                · obtain ⟨⟨gn, gw, gs⟩, hgk⟩ : ∃ y, rs[k]? = some y := ⟨_, List.getElem?_eq_getElem c2⟩
                  obtain ⟨b2, o2, hb2, _, _⟩ := Rows.at HR.out (by omega)
                  subst hb2
                  obtain ⟨f3, f4, f5, q3, z1, z2⟩ := regs_at HR.out k _ hgk rfl
                  dsimp only at f3 f4 f5
                  unfold Rg.B64 at z1 z2
                  dsimp only at z1 z2
                  by_cases c3 : i < gs
                  · obtain ⟨n, rfl⟩ := Int.eq_ofNat_of_zero_le hib1
                    have hh := Rg.has_yes HSH.out hgk c3
                    have hv2 := HLA.out k n _ rfl rfl hgk hh
                    have hgood := Rg.chk_ok (HG.out _ (List.mem_of_getElem? hgk))
                    have hw := Bv.ok_iff.1 hgood.1
                    dsimp only at hw
                    obtain ⟨m, rfl⟩ := Int.eq_ofNat_of_zero_le (show 0 ≤ gw by omega)
                    have hVe : V = Bv.red N (m : Int) := by rw [hV]; unfold Rg.read; rw [hh, if_pos rfl, Int.toNat_natCast, Int.toNat_natCast]; exact hv2
                    have hvm := Rg.red_mask N (m : Int)
                    rw [← hVe] at hvm
                    have hvl : V < 4294967296 := by have := (Bv.mask_bd (m : Int)).2; omega
                    have hlow := Rg.low_bits (w := m) (by omega) (by omega) (a := N) hnu
                    rw [← hVe] at hlow
                    have HFT : Hid (∀ w, Calls Try.prog 40 #[.int .u32 V, .int .i64 (m : Int)] w fun e w' => e = .returned (.bool true) ∧ w = w') := Lib.hid (fun w => by have h := rfits12_any (W := w) V (m : Int) hvm.1 hvl (by omega) (by omega); rw [decide_eq_true hvm.2] at h; exact h)
                    have hmask : Bv.mask (m : Int) = 2 ^ m - 1 := by unfold Bv.mask; rw [if_pos hgood.1]; simp [Bv.pw]
                    obtain ⟨K, hK⟩ : ∃ K, K = Bv.mask (m : Int) := ⟨_, rfl⟩
                    rw [← hK] at hmask hlow
                    obtain ⟨Y, hY⟩ : ∃ Y, Y = IntKind.u32.wrap (2 ^ m) := ⟨_, rfl⟩
                    have hYa : IntKind.u32.wrap (2 ^ m) = Y := hY.symm
                    have hYb : (2 : Int) ^ m % 4294967296 = Y := by rw [hY, IntKind.wrap_u32']
                    have hsub : IntKind.u32.wrap (Y - 1) = K := by rw [hY, hmask]; exact Rg.wrap_pow (by omega) (by omega)
                    have hsub2 : (Y - 1) % 4294967296 = K := by rw [← hsub, IntKind.wrap_u32']
                    obtain ⟨Z, hZ⟩ : ∃ Z, bits .xor .u32 V N = Z := ⟨_, rfl⟩
                    rw [hZ] at hlow
                    obtain ⟨hw1, hw2⟩ := hw
                    have hv0 := hvm.1
                    have dr0 : decide ((k : Int) < 0) = false := decide_eq_false (by omega)
                    have dr1 : decide ((rs.length : Int) ≤ (k : Int)) = false := decide_eq_false (by omega)
                    have dr1n : decide (rs.length ≤ k) = false := decide_eq_false (by omega)
                    have dr2 : decide (gs ≤ (n : Int)) = false := decide_eq_false (by omega)
                    clear hV hVe hvm hh hv2 hgood hgk hmask hK hY q3
                    go_wp2_with fail
                    refine (HCC.out _ grows).mono ?_
                    rintro e w6 ⟨rfl, xw6⟩
                    have sw6 := Step.mk xw6
                    go_wp2_with fail
                    refine (HRD.out _ grows).mono ?_
                    rintro e w7 ⟨rfl, xw7⟩
                    have sw7 := Step.mk xw7
                    go_wp2_with fail
                    refine wp_region_later (by kernel_rfl) (by kernel_rfl) (Ext.refl _) ?_
                    repeat (go_big_quiet_step (fail))
                    refine wpQuiet_nil ?_
                    intro w8 hxw8
                    have sw8 := Step.mk hxw8
                    go_wp2_with fail
                    refine (HFT.out _).mono ?_
                    rintro e w9 ⟨rfl, rfl⟩
                    go_wp2_with fail
                    refine (rworks_any _).mono ?_
                    rintro e w10 ⟨rfl, x10⟩
                    have s10 := Step.mk x10
                    go_wp2_with fail
                    go_ret
                    exact ⟨rfl, grows⟩
                  · obtain rfl : V = 0 := by rw [hV]; unfold Rg.read; rw [Rg.has_no (.inr (.inr ⟨k, _, rfl, hgk, by dsimp only; omega⟩))]; rfl
                    have dr0 : decide ((k : Int) < 0) = false := decide_eq_false (by omega)
                    have dr1 : decide ((rs.length : Int) ≤ (k : Int)) = false := decide_eq_false (by omega)
                    have dr1n : decide (rs.length ≤ k) = false := decide_eq_false (by omega)
                    have dr2 : decide (gs ≤ i) = true := decide_eq_true (by omega)
                    clear hV hgk q3
                    go_wp2_with fail
                    refine (HCC.out _ grows).mono ?_
                    rintro e w6 ⟨rfl, xw6⟩
                    have sw6 := Step.mk xw6
                    go_wp2_with fail
                    refine (HRD.out _ grows).mono ?_
                    rintro e w7 ⟨rfl, xw7⟩
                    have sw7 := Step.mk xw7
                    go_wp2_with fail
                    refine wp_region_later (by kernel_rfl) (by kernel_rfl) (Ext.refl _) ?_
                    repeat (go_big_quiet_step (fail))
                    refine wpQuiet_nil ?_
                    intro w8 hxw8
                    have sw8 := Step.mk hxw8
                    go_wp2_with fail
                    refine (rworks_any _).mono ?_
                    rintro e w9 ⟨rfl, x9⟩
                    have s9 := Step.mk x9
                    go_wp2_with fail
                    go_ret
                    exact ⟨rfl, grows⟩
                · obtain rfl : V = 0 := by rw [hV]; unfold Rg.read; rw [Rg.has_no (.inr (.inl (by omega)))]; rfl
                  have dr0 : decide ((k : Int) < 0) = false := decide_eq_false (by omega)
                  have dr1 : decide ((rs.length : Int) ≤ (k : Int)) = true := decide_eq_true (by omega)
                  have dr1n : decide (rs.length ≤ k) = true := decide_eq_true (by omega)
                  clear hV
                  go_wp2_with fail
                  refine (HCC.out _ grows).mono ?_
                  rintro e w6 ⟨rfl, xw6⟩
                  have sw6 := Step.mk xw6
                  go_wp2_with fail
                  refine (HRD.out _ grows).mono ?_
                  rintro e w7 ⟨rfl, xw7⟩
                  have sw7 := Step.mk xw7
                  go_wp2_with fail
                  refine wp_region_later (by kernel_rfl) (by kernel_rfl) (Ext.refl _) ?_
                  repeat (go_big_quiet_step (fail))
                  refine wpQuiet_nil ?_
                  intro w8 hxw8
                  have sw8 := Step.mk hxw8
                  go_wp2_with fail
                  refine (rworks_any _).mono ?_
                  rintro e w9 ⟨rfl, x9⟩
                  have s9 := Step.mk x9
                  go_wp2_with fail
                  go_ret
                  exact ⟨rfl, grows⟩
    · go_enter Try.func11, Try.ntmps11
      go_wp2_with fail
      refine (HTA.out _ grows).mono ?_
      rintro e w1 ⟨rfl, xw1⟩
      have sw1 := Step.mk xw1
      go_wp2_with fail
      refine (rworks_any _).mono ?_
      rintro e w5 ⟨rfl, x5⟩
      have s5 := Step.mk x5
      go_wp2_with fail
      go_ret
      exact ⟨rfl, grows⟩
end Go.Proofs.Ytnmamcplbeiehaa
