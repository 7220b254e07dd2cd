/- Registers: the reference of Write, walked. No condition. -/
import Derived.Test.YtnmamcplbeiehaaRg9
namespace Go.Proofs.Ytnmamcplbeiehaa
open Go.RowKit

theorem own_empty {B : Nat} {w : World} (hB : B ≤ w.heap.size) : (w.alloc (.cells #[] 23)).ownsRow B 23 1 (.slice (some ⟨w.heap.size, 0, none⟩) 0 0) 0 [] :=
  ⟨rfl, .inr ⟨w.heap.size, 0, #[], rfl, hB, alloc_heap w _, Nat.le_refl _, Nat.zero_le _, rfl, rfl⟩⟩
theorem red_pow {x w : Int} (h : Bv.ok w = true) : Bv.red x w = x % 2 ^ w.toNat := by unfold Bv.red; rw [if_pos h]; rfl
set_option maxRecDepth 8000 in
set_option maxHeartbeats 4000000 in
theorem refwrite_any {W : World} {s : ByteArray} {a1 a2 a3 a4 a5 a6 a7 a8 : Option Addr} {n1 m1 n2 m2 m3 n4 m4 n5 m5 n6 m6 n7 m7 n8 m8 : Nat} {rs : List Rg.Reg} (hr : Rows W 3 Rg.RegR (.slice a3 rs.length m3) rs) {v : Value} {ls : List (List Int)} (hl : Rows W 1 RowR v ls) (h8 : ls.length ≤ 8) (h100 : ∀ l ∈ ls, l.length ≤ 1000) (r i x : Int) (hi0 : 0 ≤ i) (hi1 : i < 4294967296) (hx0 : 0 ≤ x) (hx1 : x < 4294967296) :
    Calls Try.prog 39 #[.agg #[.string s, .slice a1 n1 m1, .slice a2 n2 m2, .slice a3 rs.length m3, .slice a4 n4 m4, .slice a5 n5 m5, .slice a6 n6 m6, .slice a7 n7 m7, .slice a8 n8 m8], v, .int .i64 r, .int .u32 i, .int .u32 x] W (TabP W (Rg.write rs ls r i x)) := by
  obtain ⟨lo, lc, rfl, la, ma⟩ := hl.slice
  obtain ⟨_, _, he, lb, mb⟩ := hr.slice
  simp only [Value.slice.injEq, true_and] at he
  obtain ⟨rfl, rfl⟩ := he
  unfold maxLen at ma mb
  have HL := Lib.hid hl
  have HR := Lib.hid hr
  clear hl hr
  have bb := alloc_heap W (.cells #[.string s, .slice a1 n1 m1, .slice a2 n2 m2, .slice a3 rs.length m3, .slice a4 n4 m4, .slice a5 n5 m5, .slice a6 n6 m6, .slice a7 n7 m7, .slice a8 n8 m8] 76)
  have p0 := alw (cell_of (o := 0) bb)
  have p1 := alw (cell_of (o := 1) bb)
  have p2 := alw (cell_of (o := 2) bb)
  have p3 := alw (cell_of (o := 3) bb)
  have p4 := alw (cell_of (o := 4) bb)
  have p5 := alw (cell_of (o := 5) bb)
  have p6 := alw (cell_of (o := 6) bb)
  have p7 := alw (cell_of (o := 7) bb)
  have p8 := alw (cell_of (o := 8) bb)
  clear bb
  have H100 := Lib.hid h100
  clear h100
  go_enter Try.func39, Try.ntmps39
  go_wp2_with fail
  go_loopw [11, 12] (fun o i wr => ∃ k : Nat, k ≤ ls.length ∧ i = .int .i64 k ∧ ∃ oa oc, o = .slice oa k oc ∧ Hid (Ext (W.alloc (.cells #[.string s, .slice a1 n1 m1, .slice a2 n2 m2, .slice a3 rs.length m3, .slice a4 n4 m4, .slice a5 n5 m5, .slice a6 n6 m6, .slice a7 n7 m7, .slice a8 n8 m8] 76)) wr ∧ ∃ vs, Tab (W.heap.size + 1) wr (.slice oa k oc) vs (ls.take k))) (fun _ i _ => ls.length - (intOf i).toNat)
  case atStart => exact ⟨0, Nat.zero_le _, rfl, none, 0, rfl, Lib.hid ⟨Ext.refl _, [], Tab.nil⟩⟩
  case round =>
    obtain ⟨k, hk, rfl, oa, oc, rfl, HI⟩ := hrel
    obtain ⟨v1, rfl⟩ : ∃ v1 : World, v1 = wr := ⟨_, rfl⟩
    obtain ⟨hx, vs, ht⟩ := HI.out
    have sx := Step.mk hx
    have HT := Lib.hid ht
    have HX := Lib.hid hx
    have hsz := hx.le
    rw [World.size_alloc] at hsz
    have HLK := Lib.hid (take_len hk)
    by_cases hlt : k < ls.length
    · obtain ⟨l, hlk⟩ : ∃ x, ls[k]? = some x := ⟨_, List.getElem?_eq_getElem hlt⟩
      obtain ⟨b1, o1, hb1, _, _⟩ := Rows.at HL.out (by omega)
      subst hb1
      obtain ⟨la1, lc1, f1, n1, u1⟩ := rows_at HL.out k l hlk rfl
      have hl1 := H100.out l (List.mem_of_getElem? hlk)
      have HTK := Lib.hid (take_at hlk)
      have HU1 := Lib.hid u1
      have hown := ht.2.1
      rw [HLK.out] at hown
      have HOW := Lib.hid hown
      have HO0 := Lib.hid (own_empty (B := W.heap.size + 1) (w := v1) hsz)
      have HS0 := Lib.hid (n1.1.ext ((grows (a := W) (b := v1)).alloc (.cells #[] 23)))
      clear ht hx HI hlk n1 u1 hown
      go_wp2_with (first
        | (at_builtin; refine wpList_append_fresh rfl (.tmp 22) (.tmp 26) 90 rfl (W.heap.size + 1) 23 (.int .u32 0) 1 4 Try.underlying90 info_u32 rfl (by decide) (.slice (some ⟨v1.heap.size, 0, none⟩) 0 0) 0 [] rfl HO0.out (.slice la1 l.length lc1) l.length (l.map (.int .u32)) rfl HS0.out (by unfold maxLen; omega) (by omega) (by simp; omega) ?_; intro v2 w2 hv2 hg2 hd2; rw [Nat.zero_add, List.nil_append] at hv2; obtain ⟨oa2, oc2, he2⟩ := own_slice hv2; subst he2; have gx : Ext v1 w2 := ext_grown ((Ext.refl v1).alloc _) hg2 (fun q hq => by simp only [Value.ownBlock, Option.some.injEq] at hq; omega); have HGX := Lib.hid gx; have HV2 := Lib.hid hv2; have HD2 := Lib.hid hd2; have HO1 := Lib.hid (own_ext HOW.out (gx.alloc (.cells #[.slice oa2 l.length oc2] 90))); have HS1 := Lib.hid (src_one w2 (.slice oa2 l.length oc2) 90 rfl); have hsz2 := gx.le; clear hv2 hg2 hd2 gx)
        | (at_builtin; refine wpList_append_src rfl (.tmp 21) (.tmp 28) 77 rfl (W.heap.size + 1) 90 (.slice none 0 0) 1 24 Try.underlying77 info_u32s rfl (by decide) (.slice oa k oc) k vs rfl HO1.out _ 1 [.slice oa2 l.length oc2] rfl HS1.out (by unfold maxLen; omega) (by omega) (by simp; omega) ?_; intro v3 w3 hv3 hg3 _; obtain ⟨oa3, oc3, he3⟩ := own_slice hv3; subst he3; have HV3 := Lib.hid hv3; have HG3 := Lib.hid hg3; clear hv3 hg3))
      go_roundw
      case rel =>
        refine ⟨k + 1, by omega, by go_num, oa3, oc3, rfl, Lib.hid ⟨ext_grown ((HX.out.trans HGX.out).alloc _) HG3.out (fun q hq => by rw [World.size_alloc]; exact own_ge HOW.out hq), vs ++ [.slice oa2 l.length oc2], ?_⟩⟩
        rw [HTK.out]
        refine Tab.push (w := w2.alloc (.cells #[.slice oa2 l.length oc2] 90)) (HT.out.ext (HGX.out.alloc _)) (own_ext HV2.out ((Ext.refl _).alloc _)) HU1.out (fun j u q hu hq e => ?_) (by rw [HLK.out]; exact HV3.out) HG3.out
        have h1 := HT.out.lt hu hq
        rcases HD2.out with h2 | h2
        · rw [e] at h2; simp only [Value.ownBlock, Option.some.injEq] at h2; omega
        · have h3 := h2 q e; rw [World.size_alloc] at h3; omega
      case measure => simp [intOf]; omega
    · obtain rfl : k = ls.length := by omega
      have ht2 := HT.out
      rw [List.take_length] at ht2
      have HT2 := Lib.hid ht2
      clear ht hx HI ht2 HT HLK
      cases hb : Rg.has rs ls r i with
      | false =>
        have HH : Hid (∀ w, Ext W w → Calls Try.prog 64 #[.agg #[.string s, .slice a1 n1 m1, .slice a2 n2 m2, .slice a3 rs.length m3, .slice a4 n4 m4, .slice a5 n5 m5, .slice a6 n6 m6, .slice a7 n7 m7, .slice a8 n8 m8], .slice lo ls.length lc, .int .i64 r, .int .u32 i] w (Rets w (.bool false))) := Lib.hid (fun w hx => by have h := cell_any (s := s) (a1 := a1) (n1 := n1) (m1 := m1) (a2 := a2) (n2 := n2) (m2 := m2) (a4 := a4) (n4 := n4) (m4 := m4) (a5 := a5) (n5 := n5) (m5 := m5) (a6 := a6) (n6 := n6) (m6 := m6) (a7 := a7) (n7 := n7) (m7 := m7) (a8 := a8) (n8 := n8) (m8 := m8) (HR.out.ext (fun _ _ h => h.ext hx) hx) (HL.out.ext (fun _ _ h => h.ext hx) hx) r i hi0 hi1; rw [hb] at h; exact h)
        have HF := Lib.hid (Rg.write_no (x := x) hb)
        clear hb
        go_wp2_with fail
        refine (HH.out _ grows).mono ?_
        rintro e w3 ⟨rfl, x3⟩
        have s3 := Step.mk x3
        go_wp2_with fail
        go_ret
        rw [HF.out]
        exact tab_ret grows ((HT2.out.ext (grows (a := v1))).base (by omega))
      | true =>
        obtain ⟨k, n, ⟨gn, gw, gs⟩, l, y, rfl, rfl, hgk, hlk, hyn, h1, h2, h3, h4, h5⟩ := Rg.has_get hb hi0
        have HH : Hid (∀ w, Ext W w → Calls Try.prog 64 #[.agg #[.string s, .slice a1 n1 m1, .slice a2 n2 m2, .slice a3 rs.length m3, .slice a4 n4 m4, .slice a5 n5 m5, .slice a6 n6 m6, .slice a7 n7 m7, .slice a8 n8 m8], .slice lo ls.length lc, .int .i64 k, .int .u32 n] w (Rets w (.bool true))) := Lib.hid (fun w hx => by have h := cell_any (s := s) (a1 := a1) (n1 := n1) (m1 := m1) (a2 := a2) (n2 := n2) (m2 := m2) (a4 := a4) (n4 := n4) (m4 := m4) (a5 := a5) (n5 := n5) (m5 := m5) (a6 := a6) (n6 := n6) (m6 := m6) (a7 := a7) (n7 := n7) (m7 := m7) (a8 := a8) (n8 := n8) (m8 := m8) (HR.out.ext (fun _ _ h => h.ext hx) hx) (HL.out.ext (fun _ _ h => h.ext hx) hx) k n hi0 hi1; rw [hb] at h; exact h)
        obtain ⟨b2, o2, hb2, _, _⟩ := Rows.at HR.out (by omega)
        subst hb2
        obtain ⟨f3, f4, f5, q3, q1, q2⟩ := regs_at HR.out k _ hgk rfl
        dsimp only at f3 f4 f5
        cases hk : Bv.ok gw with
        | false =>
          have HF := Lib.hid (Rg.write_zero (ls := ls) (i := n) (x := x) hgk hk)
          have HM : Hid (∀ w, Calls Try.prog 59 #[.agg #[.string gn, .int .i64 gw, .int .i64 gs]] w (Rets w (.int .i64 0))) := Lib.hid (fun w => by have h := rwidth_any ⟨gn, gw, gs⟩ w; rw [show Rg.wid ⟨gn, gw, gs⟩ = 0 by unfold Rg.wid; rw [hk]; rfl] at h; exact h)
          clear hb hgk hlk hyn h5 hk
          go_wp2_with fail
          refine (HH.out _ grows).mono ?_
          rintro e w3 ⟨rfl, x3⟩
          have s3 := Step.mk x3
          go_wp2_with fail
          refine (HM.out _).mono ?_
          rintro e w4 ⟨rfl, x4⟩
          have s4 := Step.mk x4
          go_wp2_with fail
          go_ret
          rw [HF.out]
          exact tab_ret grows ((HT2.out.ext (grows (a := v1))).base (by omega))
        | true =>
          have HF := Lib.hid (Rg.write_yes (x := x) hb hgk hlk hk)
          have hw := Bv.ok_iff.1 hk
          obtain ⟨m, rfl⟩ := Int.eq_ofNat_of_zero_le (show 0 ≤ gw by omega)
          have HM : Hid (∀ w, Calls Try.prog 59 #[.agg #[.string gn, .int .i64 (m : Int), .int .i64 gs]] w (Rets w (.int .i64 (m : Int)))) := Lib.hid (fun w => by have h := rwidth_any ⟨gn, (m : Int), gs⟩ w; rw [show Rg.wid ⟨gn, (m : Int), gs⟩ = m by unfold Rg.wid; rw [if_pos hk]] at h; exact h)
          have hm0 : ((m : Int) == 0) = false := by rw [beq_eq_false_iff_ne]; omega
          have HRD : Hid (Bv.red x (m : Int) = x % 2 ^ m) := Lib.hid (by rw [red_pow hk, Int.toNat_natCast])
          have HRB := Lib.hid (Rg.red_bd (x := x) (w := (m : Int)))
          obtain ⟨G, oc2, g2, c2, he2, hvk, z1, z2, z3, z4, z5, z6, z7, z8, z9⟩ := HT2.out.cellAt hlk hyn
          simp only [Value.slice.injEq, true_and] at he2
          obtain ⟨rfl, rfl⟩ := he2
          unfold maxLen at z6 z7
          have HVK := Lib.hid hvk
          have HLK := Lib.hid hlk
          obtain ⟨hw1, hw2⟩ := hw
          clear hb hgk hlk hyn h5 hk hvk
          go_wp2_with fail
          refine (HH.out _ grows).mono ?_
          rintro e w3 ⟨rfl, x3⟩
          have s3 := Step.mk x3
          go_wp2_with fail
          refine (HM.out _).mono ?_
          rintro e w4 ⟨rfl, x4⟩
          have s4 := Step.mk x4
          go_wp2_with fail
          go_loopw [13, 14] (fun t i wr => ∃ j : Nat, j ≤ m ∧ i = .int .i64 j ∧ t = .int .u64 (2 ^ j) ∧ wr = w4) (fun _ i _ => m - (intOf i).toNat)
          case atStart => exact ⟨0, Nat.zero_le _, rfl, rfl, rfl⟩
          case round =>
            obtain ⟨j, hj, rfl, rfl, rfl⟩ := hrel
            by_cases hjl : j < m
            · have hp : (2 : Int) ^ j ≤ 2 ^ 31 := by exact_mod_cast Nat.pow_le_pow_right (by decide : 0 < 2) (show j ≤ 31 by omega)
              have hp0 : (0 : Int) < 2 ^ j := Int.pow_pos (by decide)
              have hps : (2 : Int) ^ (j + 1) = 2 * 2 ^ j := by rw [Int.pow_succ]; omega
              have HPS := Lib.hid hps
              clear hps
              obtain ⟨p, hp'⟩ : ∃ p, p = (2 : Int) ^ j := ⟨_, rfl⟩
              rw [← hp'] at hp hp0 HPS ⊢
              have hp2 : p ≤ 2147483648 := by omega
              clear hp' hp
              go_wp2_with fail
              go_roundw
              case rel => exact ⟨j + 1, by omega, by go_num, by rw [HPS.out], (by first | exact rfl | trivial)⟩
              case measure => simp [intOf]; omega
            · obtain rfl : j = m := by omega
              have hp : (2 : Int) ^ j ≤ 2 ^ 32 := by exact_mod_cast Nat.pow_le_pow_right (by decide : 0 < 2) (show j ≤ 32 by omega)
              have hp0 : (0 : Int) < 2 ^ j := Int.pow_pos (by decide)
              obtain ⟨p, hp'⟩ : ∃ p, p = (2 : Int) ^ j := ⟨_, rfl⟩
              rw [← hp'] at hp hp0 HRD ⊢
              have hp2 : p ≤ 4294967296 := by omega
              clear hp' hp
              go_wp2_with fail
              refine wp_region_later_tail 11 (by kernel_rfl) (by kernel_rfl) (Ext.refl _) ?_
              simp only [List.take_succ_cons, List.take_zero, List.drop_succ_cons, List.drop_zero]
              repeat (go_big_quiet_step (fail))
              refine wpQuiet_nil ?_
              intro w5 x5
              have s5 := Step.mk x5
              have gr : Ext v1 w5 := grows
              have gw : Ext W w5 := grows
              have h := Tab.setCell (j := n) (x := Bv.red x (j : Int)) (HT2.out.ext gr) HVK.out HLK.out HRB.out
              go_wp2_with fail
              go_ret
              have e : x % p % 4294967296 = Bv.red x (j : Int) := by rw [← HRD.out]; exact Int.emod_eq_of_lt HRB.out.1 HRB.out.2
              rw [HF.out, e]
              exact tab_ret (Ext.setCell gw (by show W.heap.size ≤ g2; omega) _) (h.base (by omega))
end Go.Proofs.Ytnmamcplbeiehaa
