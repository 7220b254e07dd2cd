/- Registers: the law Fresh, walked. No condition. -/
import Derived.Test.YtnmamcplbeiehaaRg16
namespace Go.Proofs.Ytnmamcplbeiehaa
open Go.RowKit

namespace Rg
theorem write_len {rs : List Reg} {c : List (List Int)} {r i x : Int} (hi : 0 ≤ i) : (write rs c r i x).length = c.length ∧ (∀ (j : Nat) (l m : List Int), (write rs c r i x)[j]? = some l → c[j]? = some m → l.length = m.length) ∧
    (∀ (j t : Nat) (l m : List Int), (write rs c r i x)[j]? = some l → c[j]? = some m → ¬ ((j : Int) = r ∧ (t : Int) = i) → l[t]? = m[t]?) := by
  cases hb : has rs c r i
  · rw [write_no hb]
    refine ⟨rfl, fun j l m h1 h2 => ?_, fun j t l m h1 h2 _ => ?_⟩
    · obtain rfl := Option.some.inj (h1.symm.trans h2); rfl
    · obtain rfl := Option.some.inj (h1.symm.trans h2); rfl
  · obtain ⟨k, n, g, l0, y, rfl, rfl, hg, hl, hy, _⟩ := has_get hb hi
    cases hk : Bv.ok g.w
    · rw [write_zero hg hk]
      refine ⟨rfl, fun j l m h1 h2 => ?_, fun j t l m h1 h2 _ => ?_⟩
      · obtain rfl := Option.some.inj (h1.symm.trans h2); rfl
      · obtain rfl := Option.some.inj (h1.symm.trans h2); rfl
    · rw [write_yes hb hg hl hk]
      have hkl := (List.getElem?_eq_some_iff.1 hl).1
      refine ⟨by rw [List.length_set], fun j l m h1 h2 => ?_, fun j t l m h1 h2 hn => ?_⟩
      · by_cases hj : k = j
        · subst hj
          rw [List.getElem?_set_self hkl] at h1
          obtain rfl := Option.some.inj h1
          obtain rfl := Option.some.inj (hl.symm.trans h2)
          rw [List.length_set]
        · rw [List.getElem?_set_ne hj] at h1
          obtain rfl := Option.some.inj (h1.symm.trans h2); rfl
      · by_cases hj : k = j
        · subst hj
          rw [List.getElem?_set_self hkl] at h1
          obtain rfl := Option.some.inj h1
          obtain rfl := Option.some.inj (hl.symm.trans h2)
          rw [List.getElem?_set_ne (by intro e; exact hn ⟨rfl, by rw [e]⟩)]
        · rw [List.getElem?_set_ne hj] at h1
          obtain rfl := Option.some.inj (h1.symm.trans h2); rfl
end Rg
set_option maxRecDepth 8000 in
set_option maxHeartbeats 8000000 in
theorem registerFresh_walk (v0 v1 v2 : Value) (W : World) {b0 b1 b2 : Nat} {r0 r1 r2 : Reach} {H : Type} {enc : TypeId × Value → H} {d0 d1 d2 : DataW H} {p0 p1 p2 : List MemPlace}
    (ok0 : Value.okWide Try.prog W r0 b0 76 v0) (h0 : DataW.Trod enc Try.prog W 0 (fun _ => true) true 76 v0 d0 p0)
    (ok1 : Value.okWide Try.prog W r1 b1 77 v1) (h1 : DataW.Trod enc Try.prog W 0 (fun _ => true) true 77 v1 d1 p1)
    (ok2 : Value.okWide Try.prog W r2 b2 84 v2) (h2 : DataW.Trod enc Try.prog W 0 (fun _ => true) true 84 v2 d2 p2) :
    Calls Try.prog 12 #[v0, v1, v2] W (Rets W (.bool true)) := by
  obtain ⟨s, a1, n1, m1, a2, n2, m2, a3, m3, a4, n4, m4, a5, n5, m5, a6, n6, m6, a7, n7, m7, a8, n8, m8, rs, rfl, hr⟩ := rprog_take ok0 h0
  obtain ⟨ls, hls⟩ := tab_take ok1 h1
  obtain ⟨r, i, x, rfl, hrb, hib, hxb⟩ := acc_take ok2 h2
  obtain ⟨lo, lc, rfl, la, ma⟩ := hls.slice
  unfold maxLen at ma
  unfold Rg.B64 at hrb
  clear ok0 h0 ok1 h1 ok2 h2 d0 d1 d2
  have HR := Lib.hid hr
  have HL := Lib.hid hls
  have bb := alloc_heap W (.cells #[.string s, .slice a1 n1 m1, .slice a2 n2 m2, .slice a3 rs.length m3, .slice a4 n4 m4, .slice a5 n5 m5, .slice a6 n6 m6, .slice a7 n7 m7, .slice a8 n8 m8] 76)
  have p0 := alw (cell_of (o := 0) bb)
  have p1 := alw (cell_of (o := 1) bb)
  have p2 := alw (cell_of (o := 2) bb)
  have p3 := alw (cell_of (o := 3) bb)
  have p4 := alw (cell_of (o := 4) bb)
  have p5 := alw (cell_of (o := 5) bb)
  have p6 := alw (cell_of (o := 6) bb)
  have p7 := alw (cell_of (o := 7) bb)
  have p8 := alw (cell_of (o := 8) bb)
  clear bb
  have bx := alloc_heap (W.alloc (.cells #[.string s, .slice a1 n1 m1, .slice a2 n2 m2, .slice a3 rs.length m3, .slice a4 n4 m4, .slice a5 n5 m5, .slice a6 n6 m6, .slice a7 n7 m7, .slice a8 n8 m8] 76)) (.cells #[.int .i64 r, .int .u32 i, .int .u32 x] 84)
  rw [World.size_alloc] at bx
  have q0 := alw (cell_of (o := 0) bx)
  have q1 := alw (cell_of (o := 1) bx)
  have q2 := alw (cell_of (o := 2) bx)
  clear bx
  obtain ⟨ta, hta⟩ : ∃ t, t = Rg.tooB rs ls := ⟨_, rfl⟩
  have HTA : Hid (∀ w, Ext W w → Calls Try.prog 29 #[.agg #[.string s, .slice a1 n1 m1, .slice a2 n2 m2, .slice a3 rs.length m3, .slice a4 n4 m4, .slice a5 n5 m5, .slice a6 n6 m6, .slice a7 n7 m7, .slice a8 n8 m8], .slice lo ls.length lc] w (Rets w (.bool ta))) := Lib.hid (fun w hx => by have h := too_any (s := s) (a1 := a1) (n1 := n1) (m1 := m1) (a2 := a2) (n2 := n2) (m2 := m2) (a4 := a4) (n4 := n4) (m4 := m4) (a5 := a5) (n5 := n5) (m5 := m5) (a6 := a6) (n6 := n6) (m6 := m6) (a7 := a7) (n7 := n7) (m7 := m7) (a8 := a8) (n8 := n8) (m8 := m8) (HR.out.ext (fun _ _ h => h.ext hx) hx) (HL.out.ext (fun _ _ h => h.ext hx) hx); rw [← hta] at h; exact h)
  clear hr hls
  cases ta with
  | true =>
    clear hta
    go_enter Try.func12, Try.ntmps12
    go_wp2_with fail
    refine (HTA.out _ grows).mono ?_
    rintro e w1 ⟨rfl, xw1⟩
    have sw1 := Step.mk xw1
    go_wp2_with fail
    refine (rworks_any _).mono ?_
    rintro e w5 ⟨rfl, x5⟩
    have s5 := Step.mk x5
    go_wp2_with fail
    go_ret
    exact ⟨rfl, grows⟩
  | false =>
    obtain ⟨l1, h8, h100⟩ := Rg.too_len hta.symm
    have H100 := Lib.hid h100
    clear hta h100
    go_enter Try.func12, Try.ntmps12
    go_wp2_with fail
    refine (HTA.out _ grows).mono ?_
    rintro e w1 ⟨rfl, xw1⟩
    have sw1 := Step.mk xw1
    go_wp2_with fail
    go_loopw [7, 8] (fun o q wr => ∃ k : Nat, k ≤ ls.length ∧ q = .int .i64 k ∧ ∃ oa oc, o = .slice oa k oc ∧ Hid (Ext w1 wr ∧ ∃ vs, Tab w1.heap.size wr (.slice oa k oc) vs (ls.take k))) (fun _ q _ => ls.length - (intOf q).toNat)
    case atStart => exact ⟨0, Nat.zero_le _, rfl, none, 0, rfl, Lib.hid ⟨Ext.refl _, [], Tab.nil⟩⟩
    case round =>
      obtain ⟨k, hk, rfl, oa, oc, rfl, HI⟩ := hrel
      obtain ⟨v1, rfl⟩ : ∃ v1 : World, v1 = wr := ⟨_, rfl⟩
      obtain ⟨hx, vs, ht⟩ := HI.out
      have sx := Step.mk hx
      have HT := Lib.hid ht
      have HX := Lib.hid hx
      have hsz := hx.le
      have HLK := Lib.hid (take_len hk)
      by_cases hlt : k < ls.length
      · obtain ⟨l, hlk⟩ : ∃ x, ls[k]? = some x := ⟨_, List.getElem?_eq_getElem hlt⟩
        obtain ⟨b1, o1, hb1, _, _⟩ := Rows.at HL.out (by omega)
        subst hb1
        obtain ⟨la1, lc1, f1, n1, u1⟩ := rows_at HL.out k l hlk rfl
        have hl1 := H100.out l (List.mem_of_getElem? hlk)
        have HTK := Lib.hid (take_at hlk)
        have HU1 := Lib.hid u1
        have hown := ht.2.1
        rw [HLK.out] at hown
        have HOW := Lib.hid hown
        have HO0 := Lib.hid (own_empty (B := w1.heap.size) (w := v1) hsz)
        have HS0 := Lib.hid (n1.1.ext ((grows (a := W) (b := v1)).alloc (.cells #[] 23)))
        clear ht hx HI hlk n1 u1 hown
        go_wp2_with (first
          | (at_builtin; refine wpList_append_fresh rfl (.tmp 23) (.tmp 27) 90 rfl w1.heap.size 23 (.int .u32 0) 1 4 Try.underlying90 info_u32 rfl (by decide) (.slice (some ⟨v1.heap.size, 0, none⟩) 0 0) 0 [] rfl HO0.out (.slice la1 l.length lc1) l.length (l.map (.int .u32)) rfl HS0.out (by unfold maxLen; omega) (by omega) (by simp; omega) ?_; intro v2 w2 hv2 hg2 hd2; rw [Nat.zero_add, List.nil_append] at hv2; obtain ⟨oa2, oc2, he2⟩ := own_slice hv2; subst he2; have gx : Ext v1 w2 := ext_grown ((Ext.refl v1).alloc _) hg2 (fun q hq => by simp only [Value.ownBlock, Option.some.injEq] at hq; omega); have HGX := Lib.hid gx; have HV2 := Lib.hid hv2; have HD2 := Lib.hid hd2; have HO1 := Lib.hid (own_ext HOW.out (gx.alloc (.cells #[.slice oa2 l.length oc2] 90))); have HS1 := Lib.hid (src_one w2 (.slice oa2 l.length oc2) 90 rfl); have hsz2 := gx.le; clear hv2 hg2 hd2 gx)
          | (at_builtin; refine wpList_append_src rfl (.tmp 22) (.tmp 29) 77 rfl w1.heap.size 90 (.slice none 0 0) 1 24 Try.underlying77 info_u32s rfl (by decide) (.slice oa k oc) k vs rfl HO1.out _ 1 [.slice oa2 l.length oc2] rfl HS1.out (by unfold maxLen; omega) (by omega) (by simp; omega) ?_; intro v3 w3 hv3 hg3 _; obtain ⟨oa3, oc3, he3⟩ := own_slice hv3; subst he3; have HV3 := Lib.hid hv3; have HG3 := Lib.hid hg3; clear hv3 hg3))
        go_roundw
        case rel =>
          refine ⟨k + 1, by omega, by go_num, oa3, oc3, rfl, Lib.hid ⟨ext_grown ((HX.out.trans HGX.out).alloc _) HG3.out (fun q hq => own_ge HOW.out hq), vs ++ [.slice oa2 l.length oc2], ?_⟩⟩
          rw [HTK.out]
          refine Tab.push (w := w2.alloc (.cells #[.slice oa2 l.length oc2] 90)) (HT.out.ext (HGX.out.alloc _)) (own_ext HV2.out ((Ext.refl _).alloc _)) HU1.out (fun j u q hu hq e => ?_) (by rw [HLK.out]; exact HV3.out) HG3.out
          have h1 := HT.out.lt hu hq
          rcases HD2.out with h2 | h2
          · rw [e] at h2; simp only [Value.ownBlock, Option.some.injEq] at h2; omega
          · have h3 := h2 q e; rw [World.size_alloc] at h3; omega
        case measure => simp [intOf]; omega
      · obtain rfl : k = ls.length := by omega
        have ht2 := HT.out
        rw [List.take_length] at ht2
        have TO := Lib.hid ht2.rows
        have hib1 := hib.1
        have hib2 := hib.2
        obtain ⟨N, hN⟩ : ∃ N, N = Rg.write rs ls r i x := ⟨_, rfl⟩
        have hwl := Rg.write_len (rs := rs) (c := ls) (r := r) (x := x) hib1
        rw [← hN] at hwl
        obtain ⟨nl, nl2, nl3⟩ := hwl
        have HWR : Hid (∀ w, Ext v1 w → Calls Try.prog 38 #[.agg #[.string s, .slice a1 n1 m1, .slice a2 n2 m2, .slice a3 rs.length m3, .slice a4 n4 m4, .slice a5 n5 m5, .slice a6 n6 m6, .slice a7 n7 m7, .slice a8 n8 m8], .slice oa ls.length oc, .int .i64 r, .int .u32 i, .int .u32 x] w (TabP w N)) := Lib.hid (fun w hx => by have h := write_any (s := s) (a1 := a1) (n1 := n1) (m1 := m1) (a2 := a2) (n2 := n2) (m2 := m2) (a4 := a4) (n4 := n4) (m4 := m4) (a5 := a5) (n5 := n5) (m5 := m5) (a6 := a6) (n6 := n6) (m6 := m6) (a7 := a7) (n7 := n7) (m7 := m7) (a8 := a8) (n8 := n8) (m8 := m8) (HR.out.ext (fun _ _ h => h.ext ((grows (a := W) (b := v1)).trans hx)) ((grows (a := W) (b := v1)).trans hx)) (TO.out.ext (fun _ _ h => h.ext hx) hx) h8 H100.out r i x hib.1 hib.2 hxb.1 hxb.2; rw [← hN] at h; exact h)
        have nle : N.length ≤ ls.length := by omega
        have nge : ls.length ≤ N.length := by omega
        have nne : ((N.length : Int) != (ls.length : Int)) = false := by simp [nl]
        have NL2 := Lib.hid nl2
        have NL3 := Lib.hid nl3
        clear ht hx HI ht2 HT HLK hN nl nl2 nl3
        go_wp2_with fail
        refine (HWR.out _ (Ext.refl _)).mono ?_
        rintro e w3 ⟨v3, vs3, rfl, x3, t3⟩
        have s3 := Step.mk x3
        have T3 := Lib.hid t3
        have HX3 := Lib.hid x3
        obtain ⟨oa3, oc3, rfl⟩ := tab_slice t3
        have m3' : N.length ≤ 8 := by omega
        clear t3
        go_wp2_with fail
        go_loopw [10] (fun q wr => ∃ k : Nat, k ≤ N.length ∧ q = .int .i64 k ∧ Hid (Ext v1 wr ∧ ∃ cur, Tab v1.heap.size wr (.slice oa3 N.length oc3) vs3 cur ∧ cur.length = N.length ∧ ∀ j, k ≤ j → cur[j]? = N[j]?)) (fun q _ => N.length - (intOf q).toNat)
        case atStart => exact ⟨0, Nat.zero_le _, rfl, Lib.hid ⟨HX3.out, N, T3.out, rfl, fun _ _ => rfl⟩⟩
        case round =>
          obtain ⟨k, hk, rfl, HI⟩ := hrel
          obtain ⟨v3, rfl⟩ : ∃ v3 : World, v3 = wr := ⟨_, rfl⟩
          obtain ⟨hx, cur, ht, hcl, hcu⟩ := HI.out
          have sy := Step.mk hx
          have HXV := Lib.hid hx
          by_cases hlt : k < N.length
          · obtain ⟨l, hNk⟩ : ∃ x, N[k]? = some x := ⟨_, List.getElem?_eq_getElem hlt⟩
            obtain ⟨m, hmk⟩ : ∃ x, ls[k]? = some x := ⟨_, List.getElem?_eq_getElem (by omega)⟩
            have hlm := NL2.out k l m hNk hmk
            have hck : cur[k]? = some l := (hcu k (Nat.le_refl _)).trans hNk
            obtain ⟨u, hu, ho, _⟩ := ht.row hck
            obtain ⟨G, c', hG⟩ : ∃ G c', Value.slice oa3 N.length oc3 = .slice (some ⟨G, 0, none⟩) N.length c' := by
              obtain ⟨G, c', hG, _⟩ := own_cell ht.2.1 (by intro e; rw [e] at hu; simp at hu)
              rw [hcl] at hG
              exact ⟨G, c', hG⟩
            simp only [Value.slice.injEq, true_and] at hG
            obtain ⟨rfl, rfl⟩ := hG
            obtain ⟨ou, cu, rfl⟩ := own_slice ho
            obtain ⟨u', hu', z1, _⟩ := ht.at (k := k) (by rw [hcl]; exact hlt)
            obtain rfl := Option.some.inj (hu.symm.trans hu')
            obtain ⟨b1, o1, hb1, _, _⟩ := Rows.at HL.out (by omega)
            subst hb1
            obtain ⟨la1, lc1, f1, n1, u1⟩ := rows_at HL.out k m hmk rfl
            have mm1 := n1.2
            have ml1 := own_max ho
            unfold maxLen at mm1 ml1
            have hle : l.length ≤ m.length := by omega
            have hge : m.length ≤ l.length := by omega
            have hne : ((l.length : Int) != (m.length : Int)) = false := by simp [hlm]
            have HVK0 := Lib.hid hu
            have HN1 := Lib.hid n1
            have HU1 := Lib.hid u1
            have HN3 : Hid (∀ t : Nat, ¬ ((k : Int) = r ∧ (t : Int) = i) → l[t]? = m[t]?) := Lib.hid (fun t h => NL3.out k t l m hNk hmk h)
            have HNK := Lib.hid hNk
            have HT3 := Lib.hid ht
            have HCL3 := Lib.hid hcl
            have HCU3 := Lib.hid hcu
            have HCK3 := Lib.hid hck
            clear ht hx HI hcl hcu hNk hmk hlm hck hu hu' ho n1 u1
            go_wp2_with fail
            refine wp_region_later (by kernel_rfl) (by kernel_rfl) (Ext.refl _) ?_
            repeat (go_big_quiet_step (fail))
            refine wpQuiet_nil ?_
            intro w5 hxw5
            have sw5 := Step.mk hxw5
            go_wp2_with fail
            go_loopw [11] (fun q wr => ∃ t : Nat, t ≤ l.length ∧ q = .int .i64 t ∧ Hid (Ext v1 wr ∧ ∃ cur l', Tab v1.heap.size wr (.slice (some ⟨G, 0, none⟩) N.length oc3) vs3 cur ∧ cur.length = N.length ∧ (∀ j, k < j → cur[j]? = N[j]?) ∧ cur[k]? = some l' ∧ l'.length = l.length ∧ ∀ j, t ≤ j → l'[j]? = l[j]?)) (fun q _ => l.length - (intOf q).toNat)
            case atStart => exact ⟨0, Nat.zero_le _, rfl, Lib.hid ⟨HXV.out.trans hxw5, cur, l, HT3.out.ext hxw5, HCL3.out, fun j hj => HCU3.out j (by omega), HCK3.out, rfl, fun _ _ => rfl⟩⟩
            case round =>
              obtain ⟨t, htl, rfl, HI⟩ := hrel
              obtain ⟨v4, rfl⟩ : ∃ v4 : World, v4 = wr := ⟨_, rfl⟩
              obtain ⟨hx, cur, l', ht, hcl, hcu, hck, hll, hlj⟩ := HI.out
              have sz := Step.mk hx
              obtain ⟨u', hu', z2, _⟩ := ht.at (k := k) (by rw [hcl]; exact hlt)
              obtain rfl := Option.some.inj (HVK0.out.symm.trans hu')
              have HX4 := Lib.hid hx
              have HCL := Lib.hid hcl
              have HCU := Lib.hid hcu
              by_cases htt : t < l.length
              · obtain ⟨y, hyt⟩ : ∃ y, l[t]? = some y := ⟨_, List.getElem?_eq_getElem htt⟩
                obtain ⟨y2, hyt2⟩ : ∃ y, m[t]? = some y := ⟨_, List.getElem?_eq_getElem (by omega)⟩
                have hyl : l'[t]? = some y := (hlj t (Nat.le_refl _)).trans hyt
                obtain ⟨G', c', g2, c2, e1, e2, z3, z4, z5, hg2, -⟩ := ht.cellAt hck hyl
                have e3 := Option.some.inj (hu'.symm.trans e2)
                simp only [Value.slice.injEq] at e3
                obtain ⟨rfl, -, rfl⟩ := e3
                obtain ⟨b3, o3, hb3, c3⟩ := ns_at HN1.out (by omega)
                subst hb3
                have f2 := c3 t y2 hyt2
                obtain ⟨_, _, _, hyu⟩ := ht.row hck
                have hy32 := hyu y (List.mem_of_getElem? hyl)
                obtain ⟨hy0, hy1⟩ := hy32
                have hvk' := HVK0.out
                have HVK : Hid (vs3[k]? = some (.slice (some ⟨g2, 0, none⟩) l.length cu)) := Lib.hid hvk'
                have HT4 := Lib.hid ht
                have HCK := Lib.hid hck
                have HLL := Lib.hid hll
                have HLJ := Lib.hid hlj
                have HEQ : Hid (¬ ((k : Int) = r ∧ (t : Int) = i) → y = y2) := Lib.hid (fun h => by have h1 := HN3.out t h; rw [hyt, hyt2] at h1; exact Option.some.inj h1)
                clear hvk' hx HI ht hcl hcu hck hll hlj hu' hyt hyt2 hyl e1 e2 z3 c3 hyu
                by_cases q1 : (k : Int) = r
                · by_cases q2 : (t : Int) = i
                  · have d1 : ((k : Int) != r) = false := by simp [q1]
                    have d2 : ((t : Int) != i) = false := by simp [q2]
                    clear q1 q2
                    go_wp2_with fail
                    refine wp_region_later (by kernel_rfl) (by kernel_rfl) (Ext.refl _) ?_
                    repeat (go_big_quiet_step (fail))
                    refine wpQuiet_nil ?_
                    intro w7 hxw7
                    have sw7 := Step.mk hxw7
                    go_wp2_with fail
                    go_roundw
                    case rel =>
                      have gr : Ext v4 w7 := hxw7
                      have h := Tab.setCell (j := t) (x := (y + 7) % 4294967296) (HT4.out.ext gr) HVK.out HCK.out ⟨by omega, by omega⟩
                      exact ⟨t + 1, by omega, by go_num, Lib.hid ⟨(HX4.out.trans gr).setCell (p := ⟨g2, t, none⟩) hg2 _, cur.set k (l'.set t ((y + 7) % 4294967296)), l'.set t ((y + 7) % 4294967296), h, by rw [List.length_set]; exact HCL.out, fun j hj => by rw [List.getElem?_set_ne (by omega)]; exact HCU.out j hj, List.getElem?_set_self (List.getElem?_eq_some_iff.1 HCK.out).1, by rw [List.length_set]; exact HLL.out, fun j hj => by rw [List.getElem?_set_ne (by omega)]; exact HLJ.out j (by omega)⟩⟩
                    case measure => simp [intOf]; omega
                  · have d1 : ((k : Int) != r) = false := by simp [q1]
                    have d2 : ((t : Int) != i) = true := by simp [q2]
                    obtain rfl : y = y2 := HEQ.out (fun h => q2 h.2)
                    clear q1 q2
                    go_wp2_with fail
                    refine wp_region_later (by kernel_rfl) (by kernel_rfl) (Ext.refl _) ?_
                    repeat (go_big_quiet_step (fail))
                    refine wpQuiet_nil ?_
                    intro w7 hxw7
                    have sw7 := Step.mk hxw7
                    go_wp2_with fail
                    go_roundw
                    case rel =>
                      have gr : Ext v4 w7 := hxw7
                      have h := Tab.setCell (j := t) (x := (y + 7) % 4294967296) (HT4.out.ext gr) HVK.out HCK.out ⟨by omega, by omega⟩
                      exact ⟨t + 1, by omega, by go_num, Lib.hid ⟨(HX4.out.trans gr).setCell (p := ⟨g2, t, none⟩) hg2 _, cur.set k (l'.set t ((y + 7) % 4294967296)), l'.set t ((y + 7) % 4294967296), h, by rw [List.length_set]; exact HCL.out, fun j hj => by rw [List.getElem?_set_ne (by omega)]; exact HCU.out j hj, List.getElem?_set_self (List.getElem?_eq_some_iff.1 HCK.out).1, by rw [List.length_set]; exact HLL.out, fun j hj => by rw [List.getElem?_set_ne (by omega)]; exact HLJ.out j (by omega)⟩⟩
                    case measure => simp [intOf]; omega
                · have d1 : ((k : Int) != r) = true := by simp [q1]
                  obtain rfl : y = y2 := HEQ.out (fun h => q1 h.1)
                  clear q1
                  go_wp2_with fail
                  refine wp_region_later (by kernel_rfl) (by kernel_rfl) (Ext.refl _) ?_
                  repeat (go_big_quiet_step (fail))
                  refine wpQuiet_nil ?_
                  intro w7 hxw7
                  have sw7 := Step.mk hxw7
                  go_wp2_with fail
                  go_roundw
                  case rel =>
                    have gr : Ext v4 w7 := hxw7
                    have h := Tab.setCell (j := t) (x := (y + 7) % 4294967296) (HT4.out.ext gr) HVK.out HCK.out ⟨by omega, by omega⟩
                    exact ⟨t + 1, by omega, by go_num, Lib.hid ⟨(HX4.out.trans gr).setCell (p := ⟨g2, t, none⟩) hg2 _, cur.set k (l'.set t ((y + 7) % 4294967296)), l'.set t ((y + 7) % 4294967296), h, by rw [List.length_set]; exact HCL.out, fun j hj => by rw [List.getElem?_set_ne (by omega)]; exact HCU.out j hj, List.getElem?_set_self (List.getElem?_eq_some_iff.1 HCK.out).1, by rw [List.length_set]; exact HLL.out, fun j hj => by rw [List.getElem?_set_ne (by omega)]; exact HLJ.out j (by omega)⟩⟩
                  case measure => simp [intOf]; omega
              · obtain rfl : t = l.length := by omega
                clear hlj hck hll hcl hcu
                have HT4 := Lib.hid ht
                clear ht hx HI
                go_wp2_with fail
                go_roundw
                case rel => exact ⟨k + 1, by omega, by go_num, Lib.hid ⟨HX4.out, cur, HT4.out, HCL.out, fun j hj => HCU.out j (by omega)⟩⟩
                case measure => simp [intOf]; omega
          · obtain rfl : k = N.length := by omega
            clear ht hcl hcu HI
            have HE : Hid (∀ w, Ext v3 w → Calls Try.prog 30 #[.slice oa ls.length oc, .slice lo ls.length lc] w (Rets w (.bool true))) := Lib.hid (fun w hw => by have h := refequal_any (TO.out.ext (fun _ _ h => h.ext (HXV.out.trans hw)) (HXV.out.trans hw)) (HL.out.ext (fun _ _ h => h.ext ((grows (a := W) (b := v3)).trans hw)) ((grows (a := W) (b := v3)).trans hw)); rw [decide_eq_true rfl] at h; exact h)
            go_wp2_with fail
            refine (HE.out _ (Ext.refl _)).mono ?_
            rintro e w6 ⟨rfl, xw6⟩
            have sw6 := Step.mk xw6
            go_wp2_with fail
            refine (rworks_any _).mono ?_
            rintro e w7 ⟨rfl, xw7⟩
            have sw7 := Step.mk xw7
            go_wp2_with fail
            go_ret
            exact ⟨rfl, grows⟩
end Go.Proofs.Ytnmamcplbeiehaa
