/- Tries of prefixes: Insert of the reference, accepted, walked. No condition. -/
import Derived.Test.YteefchbpojcklaaLp14
namespace Go.Proofs.Yteefchbpojcklaa
open Go.RowKit

theorem itemsC_single (a : Lp.Item) : itemsC [a] = itemC a := by simp [itemsC]
theorem cons_items {w : World} {B n : Nat} {v : Value} {xs : List Value} {a : Lp.Item} {l : List Lp.Item} (h : w.ownsRow B 70 3 v n (xs ++ itemC a ++ itemsC l)) : w.ownsRow B 70 3 v n (xs ++ itemsC (a :: l)) := by
  rw [List.append_assoc] at h; exact h
theorem src_item (w : World) (a : Lp.Item) : Src (w.alloc (.cells #[.int .u32 a.1, .int .i64 a.2.1, .int .i64 a.2.2] 70)) (.slice (some ⟨w.heap.size, 0, none⟩) 1 1) 3 1 (itemC a) :=
  ⟨rfl, by simp [itemC, Value.oneCell'], .inr ⟨_, 1, rfl, fun j u hj => by rw [add_mk, Nat.zero_add, cell_of (alloc_heap _ _)]; simpa [itemC] using hj⟩⟩
set_option maxRecDepth 8000 in
set_option maxHeartbeats 8000000 in
theorem r9insert_some {W : World} {w B gl lc : Nat} (h1 : 1 ≤ w) (h2 : w ≤ 32) {L : List Lp.Item} (hr : OwnI W B (.slice (some ⟨gl, 0, none⟩) L.length lc) L) (hl : L.length ≤ 1000) (v : Nat) (hv : v < 4294967296) (m : Nat) (x : Int) (hm : m ≤ w) (hf : v < 2 ^ w) (hfd : Lp.fndI L w v m = -1) :
    Calls Try.prog 11 #[.agg #[.int .i64 w, .slice (some ⟨gl, 0, none⟩) L.length lc], .int .u32 v, .int .i64 m, .int .i64 x] W (InsQ W L w v m x) := by
  have hpt : Lp.pfx w v m = true := Lp.pfx_iff.2 ⟨⟨by omega, by omega⟩, hf⟩
  have HF : Hid (∀ w', Calls Try.prog 23 #[.int .u32 v, .int .i64 w] w' (Rets w' (.bool true))) := Lib.hid (fun w' => by have := r9fits_any (W := w') h1 h2 hv; rw [decide_eq_true hf] at this; exact this)
  have HFD : Hid (∀ w', Ext W w' → Calls Try.prog 24 #[.agg #[.int .i64 w, .slice (some ⟨gl, 0, none⟩) L.length lc], .int .u32 v, .int .i64 m] w' (Rets w' (.int .i64 (-1)))) := Lib.hid (fun w' hx => by have := r9find_any (la := (some ⟨gl, 0, none⟩)) (lc := lc) (L := L) h1 h2 (items_ext hr.rows hx) v hv m; rw [hfd] at this; exact this)
  have HM : Hid (∀ w', Calls Try.prog 18 #[.int .i64 m, .int .i64 w] w' (Rets w' (.int .u32 (Bv.pmask m w)))) := Lib.hid (fun w' => r9mask_any h1 h2 (by omega))
  have hand := Lp.and_trunc h1 h2 (show m ≤ w by omega) hf
  have hE : Lp.insLE L w v m = 0 := by unfold Lp.insLE; rw [hpt, hfd]; rfl
  have e0 : Lp.insLL L w v m x = Lp.ins L (Lp.trunc w v m, m, x) := by unfold Lp.insLL; rw [if_pos hE]; rfl
  obtain ⟨pm, hpm⟩ : ∃ z, z = Bv.pmask m w := ⟨_, rfl⟩
  obtain ⟨tv, htv⟩ : ∃ z, z = Lp.trunc w v m := ⟨_, rfl⟩
  rw [← hpm] at HM hand
  rw [← htv] at hand e0
  have HR := Lib.hid hr
  have HAND := Lib.hid hand
  unfold InsQ
  rw [e0, hE]
  have hlc : L.length ≤ lc := by
    obtain ⟨_, _, he, h1, _⟩ := HR.out.rows.slice
    simp only [Value.slice.injEq, true_and] at he
    rw [he.2]; exact h1
  obtain ⟨ps, hps⟩ : ∃ z, z = Lp.pos L (tv, m, x) := ⟨_, rfl⟩
  have hpl : ps ≤ L.length := by rw [hps]; exact Lp.pos_le _ _
  have HPL : Hid (∀ i, i < ps → ∃ a, L[i]? = some a ∧ Lp.ltb a (tv, m, x) = true) := Lib.hid (by rw [hps]; exact Lp.pos_lt _ _)
  have HPA : Hid (∀ a, L[ps]? = some a → Lp.ltb a (tv, m, x) = false) := Lib.hid (by rw [hps]; exact Lp.pos_at _ _)
  have HIN : Hid (Lp.ins L (tv, m, x) = L.take ps ++ (tv, m, x) :: L.drop ps) := Lib.hid (by rw [hps]; rfl)
  have hlen : (Lp.ins L (tv, m, x)).length = ps + 1 + (L.length - ps) := by rw [Lp.ins_len]; omega
  have HLEN := Lib.hid hlen
  rw [hlen]
  clear hlen hps
  have bb := alloc_heap W (.cells #[.int .i64 w, .slice (some ⟨gl, 0, none⟩) L.length lc] 32)
  have bc := alloc_heap (W.alloc (.cells #[.int .i64 w, .slice (some ⟨gl, 0, none⟩) L.length lc] 32)) (.cells #[.int .i64 0, .slice none 0 0] 32)
  rw [World.size_alloc] at bc
  have p0 := alw (cell_of (o := 0) bb)
  have p1 := alw (cell_of (o := 1) bb)
  have HBB := Lib.hid bb
  have HBC := Lib.hid bc
  have d0 : decide ((m : Int) < 0) = false := decide_eq_false (by omega)
  have d1 : decide (w < m) = false := decide_eq_false (by omega)
  clear bb bc hr hand hE e0 hpm htv hf hpt hfd
  go_enter Try.func11, Try.ntmps11
  go_wp2_with fail
  refine (HF.out _).mono ?_
  rintro e w1 ⟨rfl, x1⟩
  have s1 := Step.mk x1
  clear x1
  go_wp2_with fail
  refine (HFD.out _ grows).mono ?_
  rintro e w2 ⟨rfl, x2⟩
  have s2 := Step.mk x2
  clear x2
  go_wp2_with fail
  refine (HM.out _).mono ?_
  rintro e w3 ⟨rfl, x3⟩
  have s3 := Step.mk x3
  clear x3
  have hand := HAND.out
  go_upto_region 6 with (fail)
  have xW4 : Ext ((W.alloc (.cells #[.int .i64 w, .slice (some ⟨gl, 0, none⟩) L.length lc] 32)).alloc (.cells #[.int .i64 0, .slice none 0 0] 32)) (w3.alloc (.cells #[.int .u32 tv, .int .i64 m, .int .i64 x] 70)) := grows
  have hy := alloc_heap w3 (.cells #[.int .u32 tv, .int .i64 m, .int .i64 x] 70)
  obtain ⟨yg, hyg⟩ : ∃ z, z = w3.heap.size := ⟨_, rfl⟩
  obtain ⟨w4, h4⟩ : ∃ z, z = w3.alloc (.cells #[.int .u32 tv, .int .i64 m, .int .i64 x] 70) := ⟨_, rfl⟩
  rw [← h4] at xW4 hy ⊢
  rw [← hyg] at hy ⊢
  clear h4 hyg hand s1 s2 s3
  have s4 := Step.mk xW4
  have XW4 := Lib.hid xW4
  have HY := Lib.hid hy
  have y0 := alw (cell_of (o := 0) hy)
  have y1 := alw (cell_of (o := 1) hy)
  have y2 := alw (cell_of (o := 2) hy)
  clear xW4 hy
  go_wp2_with fail
  go_loopw [11] (fun i wr => ∃ k : Nat, k ≤ ps ∧ i = .int .i64 k ∧ Ext w4 wr) (fun i _ => ps - (intOf i).toNat)
  case atStart => exact ⟨0, Nat.zero_le _, rfl, Ext.refl _⟩
  case round =>
    obtain ⟨k, hk, rfl, hx⟩ := hrel
    have s5 := Step.mk hx
    have X5 := Lib.hid hx
    clear hx
    rcases Nat.lt_or_ge k ps with hkp | hkp
    · obtain ⟨⟨V, N, X⟩, ha, hlt⟩ := HPL.out k hkp
      obtain ⟨b, o, hbo, _, hat⟩ := items_at HR.out.rows (by omega)
      simp only [Option.some.injEq, Addr.mk.injEq, and_true] at hbo
      obtain ⟨rfl, rfl⟩ := hbo
      obtain ⟨q0, q1, _⟩ := hat k V N X ha
      rw [Nat.zero_add] at q0 q1
      have q0 := alw q0
      have q1 := alw q1
      have d3 : decide (k < L.length) = true := decide_eq_true (by omega)
      clear hat ha
      by_cases hV : V < tv
      · have z1 : decide (V < tv) = true := decide_eq_true hV
        clear hlt
        go_wp2_with fail
        refine wp_region_later (W := w4) (by kernel_rfl) (by kernel_rfl) grows ?_
        repeat (go_big_quiet_step (fail))
        refine wpQuiet_nil ?_
        intro w6 x6
        have s6 := Step.mk x6
        clear x6
        go_wp2_with fail
        go_roundw
        case rel => exact ⟨k + 1, by omega, by go_num, grows⟩
        case measure => simp [intOf]; omega
      · have z1 : decide (V < tv) = false := decide_eq_false hV
        obtain ⟨hV2, hN⟩ : V = tv ∧ N < m := by
          have := Lp.ltb_iff.1 hlt
          unfold Lp.lt at this
          dsimp only at this
          omega
        have z2 : ((V : Int) == (tv : Int)) = true := beq_iff_eq.2 (by omega)
        have z3 : decide (N < m) = true := decide_eq_true (by omega)
        clear hlt hV
        go_wp2_with fail
        refine wp_region_later (W := w4) (by kernel_rfl) (by kernel_rfl) grows ?_
        repeat (go_big_quiet_step (fail))
        refine wpQuiet_nil ?_
        intro w6 x6
        have s6 := Step.mk x6
        clear x6
        go_wp2_with fail
        go_roundw
        case rel => exact ⟨k + 1, by omega, by go_num, grows⟩
        case measure => simp [intOf]; omega
    · obtain rfl : k = ps := by omega
      have hdl : L.drop k = [] ∨ L.drop k ≠ [] := Classical.em _
      have XWW : Hid (Ext W w4) := Lib.hid grows
      by_cases hkl : k < L.length
      · obtain ⟨⟨V, N, X⟩, ha⟩ : ∃ a, L[k]? = some a := ⟨_, List.getElem?_eq_getElem hkl⟩
        have hlt := HPA.out _ ha
        obtain ⟨b, o, hbo, _, hat⟩ := items_at HR.out.rows (by omega)
        simp only [Option.some.injEq, Addr.mk.injEq, and_true] at hbo
        obtain ⟨rfl, rfl⟩ := hbo
        obtain ⟨q0, q1, _⟩ := hat k V N X ha
        rw [Nat.zero_add] at q0 q1
        have q0 := alw q0
        have q1 := alw q1
        have d3 : decide (k < L.length) = true := decide_eq_true hkl
        have hnl : ¬ Lp.lt (V, N, X) (tv, m, x) := fun h => by rw [Lp.ltb_iff.2 h] at hlt; cases hlt
        clear hat ha hlt
        have hcc : ¬ lc - k = 0 := by omega
        by_cases hV : V = tv
        · have z1 : decide (V < tv) = false := decide_eq_false (by omega)
          have z2 : ((V : Int) == (tv : Int)) = true := beq_iff_eq.2 (by omega)
          have z3 : decide (N < m) = false := decide_eq_false (fun h => hnl (.inr ⟨hV, h⟩))
          clear hnl hV
          go_wp2_with fail
          refine wp_region_later (W := w4) (by kernel_rfl) (by kernel_rfl) grows ?_
          repeat (go_big_quiet_step (fail))
          refine wpQuiet_nil ?_
          intro w6 x6
          have s6 := Step.mk x6
          have X6 := Lib.hid x6
          have hs1 : Src (w6.alloc (.cells #[] 70)) (.slice (some ⟨gl, 0, none⟩) k lc) 3 k (itemsC (L.take k)) := by
            have h := OwnI.take (k := k) (own_ext HR.out ((XWW.out.trans x6).alloc (.cells #[] 70))) (by omega)
            exact h
          have ho1 := own_lit w6 70 3
          have hz6 := x6.le
          have hzW := XWW.out.le
          clear x6
          go_wp2_with (at_builtin; refine wpList_append_src rfl (.tmp 83) (.tmp 87) 30 rfl w6.heap.size 70 _ 3 24 Try.underlying30 info_item rfl (by decide) _ 0 [] rfl ho1 _ k (itemsC (L.take k)) rfl hs1 ?c1 ?c2 ?c3 ?_)
          case c1 => unfold maxLen; omega
          case c2 => omega
          case c3 => first | omega | (rw [World.size_alloc]; omega)
          intro v7 w7 ho7 hg7 _
          obtain ⟨oa7, cc7, rfl⟩ := own_slice ho7
          have x67 : Ext w6 w7 := (((Ext.refl w6).alloc _).mod (grown_mod hg7) (fun q hq => own_ge ho1 hq.symm))
          have s7 := Step.mk x67
          have X67 := Lib.hid x67
          have hz7 := x67.le
          have HO7 : Hid (w7.ownsRow w6.heap.size 70 3 (.slice oa7 k cc7) k (itemsC (L.take k))) := Lib.hid (by simpa using ho7)
          clear x67 ho7 hg7 ho1 hs1
          have ho8 := own_ext HO7.out ((Ext.refl w7).alloc (.cells #[.int .u32 tv, .int .i64 m, .int .i64 x] 70))
          have hs8 := src_item w7 (tv, m, x)
          go_wp2_with (at_builtin; refine wpList_append_src rfl (.tmp 89) (.tmp 91) 30 rfl w6.heap.size 70 _ 3 24 Try.underlying30 info_item rfl (by decide) _ k (itemsC (L.take k)) rfl ho8 _ 1 (itemC (tv, m, x)) rfl hs8 ?c1 ?c2 ?c3 ?_)
          case c1 => unfold maxLen; omega
          case c2 => omega
          case c3 => first | omega | (rw [World.size_alloc]; omega)
          intro v8 w8 ho9 hg8 _
          obtain ⟨oa8, cc8, rfl⟩ := own_slice ho9
          have x68 : Ext w6 w8 := ((X67.out.alloc _).mod (grown_mod hg8) (fun q hq => own_ge ho8 hq.symm))
          have s8 := Step.mk x68
          have X68 := Lib.hid x68
          have hz8 := x68.le
          have HO8 : Hid (w8.ownsRow w6.heap.size 70 3 (.slice oa8 (k + 1) cc8) (k + 1) ((itemsC (L.take k)) ++ itemC (tv, m, x))) := Lib.hid ho9
          clear x68 ho9 hg8 ho8 hs8
          have hs9 : Src w8 (.slice (some ⟨gl, k * 3, none⟩) (L.length - k) (lc - k)) 3 (L.length - k) (itemsC (L.drop k)) := OwnI.drop (own_ext HR.out ((XWW.out.trans X6.out).trans X68.out)) (by omega)
          go_wp2_with (at_builtin; refine wpList_append_src rfl (.tmp 93) (.tmp 97) 30 rfl w6.heap.size 70 _ 3 24 Try.underlying30 info_item rfl (by decide) _ (k + 1) ((itemsC (L.take k)) ++ itemC (tv, m, x)) rfl HO8.out _ (L.length - k) (itemsC (L.drop k)) rfl hs9 ?c1 ?c2 ?c3 ?_)
          case c1 => unfold maxLen; omega
          case c2 => omega
          case c3 => omega
          intro v9 w9 ho10 hg9 _
          obtain ⟨oa9, cc9, rfl⟩ := own_slice ho10
          have x69 : Ext w6 w9 := (X68.out.mod (grown_mod hg9) (fun q hq => own_ge HO8.out hq.symm))
          have hbb9 : w9.heap[W.heap.size]? = some (.cells #[.int .i64 w, .slice (some ⟨gl, 0, none⟩) L.length lc] 32 (0, 0)) := x69.heap (X6.out.heap (XW4.out.heap (((Ext.refl _).alloc _).heap HBB.out)))
          have hbc9 : w9.heap[W.heap.size + 1]? = some (.cells #[.int .i64 0, .slice none 0 0] 32 (0, 0)) := x69.heap (X6.out.heap (XW4.out.heap HBC.out))
          have HO9 : Hid (w9.ownsRow w6.heap.size 70 3 (.slice oa9 (k + 1 + (L.length - k)) cc9) (k + 1 + (L.length - k)) ((itemsC (L.take k)) ++ itemC (tv, m, x) ++ (itemsC (L.drop k)))) := Lib.hid (by simpa using ho10)
          have X9 := Lib.hid ((XWW.out.trans X6.out).trans x69)
          clear ho10 hg9 x69 hs9 s8 s7 s6 s5 p0 p1 y0 y1 y2
          have p0 := cell_of (o := 0) hbb9
          have p1 := cell_of (o := 1) hbb9
          have f1 := free_of (o := 1) hbb9
          have hb4 : (w9.setCell ⟨W.heap.size, 1, none⟩ (.slice oa9 (k + 1 + (L.length - k)) cc9)).heap[W.heap.size]? = some (.cells #[.int .i64 w, .slice oa9 (k + 1 + (L.length - k)) cc9] 32 (0, 0)) := setCell_heap hbb9
          have m4 : Mod (· = W.heap.size) w9 (w9.setCell ⟨W.heap.size, 1, none⟩ (.slice oa9 (k + 1 + (L.length - k)) cc9)) := mod_set
          have hc4 := m4.heap hbc9 (by omega)
          have HB9 := Lib.hid hbb9
          clear hbb9 hbc9
          obtain ⟨wa, ha⟩ : ∃ z, z = w9.setCell ⟨W.heap.size, 1, none⟩ (.slice oa9 (k + 1 + (L.length - k)) cc9) := ⟨_, rfl⟩
          rw [← ha] at hb4 m4 hc4
          have H4 := Lib.hid ha
          have HO4 := Lib.hid (own_mod_at HO9.out m4 HB9.out (by decide))
          have X4 := Lib.hid (X9.out.mod m4 (fun q hq => by rw [hq]; exact Nat.le_refl _))
          have HB4 := Lib.hid hb4
          have HC4 := Lib.hid hc4
          clear hb4 m4 hc4 ha
          go_upto_region 12 with (fail)
          rw [← H4.out]
          clear p0 p1 f1
          have p0 := cell_of (o := 0) HB4.out
          have p1 := cell_of (o := 1) HB4.out
          have g0 := cell_of (o := 0) HC4.out
          have g1 := cell_of (o := 1) HC4.out
          have f0 := free_of (o := 0) HC4.out
          have f1 := free_of (o := 1) HC4.out
          obtain ⟨md, hb⟩ := set2c (.int .i64 w) (.slice oa9 (k + 1 + (L.length - k)) cc9) HC4.out
          have HO6 := Lib.hid (own_mod_at HO4.out md HC4.out (by decide))
          have XF := Lib.hid (X4.out.mod md (fun q hq => by rw [hq]; omega))
          have HB6 := Lib.hid hb
          clear md hb
          go_wp2_with fail
          have hb6 := HB6.out
          have ho6 := HO6.out
          have x6 := XF.out
          obtain ⟨wf, hwf⟩ : ∃ z, z = (wa.setCell ⟨W.heap.size + 1, 0, none⟩ (.int .i64 w)).setCell ⟨W.heap.size + 1, 1, none⟩ (.slice oa9 (k + 1 + (L.length - k)) cc9) := ⟨_, rfl⟩
          rw [← hwf] at hb6 ho6 x6 ⊢
          have k0 := cell_of (o := 0) hb6
          have k1 := cell_of (o := 1) hb6
          refine bodyPost_ret (v := .tuple #[.agg #[.int .i64 w, .slice oa9 (k + 1 + (L.length - k)) cc9], .int .i64 0]) (by simp [results, Try.results11, go_sem, k0, k1]) rfl ⟨oa9, cc9, ?_, x6, ?_⟩
          · rfl
          · refine OwnI.base (B := w6.heap.size) ?_ (Nat.zero_le _)
            show wf.ownsRow _ _ _ _ _ _
            rw [HLEN.out, HIN.out]
            rw [itemsC_append]; exact cons_items ho6
        · have z1 : decide (V < tv) = false := decide_eq_false (fun h => hnl (.inl h))
          have z2 : ((V : Int) == (tv : Int)) = false := beq_eq_false_iff_ne.2 (by omega)
          clear hnl hV
          go_wp2_with fail
          refine wp_region_later (W := w4) (by kernel_rfl) (by kernel_rfl) grows ?_
          repeat (go_big_quiet_step (fail))
          refine wpQuiet_nil ?_
          intro w6 x6
          have s6 := Step.mk x6
          have X6 := Lib.hid x6
          have hs1 : Src (w6.alloc (.cells #[] 70)) (.slice (some ⟨gl, 0, none⟩) k lc) 3 k (itemsC (L.take k)) := by
            have h := OwnI.take (k := k) (own_ext HR.out ((XWW.out.trans x6).alloc (.cells #[] 70))) (by omega)
            exact h
          have ho1 := own_lit w6 70 3
          have hz6 := x6.le
          have hzW := XWW.out.le
          clear x6
          go_wp2_with (at_builtin; refine wpList_append_src rfl (.tmp 83) (.tmp 87) 30 rfl w6.heap.size 70 _ 3 24 Try.underlying30 info_item rfl (by decide) _ 0 [] rfl ho1 _ k (itemsC (L.take k)) rfl hs1 ?c1 ?c2 ?c3 ?_)
          case c1 => unfold maxLen; omega
          case c2 => omega
          case c3 => first | omega | (rw [World.size_alloc]; omega)
          intro v7 w7 ho7 hg7 _
          obtain ⟨oa7, cc7, rfl⟩ := own_slice ho7
          have x67 : Ext w6 w7 := (((Ext.refl w6).alloc _).mod (grown_mod hg7) (fun q hq => own_ge ho1 hq.symm))
          have s7 := Step.mk x67
          have X67 := Lib.hid x67
          have hz7 := x67.le
          have HO7 : Hid (w7.ownsRow w6.heap.size 70 3 (.slice oa7 k cc7) k (itemsC (L.take k))) := Lib.hid (by simpa using ho7)
          clear x67 ho7 hg7 ho1 hs1
          have ho8 := own_ext HO7.out ((Ext.refl w7).alloc (.cells #[.int .u32 tv, .int .i64 m, .int .i64 x] 70))
          have hs8 := src_item w7 (tv, m, x)
          go_wp2_with (at_builtin; refine wpList_append_src rfl (.tmp 89) (.tmp 91) 30 rfl w6.heap.size 70 _ 3 24 Try.underlying30 info_item rfl (by decide) _ k (itemsC (L.take k)) rfl ho8 _ 1 (itemC (tv, m, x)) rfl hs8 ?c1 ?c2 ?c3 ?_)
          case c1 => unfold maxLen; omega
          case c2 => omega
          case c3 => first | omega | (rw [World.size_alloc]; omega)
          intro v8 w8 ho9 hg8 _
          obtain ⟨oa8, cc8, rfl⟩ := own_slice ho9
          have x68 : Ext w6 w8 := ((X67.out.alloc _).mod (grown_mod hg8) (fun q hq => own_ge ho8 hq.symm))
          have s8 := Step.mk x68
          have X68 := Lib.hid x68
          have hz8 := x68.le
          have HO8 : Hid (w8.ownsRow w6.heap.size 70 3 (.slice oa8 (k + 1) cc8) (k + 1) ((itemsC (L.take k)) ++ itemC (tv, m, x))) := Lib.hid ho9
          clear x68 ho9 hg8 ho8 hs8
          have hs9 : Src w8 (.slice (some ⟨gl, k * 3, none⟩) (L.length - k) (lc - k)) 3 (L.length - k) (itemsC (L.drop k)) := OwnI.drop (own_ext HR.out ((XWW.out.trans X6.out).trans X68.out)) (by omega)
          go_wp2_with (at_builtin; refine wpList_append_src rfl (.tmp 93) (.tmp 97) 30 rfl w6.heap.size 70 _ 3 24 Try.underlying30 info_item rfl (by decide) _ (k + 1) ((itemsC (L.take k)) ++ itemC (tv, m, x)) rfl HO8.out _ (L.length - k) (itemsC (L.drop k)) rfl hs9 ?c1 ?c2 ?c3 ?_)
          case c1 => unfold maxLen; omega
          case c2 => omega
          case c3 => omega
          intro v9 w9 ho10 hg9 _
          obtain ⟨oa9, cc9, rfl⟩ := own_slice ho10
          have x69 : Ext w6 w9 := (X68.out.mod (grown_mod hg9) (fun q hq => own_ge HO8.out hq.symm))
          have hbb9 : w9.heap[W.heap.size]? = some (.cells #[.int .i64 w, .slice (some ⟨gl, 0, none⟩) L.length lc] 32 (0, 0)) := x69.heap (X6.out.heap (XW4.out.heap (((Ext.refl _).alloc _).heap HBB.out)))
          have hbc9 : w9.heap[W.heap.size + 1]? = some (.cells #[.int .i64 0, .slice none 0 0] 32 (0, 0)) := x69.heap (X6.out.heap (XW4.out.heap HBC.out))
          have HO9 : Hid (w9.ownsRow w6.heap.size 70 3 (.slice oa9 (k + 1 + (L.length - k)) cc9) (k + 1 + (L.length - k)) ((itemsC (L.take k)) ++ itemC (tv, m, x) ++ (itemsC (L.drop k)))) := Lib.hid (by simpa using ho10)
          have X9 := Lib.hid ((XWW.out.trans X6.out).trans x69)
          clear ho10 hg9 x69 hs9 s8 s7 s6 s5 p0 p1 y0 y1 y2
          have p0 := cell_of (o := 0) hbb9
          have p1 := cell_of (o := 1) hbb9
          have f1 := free_of (o := 1) hbb9
          have hb4 : (w9.setCell ⟨W.heap.size, 1, none⟩ (.slice oa9 (k + 1 + (L.length - k)) cc9)).heap[W.heap.size]? = some (.cells #[.int .i64 w, .slice oa9 (k + 1 + (L.length - k)) cc9] 32 (0, 0)) := setCell_heap hbb9
          have m4 : Mod (· = W.heap.size) w9 (w9.setCell ⟨W.heap.size, 1, none⟩ (.slice oa9 (k + 1 + (L.length - k)) cc9)) := mod_set
          have hc4 := m4.heap hbc9 (by omega)
          have HB9 := Lib.hid hbb9
          clear hbb9 hbc9
          obtain ⟨wa, ha⟩ : ∃ z, z = w9.setCell ⟨W.heap.size, 1, none⟩ (.slice oa9 (k + 1 + (L.length - k)) cc9) := ⟨_, rfl⟩
          rw [← ha] at hb4 m4 hc4
          have H4 := Lib.hid ha
          have HO4 := Lib.hid (own_mod_at HO9.out m4 HB9.out (by decide))
          have X4 := Lib.hid (X9.out.mod m4 (fun q hq => by rw [hq]; exact Nat.le_refl _))
          have HB4 := Lib.hid hb4
          have HC4 := Lib.hid hc4
          clear hb4 m4 hc4 ha
          go_upto_region 12 with (fail)
          rw [← H4.out]
          clear p0 p1 f1
          have p0 := cell_of (o := 0) HB4.out
          have p1 := cell_of (o := 1) HB4.out
          have g0 := cell_of (o := 0) HC4.out
          have g1 := cell_of (o := 1) HC4.out
          have f0 := free_of (o := 0) HC4.out
          have f1 := free_of (o := 1) HC4.out
          obtain ⟨md, hb⟩ := set2c (.int .i64 w) (.slice oa9 (k + 1 + (L.length - k)) cc9) HC4.out
          have HO6 := Lib.hid (own_mod_at HO4.out md HC4.out (by decide))
          have XF := Lib.hid (X4.out.mod md (fun q hq => by rw [hq]; omega))
          have HB6 := Lib.hid hb
          clear md hb
          go_wp2_with fail
          have hb6 := HB6.out
          have ho6 := HO6.out
          have x6 := XF.out
          obtain ⟨wf, hwf⟩ : ∃ z, z = (wa.setCell ⟨W.heap.size + 1, 0, none⟩ (.int .i64 w)).setCell ⟨W.heap.size + 1, 1, none⟩ (.slice oa9 (k + 1 + (L.length - k)) cc9) := ⟨_, rfl⟩
          rw [← hwf] at hb6 ho6 x6 ⊢
          have k0 := cell_of (o := 0) hb6
          have k1 := cell_of (o := 1) hb6
          refine bodyPost_ret (v := .tuple #[.agg #[.int .i64 w, .slice oa9 (k + 1 + (L.length - k)) cc9], .int .i64 0]) (by simp [results, Try.results11, go_sem, k0, k1]) rfl ⟨oa9, cc9, ?_, x6, ?_⟩
          · rfl
          · refine OwnI.base (B := w6.heap.size) ?_ (Nat.zero_le _)
            show wf.ownsRow _ _ _ _ _ _
            rw [HLEN.out, HIN.out]
            rw [itemsC_append]; exact cons_items ho6
      · have d3 : decide (k < L.length) = false := decide_eq_false hkl
        obtain rfl : k = L.length := by omega
        by_cases hcap : lc = L.length
        · subst hcap
          go_wp2_with fail
          refine wp_region_later (W := w4) (by kernel_rfl) (by kernel_rfl) grows ?_
          repeat (go_big_quiet_step (fail))
          refine wpQuiet_nil ?_
          intro w6 x6
          have s6 := Step.mk x6
          have X6 := Lib.hid x6
          have hs1 : Src (w6.alloc (.cells #[] 70)) (.slice (some ⟨gl, 0, none⟩) L.length L.length) 3 L.length (itemsC L) := by
            have h := OwnI.take (k := L.length) (own_ext HR.out ((XWW.out.trans x6).alloc (.cells #[] 70))) (by omega)
            rw [List.take_length] at h; exact h
          have ho1 := own_lit w6 70 3
          have hz6 := x6.le
          have hzW := XWW.out.le
          clear x6
          go_wp2_with (at_builtin; refine wpList_append_src rfl (.tmp 83) (.tmp 87) 30 rfl w6.heap.size 70 _ 3 24 Try.underlying30 info_item rfl (by decide) _ 0 [] rfl ho1 _ L.length (itemsC L) rfl hs1 ?c1 ?c2 ?c3 ?_)
          case c1 => unfold maxLen; omega
          case c2 => omega
          case c3 => first | omega | (rw [World.size_alloc]; omega)
          intro v7 w7 ho7 hg7 _
          obtain ⟨oa7, cc7, rfl⟩ := own_slice ho7
          have x67 : Ext w6 w7 := (((Ext.refl w6).alloc _).mod (grown_mod hg7) (fun q hq => own_ge ho1 hq.symm))
          have s7 := Step.mk x67
          have X67 := Lib.hid x67
          have hz7 := x67.le
          have HO7 : Hid (w7.ownsRow w6.heap.size 70 3 (.slice oa7 L.length cc7) L.length (itemsC L)) := Lib.hid (by simpa using ho7)
          clear x67 ho7 hg7 ho1 hs1
          have ho8 := own_ext HO7.out ((Ext.refl w7).alloc (.cells #[.int .u32 tv, .int .i64 m, .int .i64 x] 70))
          have hs8 := src_item w7 (tv, m, x)
          go_wp2_with (at_builtin; refine wpList_append_src rfl (.tmp 89) (.tmp 91) 30 rfl w6.heap.size 70 _ 3 24 Try.underlying30 info_item rfl (by decide) _ L.length (itemsC L) rfl ho8 _ 1 (itemC (tv, m, x)) rfl hs8 ?c1 ?c2 ?c3 ?_)
          case c1 => unfold maxLen; omega
          case c2 => omega
          case c3 => first | omega | (rw [World.size_alloc]; omega)
          intro v8 w8 ho9 hg8 _
          obtain ⟨oa8, cc8, rfl⟩ := own_slice ho9
          have x68 : Ext w6 w8 := ((X67.out.alloc _).mod (grown_mod hg8) (fun q hq => own_ge ho8 hq.symm))
          have s8 := Step.mk x68
          have X68 := Lib.hid x68
          have hz8 := x68.le
          have HO8 : Hid (w8.ownsRow w6.heap.size 70 3 (.slice oa8 (L.length + 1) cc8) (L.length + 1) ((itemsC L) ++ itemC (tv, m, x))) := Lib.hid ho9
          clear x68 ho9 hg8 ho8 hs8
          have hs9 : Src w8 (.slice (some ⟨gl, 0, none⟩) 0 0) 3 0 [] := ⟨rfl, by simp, .inr ⟨_, 0, rfl, fun j u hj => by simp at hj⟩⟩
          go_wp2_with (at_builtin; refine wpList_append_src rfl (.tmp 93) (.tmp 97) 30 rfl w6.heap.size 70 _ 3 24 Try.underlying30 info_item rfl (by decide) _ (L.length + 1) ((itemsC L) ++ itemC (tv, m, x)) rfl HO8.out _ 0 [] rfl hs9 ?c1 ?c2 ?c3 ?_)
          case c1 => unfold maxLen; omega
          case c2 => omega
          case c3 => omega
          intro v9 w9 ho10 hg9 _
          obtain ⟨oa9, cc9, rfl⟩ := own_slice ho10
          have x69 : Ext w6 w9 := (X68.out.mod (grown_mod hg9) (fun q hq => own_ge HO8.out hq.symm))
          have hbb9 : w9.heap[W.heap.size]? = some (.cells #[.int .i64 w, .slice (some ⟨gl, 0, none⟩) L.length L.length] 32 (0, 0)) := x69.heap (X6.out.heap (XW4.out.heap (((Ext.refl _).alloc _).heap HBB.out)))
          have hbc9 : w9.heap[W.heap.size + 1]? = some (.cells #[.int .i64 0, .slice none 0 0] 32 (0, 0)) := x69.heap (X6.out.heap (XW4.out.heap HBC.out))
          have HO9 : Hid (w9.ownsRow w6.heap.size 70 3 (.slice oa9 (L.length + 1) cc9) (L.length + 1) ((itemsC L) ++ itemC (tv, m, x) ++ [])) := Lib.hid (by simpa using ho10)
          have X9 := Lib.hid ((XWW.out.trans X6.out).trans x69)
          clear ho10 hg9 x69 hs9 s8 s7 s6 s5 p0 p1 y0 y1 y2
          have p0 := cell_of (o := 0) hbb9
          have p1 := cell_of (o := 1) hbb9
          have f1 := free_of (o := 1) hbb9
          have hb4 : (w9.setCell ⟨W.heap.size, 1, none⟩ (.slice oa9 (L.length + 1) cc9)).heap[W.heap.size]? = some (.cells #[.int .i64 w, .slice oa9 (L.length + 1) cc9] 32 (0, 0)) := setCell_heap hbb9
          have m4 : Mod (· = W.heap.size) w9 (w9.setCell ⟨W.heap.size, 1, none⟩ (.slice oa9 (L.length + 1) cc9)) := mod_set
          have hc4 := m4.heap hbc9 (by omega)
          have HB9 := Lib.hid hbb9
          clear hbb9 hbc9
          obtain ⟨wa, ha⟩ : ∃ z, z = w9.setCell ⟨W.heap.size, 1, none⟩ (.slice oa9 (L.length + 1) cc9) := ⟨_, rfl⟩
          rw [← ha] at hb4 m4 hc4
          have H4 := Lib.hid ha
          have HO4 := Lib.hid (own_mod_at HO9.out m4 HB9.out (by decide))
          have X4 := Lib.hid (X9.out.mod m4 (fun q hq => by rw [hq]; exact Nat.le_refl _))
          have HB4 := Lib.hid hb4
          have HC4 := Lib.hid hc4
          clear hb4 m4 hc4 ha
          go_upto_region 12 with (fail)
          rw [← H4.out]
          clear p0 p1 f1
          have p0 := cell_of (o := 0) HB4.out
          have p1 := cell_of (o := 1) HB4.out
          have g0 := cell_of (o := 0) HC4.out
          have g1 := cell_of (o := 1) HC4.out
          have f0 := free_of (o := 0) HC4.out
          have f1 := free_of (o := 1) HC4.out
          obtain ⟨md, hb⟩ := set2c (.int .i64 w) (.slice oa9 (L.length + 1) cc9) HC4.out
          have HO6 := Lib.hid (own_mod_at HO4.out md HC4.out (by decide))
          have XF := Lib.hid (X4.out.mod md (fun q hq => by rw [hq]; omega))
          have HB6 := Lib.hid hb
          clear md hb
          go_wp2_with fail
          have hb6 := HB6.out
          have ho6 := HO6.out
          have x6 := XF.out
          obtain ⟨wf, hwf⟩ : ∃ z, z = (wa.setCell ⟨W.heap.size + 1, 0, none⟩ (.int .i64 w)).setCell ⟨W.heap.size + 1, 1, none⟩ (.slice oa9 (L.length + 1) cc9) := ⟨_, rfl⟩
          rw [← hwf] at hb6 ho6 x6 ⊢
          have k0 := cell_of (o := 0) hb6
          have k1 := cell_of (o := 1) hb6
          refine bodyPost_ret (v := .tuple #[.agg #[.int .i64 w, .slice oa9 (L.length + 1) cc9], .int .i64 0]) (by simp [results, Try.results11, go_sem, k0, k1]) rfl ⟨oa9, cc9, ?_, x6, ?_⟩
          · rw [Nat.sub_self]
          · refine OwnI.base (B := w6.heap.size) ?_ (Nat.zero_le _)
            show wf.ownsRow _ _ _ _ _ _
            rw [HLEN.out, HIN.out]
            rw [Nat.sub_self, List.take_length, List.drop_length, itemsC_append, itemsC_single]; simpa using ho6
        · have hcc : ¬ lc - L.length = 0 := by omega
          go_wp2_with fail
          refine wp_region_later (W := w4) (by kernel_rfl) (by kernel_rfl) grows ?_
          repeat (go_big_quiet_step (fail))
          refine wpQuiet_nil ?_
          intro w6 x6
          have s6 := Step.mk x6
          have X6 := Lib.hid x6
          have hs1 : Src (w6.alloc (.cells #[] 70)) (.slice (some ⟨gl, 0, none⟩) L.length lc) 3 L.length (itemsC L) := by
            have h := OwnI.take (k := L.length) (own_ext HR.out ((XWW.out.trans x6).alloc (.cells #[] 70))) (by omega)
            rw [List.take_length] at h; exact h
          have ho1 := own_lit w6 70 3
          have hz6 := x6.le
          have hzW := XWW.out.le
          clear x6
          go_wp2_with (at_builtin; refine wpList_append_src rfl (.tmp 83) (.tmp 87) 30 rfl w6.heap.size 70 _ 3 24 Try.underlying30 info_item rfl (by decide) _ 0 [] rfl ho1 _ L.length (itemsC L) rfl hs1 ?c1 ?c2 ?c3 ?_)
          case c1 => unfold maxLen; omega
          case c2 => omega
          case c3 => first | omega | (rw [World.size_alloc]; omega)
          intro v7 w7 ho7 hg7 _
          obtain ⟨oa7, cc7, rfl⟩ := own_slice ho7
          have x67 : Ext w6 w7 := (((Ext.refl w6).alloc _).mod (grown_mod hg7) (fun q hq => own_ge ho1 hq.symm))
          have s7 := Step.mk x67
          have X67 := Lib.hid x67
          have hz7 := x67.le
          have HO7 : Hid (w7.ownsRow w6.heap.size 70 3 (.slice oa7 L.length cc7) L.length (itemsC L)) := Lib.hid (by simpa using ho7)
          clear x67 ho7 hg7 ho1 hs1
          have ho8 := own_ext HO7.out ((Ext.refl w7).alloc (.cells #[.int .u32 tv, .int .i64 m, .int .i64 x] 70))
          have hs8 := src_item w7 (tv, m, x)
          go_wp2_with (at_builtin; refine wpList_append_src rfl (.tmp 89) (.tmp 91) 30 rfl w6.heap.size 70 _ 3 24 Try.underlying30 info_item rfl (by decide) _ L.length (itemsC L) rfl ho8 _ 1 (itemC (tv, m, x)) rfl hs8 ?c1 ?c2 ?c3 ?_)
          case c1 => unfold maxLen; omega
          case c2 => omega
          case c3 => first | omega | (rw [World.size_alloc]; omega)
          intro v8 w8 ho9 hg8 _
          obtain ⟨oa8, cc8, rfl⟩ := own_slice ho9
          have x68 : Ext w6 w8 := ((X67.out.alloc _).mod (grown_mod hg8) (fun q hq => own_ge ho8 hq.symm))
          have s8 := Step.mk x68
          have X68 := Lib.hid x68
          have hz8 := x68.le
          have HO8 : Hid (w8.ownsRow w6.heap.size 70 3 (.slice oa8 (L.length + 1) cc8) (L.length + 1) ((itemsC L) ++ itemC (tv, m, x))) := Lib.hid ho9
          clear x68 ho9 hg8 ho8 hs8
          have hs9 : Src w8 (.slice (some ⟨gl, L.length * 3, none⟩) 0 (lc - L.length)) 3 0 [] := ⟨rfl, by simp, .inr ⟨_, _, rfl, fun j u hj => by simp at hj⟩⟩
          go_wp2_with (at_builtin; refine wpList_append_src rfl (.tmp 93) (.tmp 97) 30 rfl w6.heap.size 70 _ 3 24 Try.underlying30 info_item rfl (by decide) _ (L.length + 1) ((itemsC L) ++ itemC (tv, m, x)) rfl HO8.out _ 0 [] rfl hs9 ?c1 ?c2 ?c3 ?_)
          case c1 => unfold maxLen; omega
          case c2 => omega
          case c3 => omega
          intro v9 w9 ho10 hg9 _
          obtain ⟨oa9, cc9, rfl⟩ := own_slice ho10
          have x69 : Ext w6 w9 := (X68.out.mod (grown_mod hg9) (fun q hq => own_ge HO8.out hq.symm))
          have hbb9 : w9.heap[W.heap.size]? = some (.cells #[.int .i64 w, .slice (some ⟨gl, 0, none⟩) L.length lc] 32 (0, 0)) := x69.heap (X6.out.heap (XW4.out.heap (((Ext.refl _).alloc _).heap HBB.out)))
          have hbc9 : w9.heap[W.heap.size + 1]? = some (.cells #[.int .i64 0, .slice none 0 0] 32 (0, 0)) := x69.heap (X6.out.heap (XW4.out.heap HBC.out))
          have HO9 : Hid (w9.ownsRow w6.heap.size 70 3 (.slice oa9 (L.length + 1) cc9) (L.length + 1) ((itemsC L) ++ itemC (tv, m, x) ++ [])) := Lib.hid (by simpa using ho10)
          have X9 := Lib.hid ((XWW.out.trans X6.out).trans x69)
          clear ho10 hg9 x69 hs9 s8 s7 s6 s5 p0 p1 y0 y1 y2
          have p0 := cell_of (o := 0) hbb9
          have p1 := cell_of (o := 1) hbb9
          have f1 := free_of (o := 1) hbb9
          have hb4 : (w9.setCell ⟨W.heap.size, 1, none⟩ (.slice oa9 (L.length + 1) cc9)).heap[W.heap.size]? = some (.cells #[.int .i64 w, .slice oa9 (L.length + 1) cc9] 32 (0, 0)) := setCell_heap hbb9
          have m4 : Mod (· = W.heap.size) w9 (w9.setCell ⟨W.heap.size, 1, none⟩ (.slice oa9 (L.length + 1) cc9)) := mod_set
          have hc4 := m4.heap hbc9 (by omega)
          have HB9 := Lib.hid hbb9
          clear hbb9 hbc9
          obtain ⟨wa, ha⟩ : ∃ z, z = w9.setCell ⟨W.heap.size, 1, none⟩ (.slice oa9 (L.length + 1) cc9) := ⟨_, rfl⟩
          rw [← ha] at hb4 m4 hc4
          have H4 := Lib.hid ha
          have HO4 := Lib.hid (own_mod_at HO9.out m4 HB9.out (by decide))
          have X4 := Lib.hid (X9.out.mod m4 (fun q hq => by rw [hq]; exact Nat.le_refl _))
          have HB4 := Lib.hid hb4
          have HC4 := Lib.hid hc4
          clear hb4 m4 hc4 ha
          go_upto_region 12 with (fail)
          rw [← H4.out]
          clear p0 p1 f1
          have p0 := cell_of (o := 0) HB4.out
          have p1 := cell_of (o := 1) HB4.out
          have g0 := cell_of (o := 0) HC4.out
          have g1 := cell_of (o := 1) HC4.out
          have f0 := free_of (o := 0) HC4.out
          have f1 := free_of (o := 1) HC4.out
          obtain ⟨md, hb⟩ := set2c (.int .i64 w) (.slice oa9 (L.length + 1) cc9) HC4.out
          have HO6 := Lib.hid (own_mod_at HO4.out md HC4.out (by decide))
          have XF := Lib.hid (X4.out.mod md (fun q hq => by rw [hq]; omega))
          have HB6 := Lib.hid hb
          clear md hb
          go_wp2_with fail
          have hb6 := HB6.out
          have ho6 := HO6.out
          have x6 := XF.out
          obtain ⟨wf, hwf⟩ : ∃ z, z = (wa.setCell ⟨W.heap.size + 1, 0, none⟩ (.int .i64 w)).setCell ⟨W.heap.size + 1, 1, none⟩ (.slice oa9 (L.length + 1) cc9) := ⟨_, rfl⟩
          rw [← hwf] at hb6 ho6 x6 ⊢
          have k0 := cell_of (o := 0) hb6
          have k1 := cell_of (o := 1) hb6
          refine bodyPost_ret (v := .tuple #[.agg #[.int .i64 w, .slice oa9 (L.length + 1) cc9], .int .i64 0]) (by simp [results, Try.results11, go_sem, k0, k1]) rfl ⟨oa9, cc9, ?_, x6, ?_⟩
          · rw [Nat.sub_self]
          · refine OwnI.base (B := w6.heap.size) ?_ (Nat.zero_le _)
            show wf.ownsRow _ _ _ _ _ _
            rw [HLEN.out, HIN.out]
            rw [Nat.sub_self, List.take_length, List.drop_length, itemsC_append, itemsC_single]; simpa using ho6
set_option maxRecDepth 8000 in
set_option maxHeartbeats 8000000 in
theorem r9insert_nil {W : World} {w : Nat} (h1 : 1 ≤ w) (h2 : w ≤ 32) (v : Nat) (hv : v < 4294967296) (m : Nat) (x : Int) (hm : m ≤ w) (hf : v < 2 ^ w) :
    Calls Try.prog 11 #[.agg #[.int .i64 w, .slice none 0 0], .int .u32 v, .int .i64 m, .int .i64 x] W (InsQ W [] w v m x) := by
  have hr : OwnI W 0 (.slice none 0 0) [] := World.ownsRow_nil _ _ _ _
  have hfd : Lp.fndI [] w v m = -1 := by unfold Lp.fndI; cases Lp.pfx w v m <;> rfl
  have hpt : Lp.pfx w v m = true := Lp.pfx_iff.2 ⟨⟨by omega, by omega⟩, hf⟩
  have HF : Hid (∀ w', Calls Try.prog 23 #[.int .u32 v, .int .i64 w] w' (Rets w' (.bool true))) := Lib.hid (fun w' => by have := r9fits_any (W := w') h1 h2 hv; rw [decide_eq_true hf] at this; exact this)
  have HFD : Hid (∀ w', Ext W w' → Calls Try.prog 24 #[.agg #[.int .i64 w, .slice none 0 0], .int .u32 v, .int .i64 m] w' (Rets w' (.int .i64 (-1)))) := Lib.hid (fun w' hx => by have := r9find_any (la := none) (lc := 0) (L := []) h1 h2 (items_ext hr.rows hx) v hv m; rw [hfd] at this; exact this)
  have HM : Hid (∀ w', Calls Try.prog 18 #[.int .i64 m, .int .i64 w] w' (Rets w' (.int .u32 (Bv.pmask m w)))) := Lib.hid (fun w' => r9mask_any h1 h2 (by omega))
  have hand := Lp.and_trunc h1 h2 (show m ≤ w by omega) hf
  have hE : Lp.insLE [] w v m = 0 := by unfold Lp.insLE; rw [hpt, hfd]; rfl
  have e0 : Lp.insLL [] w v m x = Lp.ins [] (Lp.trunc w v m, m, x) := by unfold Lp.insLL; rw [if_pos hE]; rfl
  obtain ⟨pm, hpm⟩ : ∃ z, z = Bv.pmask m w := ⟨_, rfl⟩
  obtain ⟨tv, htv⟩ : ∃ z, z = Lp.trunc w v m := ⟨_, rfl⟩
  rw [← hpm] at HM hand
  rw [← htv] at hand e0
  have HR := Lib.hid hr
  have HAND := Lib.hid hand
  unfold InsQ
  rw [e0, hE]
  have hlen : (Lp.ins [] (tv, m, x)).length = 1 := rfl
  have HIN : Hid (Lp.ins [] (tv, m, x) = [(tv, m, x)]) := Lib.hid rfl
  rw [hlen]
  clear hlen
  have bb := alloc_heap W (.cells #[.int .i64 w, .slice none 0 0] 32)
  have bc := alloc_heap (W.alloc (.cells #[.int .i64 w, .slice none 0 0] 32)) (.cells #[.int .i64 0, .slice none 0 0] 32)
  rw [World.size_alloc] at bc
  have p0 := alw (cell_of (o := 0) bb)
  have p1 := alw (cell_of (o := 1) bb)
  have HBB := Lib.hid bb
  have HBC := Lib.hid bc
  have d0 : decide ((m : Int) < 0) = false := decide_eq_false (by omega)
  have d1 : decide (w < m) = false := decide_eq_false (by omega)
  clear bb bc hr hand hE e0 hpm htv hf hpt hfd
  go_enter Try.func11, Try.ntmps11
  go_wp2_with fail
  refine (HF.out _).mono ?_
  rintro e w1 ⟨rfl, x1⟩
  have s1 := Step.mk x1
  clear x1
  go_wp2_with fail
  refine (HFD.out _ grows).mono ?_
  rintro e w2 ⟨rfl, x2⟩
  have s2 := Step.mk x2
  clear x2
  go_wp2_with fail
  refine (HM.out _).mono ?_
  rintro e w3 ⟨rfl, x3⟩
  have s3 := Step.mk x3
  clear x3
  have hand := HAND.out
  go_upto_region 6 with (fail)
  have xW4 : Ext ((W.alloc (.cells #[.int .i64 w, .slice none 0 0] 32)).alloc (.cells #[.int .i64 0, .slice none 0 0] 32)) (w3.alloc (.cells #[.int .u32 tv, .int .i64 m, .int .i64 x] 70)) := grows
  have hy := alloc_heap w3 (.cells #[.int .u32 tv, .int .i64 m, .int .i64 x] 70)
  obtain ⟨yg, hyg⟩ : ∃ z, z = w3.heap.size := ⟨_, rfl⟩
  obtain ⟨w4, h4⟩ : ∃ z, z = w3.alloc (.cells #[.int .u32 tv, .int .i64 m, .int .i64 x] 70) := ⟨_, rfl⟩
  rw [← h4] at xW4 hy ⊢
  rw [← hyg] at hy ⊢
  clear h4 hyg hand s1 s2 s3
  have s4 := Step.mk xW4
  have XW4 := Lib.hid xW4
  have HY := Lib.hid hy
  have y0 := alw (cell_of (o := 0) hy)
  have y1 := alw (cell_of (o := 1) hy)
  have y2 := alw (cell_of (o := 2) hy)
  clear xW4 hy
  go_wp2_with fail
  go_loopw [11] (fun i wr => i = .int .i64 0 ∧ Ext w4 wr) (fun _ _ => 0)
  case atStart => exact ⟨rfl, Ext.refl _⟩
  case round =>
    obtain ⟨rfl, hx⟩ := hrel
    have s5 := Step.mk hx
    clear hx
    have XWW : Hid (Ext W w4) := Lib.hid grows
    go_wp2_with fail
    refine wp_region_later (W := w4) (by kernel_rfl) (by kernel_rfl) grows ?_
    repeat (go_big_quiet_step (fail))
    refine wpQuiet_nil ?_
    intro w6 x6
    have s6 := Step.mk x6
    have X6 := Lib.hid x6
    have hs1 : Src (w6.alloc (.cells #[] 70)) (.slice none 0 0) 3 0 [] := ⟨rfl, by simp, .inl ⟨rfl, rfl⟩⟩
    have ho1 := own_lit w6 70 3
    have hz6 := x6.le
    have hzW := XWW.out.le
    clear x6
    go_wp2_with (at_builtin; refine wpList_append_src rfl (.tmp 83) (.tmp 87) 30 rfl w6.heap.size 70 _ 3 24 Try.underlying30 info_item rfl (by decide) _ 0 [] rfl ho1 _ 0 [] rfl hs1 ?c1 ?c2 ?c3 ?_)
    try case c1 => unfold maxLen; omega
    try case c2 => omega
    try case c3 => first | omega | (rw [World.size_alloc]; omega)
    intro v7 w7 ho7 hg7 _
    obtain ⟨oa7, cc7, rfl⟩ := own_slice ho7
    have x67 : Ext w6 w7 := (((Ext.refl w6).alloc _).mod (grown_mod hg7) (fun q hq => own_ge ho1 hq.symm))
    have s7 := Step.mk x67
    have X67 := Lib.hid x67
    have hz7 := x67.le
    have HO7 : Hid (w7.ownsRow w6.heap.size 70 3 (.slice oa7 0 cc7) 0 []) := Lib.hid (by simpa using ho7)
    clear x67 ho7 hg7 ho1 hs1
    have ho8 := own_ext HO7.out ((Ext.refl w7).alloc (.cells #[.int .u32 tv, .int .i64 m, .int .i64 x] 70))
    have hs8 := src_item w7 (tv, m, x)
    go_wp2_with (at_builtin; refine wpList_append_src rfl (.tmp 89) (.tmp 91) 30 rfl w6.heap.size 70 _ 3 24 Try.underlying30 info_item rfl (by decide) _ 0 [] rfl ho8 _ 1 (itemC (tv, m, x)) rfl hs8 ?c1 ?c2 ?c3 ?_)
    try case c1 => unfold maxLen; omega
    try case c2 => omega
    try case c3 => first | omega | (rw [World.size_alloc]; omega)
    intro v8 w8 ho9 hg8 _
    obtain ⟨oa8, cc8, rfl⟩ := own_slice ho9
    have x68 : Ext w6 w8 := ((X67.out.alloc _).mod (grown_mod hg8) (fun q hq => own_ge ho8 hq.symm))
    have s8 := Step.mk x68
    have X68 := Lib.hid x68
    have hz8 := x68.le
    have HO8 : Hid (w8.ownsRow w6.heap.size 70 3 (.slice oa8 1 cc8) 1 (itemC (tv, m, x))) := Lib.hid (by simpa using ho9)
    clear x68 ho9 hg8 ho8 hs8
    have hs9 : Src w8 (.slice none 0 0) 3 0 [] := ⟨rfl, by simp, .inl ⟨rfl, rfl⟩⟩
    go_wp2_with (at_builtin; refine wpList_append_src rfl (.tmp 93) (.tmp 97) 30 rfl w6.heap.size 70 _ 3 24 Try.underlying30 info_item rfl (by decide) _ 1 (itemC (tv, m, x)) rfl HO8.out _ 0 [] rfl hs9 ?c1 ?c2 ?c3 ?_)
    try case c1 => unfold maxLen; omega
    try case c2 => omega
    try case c3 => omega
    intro v9 w9 ho10 hg9 _
    obtain ⟨oa9, cc9, rfl⟩ := own_slice ho10
    have x69 : Ext w6 w9 := (X68.out.mod (grown_mod hg9) (fun q hq => own_ge HO8.out hq.symm))
    have hbb9 : w9.heap[W.heap.size]? = some (.cells #[.int .i64 w, .slice none 0 0] 32 (0, 0)) := x69.heap (X6.out.heap (XW4.out.heap (((Ext.refl _).alloc _).heap HBB.out)))
    have hbc9 : w9.heap[W.heap.size + 1]? = some (.cells #[.int .i64 0, .slice none 0 0] 32 (0, 0)) := x69.heap (X6.out.heap (XW4.out.heap HBC.out))
    have HO9 : Hid (w9.ownsRow w6.heap.size 70 3 (.slice oa9 1 cc9) 1 (itemC (tv, m, x))) := Lib.hid (by simpa using ho10)
    have X9 := Lib.hid ((XWW.out.trans X6.out).trans x69)
    clear ho10 hg9 x69 hs9 s8 s7 s6 s5 p0 p1 y0 y1 y2
    have p0 := cell_of (o := 0) hbb9
    have p1 := cell_of (o := 1) hbb9
    have f1 := free_of (o := 1) hbb9
    have hb4 : (w9.setCell ⟨W.heap.size, 1, none⟩ (.slice oa9 1 cc9)).heap[W.heap.size]? = some (.cells #[.int .i64 w, .slice oa9 1 cc9] 32 (0, 0)) := setCell_heap hbb9
    have m4 : Mod (· = W.heap.size) w9 (w9.setCell ⟨W.heap.size, 1, none⟩ (.slice oa9 1 cc9)) := mod_set
    have hc4 := m4.heap hbc9 (by omega)
    have HB9 := Lib.hid hbb9
    clear hbb9 hbc9
    obtain ⟨wa, ha⟩ : ∃ z, z = w9.setCell ⟨W.heap.size, 1, none⟩ (.slice oa9 1 cc9) := ⟨_, rfl⟩
    rw [← ha] at hb4 m4 hc4
    have H4 := Lib.hid ha
    have HO4 := Lib.hid (own_mod_at HO9.out m4 HB9.out (by decide))
    have X4 := Lib.hid (X9.out.mod m4 (fun q hq => by rw [hq]; exact Nat.le_refl _))
    have HB4 := Lib.hid hb4
    have HC4 := Lib.hid hc4
    clear hb4 m4 hc4 ha
    go_upto_region 12 with (fail)
    rw [← H4.out]
    clear p0 p1 f1
    have p0 := cell_of (o := 0) HB4.out
    have p1 := cell_of (o := 1) HB4.out
    have g0 := cell_of (o := 0) HC4.out
    have g1 := cell_of (o := 1) HC4.out
    have f0 := free_of (o := 0) HC4.out
    have f1 := free_of (o := 1) HC4.out
    obtain ⟨md, hb⟩ := set2c (.int .i64 w) (.slice oa9 1 cc9) HC4.out
    have HO6 := Lib.hid (own_mod_at HO4.out md HC4.out (by decide))
    have XF := Lib.hid (X4.out.mod md (fun q hq => by rw [hq]; omega))
    have HB6 := Lib.hid hb
    clear md hb
    go_wp2_with fail
    have hb6 := HB6.out
    have ho6 := HO6.out
    have x6 := XF.out
    obtain ⟨wf, hwf⟩ : ∃ z, z = (wa.setCell ⟨W.heap.size + 1, 0, none⟩ (.int .i64 w)).setCell ⟨W.heap.size + 1, 1, none⟩ (.slice oa9 1 cc9) := ⟨_, rfl⟩
    rw [← hwf] at hb6 ho6 x6 ⊢
    have k0 := cell_of (o := 0) hb6
    have k1 := cell_of (o := 1) hb6
    refine bodyPost_ret (v := .tuple #[.agg #[.int .i64 w, .slice oa9 1 cc9], .int .i64 0]) (by simp [results, Try.results11, go_sem, k0, k1]) rfl ⟨oa9, cc9, ?_, x6, ?_⟩
    · rfl
    · refine OwnI.base (B := w6.heap.size) ?_ (Nat.zero_le _)
      show wf.ownsRow _ _ _ _ _ _
      rw [HIN.out]
      rw [itemsC_single]; simpa using ho6
end Go.Proofs.Yteefchbpojcklaa
