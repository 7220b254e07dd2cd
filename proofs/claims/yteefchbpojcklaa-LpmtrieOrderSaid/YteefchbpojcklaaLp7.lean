/- Tries of prefixes: Insert and New of the package, walked. No condition. -/
import Derived.Test.YteefchbpojcklaaLp6
namespace Go.Proofs.Yteefchbpojcklaa
open Go.RowKit

namespace Lp
/-- what Insert answers -/
def insE (t : Tr) (w v : Nat) (n : Int) : Int := bif pfx w v n then (bif (t.con (path w v n.toNat)).isSome then 7 else 0) else 9
theorem insE_not {t : Tr} {w v : Nat} {n : Int} (h : pfx w v n = false) : insE t w v n = 9 := by unfold insE; rw [h]; rfl
theorem insE_dup {t : Tr} {w v : Nat} {n x : Int} (h : pfx w v n = true) (h2 : t.con (path w v n.toNat) = some x) : insE t w v n = 7 := by unfold insE; rw [h, h2]; rfl
theorem insE_ok {t : Tr} {w v : Nat} {n : Int} (h : pfx w v n = true) (h2 : t.con (path w v n.toNat) = none) : insE t w v n = 0 := by unfold insE; rw [h, h2]; rfl
end Lp
/-- what Insert leaves -/
def InsP (W : World) (g w : Nat) (T : Lp.Tr) (v : Nat) (n x : Int) (e : Ending) (W' : World) : Prop :=
  ∃ T', e = .returned (.int .i64 (Lp.insE T w v n)) ∧ Did W g w T T' W' ∧ ∀ q, T'.con q = bif (decide (Lp.insE T w v n = 0) && decide (q = Lp.path w v n.toNat)) then some x else T.con q
set_option maxRecDepth 8000 in
theorem insert_any {W : World} {g w : Nat} {T : Lp.Tr} (h : IsT W g w T) (v : Nat) (hv : v < 4294967296) (n x : Int) :
    Calls Try.prog 12 #[.pointer (some ⟨g, 0, none⟩), .int .u32 v, .int .i64 n, .int .i64 x] W (InsP W g w T v n x) := by
  have c0 := alw (cell_of (o := 0) h.hd)
  have c1 := alw (cell_of (o := 1) h.hd)
  have HM : Hid (∀ w', Ext W w' → Calls Try.prog 25 #[.pointer (some ⟨g, 0, none⟩)] w' (Rets w' (.bool true))) := Lib.hid (fun w' hx => made_any (h.ext hx))
  have HP : Hid (∀ w', Ext W w' → Calls Try.prog 26 #[.pointer (some ⟨g, 0, none⟩), .int .u32 v, .int .i64 n] w' (Rets w' (.bool (Lp.pfx w v n)))) := Lib.hid (fun w' hx => prefix_any (h.ext hx) v n)
  have HT := Lib.hid h
  have hl := h.lo
  have hh := h.hi
  clear h
  cases hq : Lp.pfx w v n with
  | false =>
    rw [hq] at HP
    have e0 : Lp.insE T w v n = 9 := Lp.insE_not hq
    unfold InsP
    rw [e0]
    clear e0 hq
    go_enter Try.func12, Try.ntmps12
    go_wp2_with fail
    refine (HM.out _ grows).mono ?_
    rintro e w1 ⟨rfl, x1⟩
    have s1 := Step.mk x1
    clear x1
    go_wp2_with fail
    refine (HP.out _ grows).mono ?_
    rintro e w2 ⟨rfl, x2⟩
    have s2 := Step.mk x2
    clear x2
    go_wp2_with fail
    go_ret
    exact ⟨T, rfl, Did.of_ext HT.out grows, fun q => rfl⟩
  | true =>
    rw [hq] at HP
    have HPT := Lib.hid hq
    obtain ⟨⟨h0, h1⟩, h2⟩ := Lp.pfx_iff.1 hq
    obtain ⟨m, rfl⟩ := Int.eq_ofNat_of_zero_le h0
    have hm : m ≤ w := by omega
    clear hq h0 h1 h2
    have hpn : T.ptr ≠ none := by obtain ⟨b, l, r, st, y, e⟩ := HT.out.node; rw [e]; simp [Lp.Tr.ptr]
    have HPN := Lib.hid hpn
    clear hpn
    go_enter Try.func12, Try.ntmps12
    go_wp2_with fail
    refine (HM.out _ grows).mono ?_
    rintro e w1 ⟨rfl, x1⟩
    have s1 := Step.mk x1
    clear x1
    go_wp2_with fail
    refine (HP.out _ grows).mono ?_
    rintro e w2 ⟨rfl, x2⟩
    have s2 := Step.mk x2
    clear x2
    go_wp2_with fail
    go_loopw [9, 27] (fun p i wr => ∃ (k : Nat) (T1 : Lp.Tr), k ≤ m ∧ p = .pointer (Lp.Tr.sub T1 (Lp.path w v k)).ptr ∧ i = .int .i64 k ∧ Hid (Did W g w T T1 wr) ∧ Hid (∀ q, T1.con q = T.con q) ∧ Hid (Lp.Tr.sub T1 (Lp.path w v k) ≠ .nil)) (fun _ i _ => m - (intOf i).toNat)
    case atStart => exact ⟨0, T, Nat.zero_le _, rfl, rfl, Lib.hid (Did.of_ext HT.out grows), Lib.hid (fun q => rfl), Lib.hid HT.out.ne⟩
    case round =>
      obtain ⟨k, T1, hk, rfl, rfl, HD, HC, HNE⟩ := hrel
      have HI := Lib.hid HD.out.is
      have hhd := HD.out.is.hd
      clear c0 c1 s1 s2
      have c0 := alw (cell_of (o := 0) hhd)
      clear hhd
      obtain ⟨b, l, r, st, y, hs⟩ : ∃ b l r st y, Lp.Tr.sub T1 (Lp.path w v k) = .node b l r st y := by
        cases hs : Lp.Tr.sub T1 (Lp.path w v k) with
        | nil => exact absurd hs HNE.out
        | node b l r st y => exact ⟨b, l, r, st, y, rfl⟩
      have hn := HD.out.is.tr.sub (Lp.path w v k)
      rw [hs] at hn ⊢
      have HS := Lib.hid hs
      have HN := Lib.hid hn.1
      have HNK := Lib.hid hn.2
      clear hs HNE
      have k0 := alw (cell_of (o := 0) hn.1)
      have k1 := alw (cell_of (o := 1) hn.1)
      have k2 := alw (cell_of (o := 2) hn.1)
      have k3 := alw (cell_of (o := 3) hn.1)
      have f0 := alwF (o := 0) hn.1
      have f1 := alwF (o := 1) hn.1
      have f2 := alwF (o := 2) hn.1
      have f3 := alwF (o := 3) hn.1
      have hblt := lt_of_block hn.1
      clear hn
      simp only [Lp.Tr.ptr_node]
      rcases Nat.lt_or_ge k m with hkm | hkm
      · have HB : Hid (∀ w', Ext wr w' → Calls Try.prog 27 #[.pointer (some ⟨g, 0, none⟩), .int .u32 v, .int .i64 k] w' (Rets w' (.int .u32 (Lp.bitI (v.testBit (w - 1 - k)))))) := Lib.hid (fun w' hx => bit_any (HI.out.ext hx) v k hv (by omega))
        cases hb : v.testBit (w - 1 - k) with
        | false =>
          rw [hb] at HB
          simp only [Lp.bitI, cond_false] at HB
          have HBT := Lib.hid hb
          clear hb
          cases l with
          | nil =>
            simp only [Lp.Tr.ptr_nil] at k0
            go_wp2_with fail
            refine (HB.out _ grows).mono ?_
            rintro e w5 ⟨rfl, x5⟩
            have X5 := Lib.hid x5
            have s5 := Step.mk x5
            have hlt5 : b < w5.heap.size := Nat.lt_of_lt_of_le hblt x5.le
            have hne5 : ¬ w5.heap.size = b := by omega
            clear x5
            go_wp2_with fail
            go_roundw
            case rel =>
              obtain ⟨T2, d2, c2, s2⟩ := IsT.hang (W' := (w5.setCell ⟨b, 0, none⟩ (.pointer (some ⟨w5.heap.size, 0, none⟩))).alloc (.cells #[.pointer none, .pointer none, .bool false, .int .i64 0] 66)) (f := w5.heap.size) (HI.out.ext X5.out) HS.out false rfl (Nat.le_refl _) (mod_set.alloc _) (by have := alloc_heap (w5.setCell ⟨b, 0, none⟩ (.pointer (some ⟨w5.heap.size, 0, none⟩))) (.cells #[.pointer none, .pointer none, .bool false, .int .i64 0] 66); simpa using this) (((Ext.refl _).alloc _).heap (setCell_heap (X5.out.heap HN.out)))
              refine ⟨k + 1, T2, by omega, ?_, by go_num, Lib.hid (HD.out.trans (d2.pre X5.out)), Lib.hid (fun q => (c2 q).trans (HC.out q)), Lib.hid ?_⟩
              · rw [Lp.sub_step, s2, HBT.out]; rfl
              · rw [Lp.sub_step, s2, HBT.out]; simp
            case measure => simp [intOf]; omega
          | node bl ll lr lst lx =>
            simp only [Lp.Tr.ptr_node] at k0
            go_wp2_with fail
            refine (HB.out _ grows).mono ?_
            rintro e w5 ⟨rfl, x5⟩
            have X5 := Lib.hid x5
            have s5 := Step.mk x5
            clear x5
            go_wp2_with fail
            go_roundw
            case rel =>
              refine ⟨k + 1, T1, by omega, ?_, by go_num, Lib.hid (HD.out.trans (Did.of_ext HI.out X5.out)), HC, Lib.hid ?_⟩
              · rw [Lp.sub_step, HS.out, HBT.out]; rfl
              · rw [Lp.sub_step, HS.out, HBT.out]; simp
            case measure => simp [intOf]; omega
        | true =>
          rw [hb] at HB
          simp only [Lp.bitI, cond_true] at HB
          have HBT := Lib.hid hb
          clear hb
          cases r with
          | nil =>
            simp only [Lp.Tr.ptr_nil] at k1
            go_wp2_with fail
            refine (HB.out _ grows).mono ?_
            rintro e w5 ⟨rfl, x5⟩
            have X5 := Lib.hid x5
            have s5 := Step.mk x5
            have hlt5 : b < w5.heap.size := Nat.lt_of_lt_of_le hblt x5.le
            have hne5 : ¬ w5.heap.size = b := by omega
            clear x5
            go_wp2_with fail
            go_roundw
            case rel =>
              obtain ⟨T2, d2, c2, s2⟩ := IsT.hang (W' := (w5.setCell ⟨b, 1, none⟩ (.pointer (some ⟨w5.heap.size, 0, none⟩))).alloc (.cells #[.pointer none, .pointer none, .bool false, .int .i64 0] 66)) (f := w5.heap.size) (HI.out.ext X5.out) HS.out true rfl (Nat.le_refl _) (mod_set.alloc _) (by have := alloc_heap (w5.setCell ⟨b, 1, none⟩ (.pointer (some ⟨w5.heap.size, 0, none⟩))) (.cells #[.pointer none, .pointer none, .bool false, .int .i64 0] 66); simpa using this) (((Ext.refl _).alloc _).heap (setCell_heap (X5.out.heap HN.out)))
              refine ⟨k + 1, T2, by omega, ?_, by go_num, Lib.hid (HD.out.trans (d2.pre X5.out)), Lib.hid (fun q => (c2 q).trans (HC.out q)), Lib.hid ?_⟩
              · rw [Lp.sub_step, s2, HBT.out]; rfl
              · rw [Lp.sub_step, s2, HBT.out]; simp
            case measure => simp [intOf]; omega
          | node bl ll lr lst lx =>
            simp only [Lp.Tr.ptr_node] at k1
            go_wp2_with fail
            refine (HB.out _ grows).mono ?_
            rintro e w5 ⟨rfl, x5⟩
            have X5 := Lib.hid x5
            have s5 := Step.mk x5
            clear x5
            go_wp2_with fail
            go_roundw
            case rel =>
              refine ⟨k + 1, T1, by omega, ?_, by go_num, Lib.hid (HD.out.trans (Did.of_ext HI.out X5.out)), HC, Lib.hid ?_⟩
              · rw [Lp.sub_step, HS.out, HBT.out]; rfl
              · rw [Lp.sub_step, HS.out, HBT.out]; simp
            case measure => simp [intOf]; omega
      · obtain rfl : k = m := by omega
        have HCP : Hid (T.con (Lp.path w v k) = Lp.Tr.val (.node b l r st y)) := Lib.hid (by rw [← HC.out]; unfold Lp.Tr.con; rw [HS.out])
        cases st with
        | true =>
          have HE : Hid (Lp.insE T w v k = 7) := Lib.hid (Lp.insE_dup HPT.out HCP.out)
          go_wp2_with fail
          go_ret
          refine ⟨T1, ?_, HD.out, fun q => ?_⟩
          · rw [HE.out]; rfl
          · rw [HE.out, HC.out]; rfl
        | false =>
          have HE : Hid (Lp.insE T w v k = 0) := Lib.hid (Lp.insE_ok HPT.out HCP.out)
          go_wp2_with fail
          go_ret
          refine ⟨_, ?_, HD.out.trans (IsT.set HI.out HS.out true x (mod_set.trans mod_set) (setCell_heap (setCell_heap HN.out))), fun q => ?_⟩
          · rw [HE.out]; rfl
          · rw [Lp.Tr.con_put_set HS.out, HE.out, Int.toNat_natCast]
            by_cases hq : q = Lp.path w v k
            · rw [if_pos hq, decide_eq_true hq]; rfl
            · rw [if_neg hq, decide_eq_false hq, HC.out]; rfl
theorem new_ok {W : World} (w : Nat) (h1 : 1 ≤ w) (h2 : w ≤ 32) :
    Calls Try.prog 8 #[.int .i64 w] W (fun e W' => ∃ (g : Nat) (T : Lp.Tr), e = .returned (.tuple #[.pointer (some ⟨g, 0, none⟩), .int .i64 0]) ∧ Ext W W' ∧ IsT W' g w T ∧ (∀ i ∈ T.blocks, W.heap.size ≤ i) ∧ W.heap.size ≤ g ∧ ∀ q, T.con q = none) := by
  have hm : Bv.mask (w : Int) ≠ 0 := by
    unfold Bv.mask
    rw [Bv.ok_of (by omega) (by omega), if_pos rfl]
    have := Bv.pw_ge2 (w := (w : Int)) (by omega); omega
  have HM : Hid (∀ w', Calls Try.prog 21 #[.int .i64 w] w' (Rets w' (.int .u32 (Bv.mask w)))) := Lib.hid (fun w' => mask_any _ _)
  obtain ⟨mk, hmk⟩ : ∃ z, z = Bv.mask (w : Int) := ⟨_, rfl⟩
  rw [← hmk] at HM hm
  clear hmk
  have z1 : (mk == 0) = false := beq_eq_false_iff_ne.2 hm
  clear hm
  go_enter Try.func8, Try.ntmps8
  go_wp2_with fail
  refine (HM.out _).mono ?_
  rintro e w1 ⟨rfl, x1⟩
  have X1 := Lib.hid x1
  have s1 := Step.mk x1
  clear x1
  go_wp2_with fail
  go_ret2
  have hle := X1.out.le
  have hb := ((Ext.refl _).alloc (.cells #[.int .i64 w, .pointer (some ⟨w1.heap.size, 0, none⟩)] 61)).heap (alloc_heap w1 (.cells #[.pointer none, .pointer none, .bool false, .int .i64 0] 66))
  have hg := alloc_heap (w1.alloc (.cells #[.pointer none, .pointer none, .bool false, .int .i64 0] 66)) (.cells #[.int .i64 w, .pointer (some ⟨w1.heap.size, 0, none⟩)] 61)
  rw [World.size_alloc] at hg
  refine ⟨w1.heap.size + 1, .node w1.heap.size .nil .nil false 0, rfl, (X1.out.alloc _).alloc _, ⟨hg, ⟨hb, trivial, trivial⟩, by simp [Lp.Tr.blocks], by simp, h1, h2⟩, fun i hi => ?_, by omega, fun q => ?_⟩
  · simp only [Lp.Tr.blocks, List.append_nil, List.mem_singleton] at hi
    omega
  · rw [Lp.con_new, Lp.con_nil]
theorem new_bad {W : World} (w : Int) (h : ¬ (1 ≤ w ∧ w ≤ 32)) :
    Calls Try.prog 8 #[.int .i64 w] W (Rets W (.tuple #[.pointer none, .int .i64 10])) := by
  have hm : Bv.mask w = 0 := by
    unfold Bv.mask
    rw [Bv.not_ok h]; rfl
  have HM : Hid (∀ w', Calls Try.prog 21 #[.int .i64 w] w' (Rets w' (.int .u32 0))) := Lib.hid (fun w' => by have := mask_any w w'; rw [hm] at this; exact this)
  clear hm
  go_enter Try.func8, Try.ntmps8
  go_wp2_with fail
  refine (HM.out _).mono ?_
  rintro e w1 ⟨rfl, x1⟩
  have s1 := Step.mk x1
  clear x1
  go_wp2_with fail
  go_ret2
  exact ⟨rfl, grows⟩
end Go.Proofs.Yteefchbpojcklaa
