/- Tries of prefixes: find, Get and Lookup of the package, walked. No condition. -/
import Derived.Test.YteefchbpojcklaaLp4
import Derived.OwnWalk
namespace Go.Proofs.Yteefchbpojcklaa
open Go.RowKit

set_option maxRecDepth 8000 in
theorem find_any {W : World} {g w : Nat} {T : Lp.Tr} (h : IsT W g w T) (v : Nat) (hv : v < 4294967296) (n : Int) :
    Calls Try.prog 28 #[.pointer (some ⟨g, 0, none⟩), .int .u32 v, .int .i64 n] W (Rets W (.pointer (Lp.at' T w v n).ptr)) := by
  have c0 := alw (cell_of (o := 0) h.hd)
  have c1 := alw (cell_of (o := 1) h.hd)
  have HM : Hid (∀ w', Ext W w' → Calls Try.prog 25 #[.pointer (some ⟨g, 0, none⟩)] w' (Rets w' (.bool true))) := Lib.hid (fun w' hx => made_any (h.ext hx))
  have HP : Hid (∀ w', Ext W w' → Calls Try.prog 26 #[.pointer (some ⟨g, 0, none⟩), .int .u32 v, .int .i64 n] w' (Rets w' (.bool (Lp.pfx w v n)))) := Lib.hid (fun w' hx => prefix_any (h.ext hx) v n)
  have HT := Lib.hid h
  have hl := h.lo
  have hh := h.hi
  clear h
  cases hq : Lp.pfx w v n with
  | false =>
    rw [hq] at HP
    have e0 : Lp.at' T w v n = .nil := by unfold Lp.at'; rw [hq]; rfl
    rw [e0]
    clear e0 hq
    go_enter Try.func28, Try.ntmps28
    go_wp2_with fail
    refine (HM.out _ grows).mono ?_
    rintro e w1 ⟨rfl, x1⟩
    have s1 := Step.mk x1
    clear x1
    go_wp2_with fail
    refine (HP.out _ grows).mono ?_
    rintro e w2 ⟨rfl, x2⟩
    have s2 := Step.mk x2
    clear x2
    go_wp2_with fail
    go_ret
    exact ⟨rfl, grows⟩
  | true =>
    rw [hq] at HP
    obtain ⟨⟨h0, h1⟩, h2⟩ := Lp.pfx_iff.1 hq
    obtain ⟨m, rfl⟩ := Int.eq_ofNat_of_zero_le h0
    have hm : m ≤ w := by omega
    obtain ⟨q, hqe⟩ : ∃ q, q = (Lp.at' T w v m).ptr := ⟨_, rfl⟩
    have HQ : Hid (q = (Lp.Tr.sub T (Lp.path w v m)).ptr) := Lib.hid (by rw [hqe]; unfold Lp.at'; rw [hq]; rfl)
    rw [← hqe]
    clear hqe hq h0 h1 h2
    go_enter Try.func28, Try.ntmps28
    go_wp2_with fail
    refine (HM.out _ grows).mono ?_
    rintro e w1 ⟨rfl, x1⟩
    have s1 := Step.mk x1
    clear x1
    go_wp2_with fail
    refine (HP.out _ grows).mono ?_
    rintro e w2 ⟨rfl, x2⟩
    have s2 := Step.mk x2
    clear x2
    go_wp2_with fail
    go_loopw [7, 8] (fun p i wr => ∃ k : Nat, k ≤ m ∧ p = .pointer (Lp.Tr.sub T (Lp.path w v k)).ptr ∧ i = .int .i64 k ∧ Ext W wr) (fun _ i _ => m - (intOf i).toNat)
    case atStart => exact ⟨0, Nat.zero_le _, rfl, rfl, grows⟩
    case round =>
      obtain ⟨k, hk, rfl, rfl, hx⟩ := hrel
      have sr := Step.mk hx
      clear hx
      rcases Nat.lt_or_ge k m with hkm | hkm
      · cases hs : Lp.Tr.sub T (Lp.path w v k) with
        | nil =>
          have e1 : q = none := by rw [HQ.out, Lp.sub_nil_on hk hs]; rfl
          subst e1
          simp only [Lp.Tr.ptr_nil]
          go_wp2_with fail
          go_ret
          exact ⟨rfl, grows⟩
        | node b l r st x =>
          have hn := HT.out.tr.sub (Lp.path w v k)
          rw [hs] at hn
          have k0 := alw (cell_of (o := 0) hn.1)
          have k1 := alw (cell_of (o := 1) hn.1)
          have HS : Hid (∀ b : Bool, v.testBit (w - 1 - k) = b → Lp.Tr.sub T (Lp.path w v (k + 1)) = bif b then r else l) := Lib.hid (fun b hb => by rw [Lp.sub_step, hs, hb]; rfl)
          have HB : Hid (∀ w', Ext W w' → Calls Try.prog 27 #[.pointer (some ⟨g, 0, none⟩), .int .u32 v, .int .i64 k] w' (Rets w' (.int .u32 (Lp.bitI (v.testBit (w - 1 - k)))))) := Lib.hid (fun w' hx => bit_any (HT.out.ext hx) v k hv (by omega))
          clear hs hn
          simp only [Lp.Tr.ptr_node]
          cases hb : v.testBit (w - 1 - k) with
          | false =>
            have hs := HS.out _ hb
            simp only [cond_false] at hs
            have HS' := Lib.hid hs
            rw [hb] at HB
            simp only [Lp.bitI, cond_false] at HB
            clear hb HS hs
            go_wp2_with fail
            refine wp_region_later (W := W) (by kernel_rfl) (by kernel_rfl) grows ?_
            repeat (go_big_quiet_step ((go_at_call 27; exact Rets.later_at (HB.out _ grows))))
            refine wpQuiet_nil ?_
            intro w5 x5
            have s5 := Step.mk x5
            clear x5
            go_wp2_with fail
            go_roundw
            case rel => exact ⟨k + 1, by omega, by rw [HS'.out], by go_num, grows⟩
            case measure => simp [intOf]; omega
          | true =>
            have hs := HS.out _ hb
            simp only [cond_true] at hs
            have HS' := Lib.hid hs
            rw [hb] at HB
            simp only [Lp.bitI, cond_true] at HB
            clear hb HS hs
            go_wp2_with fail
            refine wp_region_later (W := W) (by kernel_rfl) (by kernel_rfl) grows ?_
            repeat (go_big_quiet_step ((go_at_call 27; exact Rets.later_at (HB.out _ grows))))
            refine wpQuiet_nil ?_
            intro w5 x5
            have s5 := Step.mk x5
            clear x5
            go_wp2_with fail
            go_roundw
            case rel => exact ⟨k + 1, by omega, by rw [HS'.out], by go_num, grows⟩
            case measure => simp [intOf]; omega
      · obtain rfl : k = m := by omega
        rw [← HQ.out]
        go_wp2_with fail
        go_ret
        exact ⟨rfl, grows⟩
namespace Lp
def gv (o : Option Int) : Int := o.getD 0
def lkA (o : Option (Int × Nat)) : Int := (o.map (·.1)).getD 0
def lkN (o : Option (Int × Nat)) : Nat := (o.map (·.2)).getD 0
/-- the longest prefix of a key -/
def look (t : Tr) (w key : Nat) : Option (Int × Nat) := bif decide (key < 2 ^ w) then lk w t key (w + 1) else none
end Lp
set_option maxRecDepth 8000 in
theorem get_any {W : World} {g w : Nat} {T : Lp.Tr} (h : IsT W g w T) (v : Nat) (hv : v < 4294967296) (n : Int) :
    Calls Try.prog 31 #[.pointer (some ⟨g, 0, none⟩), .int .u32 v, .int .i64 n] W (Rets W (.tuple #[.int .i64 (Lp.gv (Lp.get T w v n)), .bool (Lp.get T w v n).isSome])) := by
  have HF : Hid (∀ w', Ext W w' → Calls Try.prog 28 #[.pointer (some ⟨g, 0, none⟩), .int .u32 v, .int .i64 n] w' (Rets w' (.pointer (Lp.at' T w v n).ptr))) := Lib.hid (fun w' hx => find_any (h.ext hx) v hv n)
  have hin : (Lp.at' T w v n).In W := by
    unfold Lp.at'
    cases Lp.pfx w v n
    · trivial
    · exact h.tr.sub _
  rw [Lp.get_at]
  cases hs : Lp.at' T w v n with
  | nil =>
    rw [hs] at HF
    simp only [Lp.Tr.ptr_nil] at HF
    have e1 : Lp.Tr.val .nil = none := rfl
    rw [e1]
    clear hs hin e1 h
    go_enter Try.func31, Try.ntmps31
    go_wp2_with fail
    refine (HF.out _ grows).mono ?_
    rintro e w1 ⟨rfl, x1⟩
    have s1 := Step.mk x1
    clear x1
    go_wp2_with fail
    go_ret2
    exact ⟨rfl, grows⟩
  | node b l r st x =>
    rw [hs] at HF hin
    simp only [Lp.Tr.ptr_node] at HF
    have k2 := alw (cell_of (o := 2) hin.1)
    have k3 := alw (cell_of (o := 3) hin.1)
    clear hs hin h
    cases st with
    | false =>
      have e1 : Lp.Tr.val (.node b l r false x) = none := rfl
      rw [e1]
      clear e1
      go_enter Try.func31, Try.ntmps31
      go_wp2_with fail
      refine (HF.out _ grows).mono ?_
      rintro e w1 ⟨rfl, x1⟩
      have s1 := Step.mk x1
      clear x1
      go_wp2_with fail
      go_ret2
      exact ⟨rfl, grows⟩
    | true =>
      have e1 : Lp.Tr.val (.node b l r true x) = some x := rfl
      rw [e1]
      clear e1
      go_enter Try.func31, Try.ntmps31
      go_wp2_with fail
      refine (HF.out _ grows).mono ?_
      rintro e w1 ⟨rfl, x1⟩
      have s1 := Step.mk x1
      clear x1
      go_wp2_with fail
      go_ret2
      exact ⟨rfl, grows⟩
set_option maxRecDepth 8000 in
theorem lookup_any {W : World} {g w : Nat} {T : Lp.Tr} (h : IsT W g w T) (v : Nat) (hv : v < 4294967296) :
    Calls Try.prog 19 #[.pointer (some ⟨g, 0, none⟩), .int .u32 v] W (Rets W (.tuple #[.int .i64 (Lp.lkA (Lp.look T w v)), .int .i64 (Lp.lkN (Lp.look T w v)), .bool (Lp.look T w v).isSome])) := by
  have c0 := alw (cell_of (o := 0) h.hd)
  have c1 := alw (cell_of (o := 1) h.hd)
  have HM : Hid (∀ w', Ext W w' → Calls Try.prog 25 #[.pointer (some ⟨g, 0, none⟩)] w' (Rets w' (.bool true))) := Lib.hid (fun w' hx => made_any (h.ext hx))
  have HP : Hid (∀ w', Ext W w' → Calls Try.prog 26 #[.pointer (some ⟨g, 0, none⟩), .int .u32 v, .int .i64 0] w' (Rets w' (.bool (decide (v < 2 ^ w))))) := Lib.hid (fun w' hx => by
    have := prefix_any (h.ext hx) v 0
    have e : Lp.pfx w v 0 = decide (v < 2 ^ w) := by unfold Lp.pfx; rw [decide_eq_true (by omega), decide_eq_true (by omega)]; rfl
    rw [e] at this; exact this)
  have HT := Lib.hid h
  have hl := h.lo
  have hh := h.hi
  clear h
  by_cases hq : v < 2 ^ w
  · rw [decide_eq_true hq] at HP
    have e0 : Lp.look T w v = Lp.lk w T v (w + 1) := by unfold Lp.look; rw [decide_eq_true hq]; rfl
    rw [e0]
    obtain ⟨R, hR⟩ : ∃ R, R = Lp.lk w T v (w + 1) := ⟨_, rfl⟩
    rw [← hR]
    have HR := Lib.hid hR
    clear hR e0 hq
    go_enter Try.func19, Try.ntmps19
    go_wp2_with fail
    refine (HM.out _ grows).mono ?_
    rintro e w1 ⟨rfl, x1⟩
    have s1 := Step.mk x1
    clear x1
    go_wp2_with fail
    refine (HP.out _ grows).mono ?_
    rintro e w2 ⟨rfl, x2⟩
    have s2 := Step.mk x2
    clear x2
    go_wp2_with fail
    go_loopw [4, 5, 6, 7, 8] (fun a b c p i wr => ∃ (k : Nat) (o : Option (Int × Nat)), k ≤ w ∧ Hid (o = Lp.lk w T v k) ∧ a = .int .i64 (Lp.lkA o) ∧ b = .int .i64 (Lp.lkN o) ∧ c = .bool o.isSome ∧ p = .pointer (Lp.Tr.sub T (Lp.path w v k)).ptr ∧ i = .int .i64 k ∧ Ext W wr) (fun _ _ _ _ i _ => w + 1 - (intOf i).toNat)
    case atStart => exact ⟨0, none, Nat.zero_le _, Lib.hid rfl, rfl, rfl, rfl, rfl, rfl, grows⟩
    case round =>
      obtain ⟨k, o, hk, HO, rfl, rfl, rfl, rfl, rfl, hx⟩ := hrel
      have sr := Step.mk hx
      clear hx
      cases hs : Lp.Tr.sub T (Lp.path w v k) with
      | nil =>
        have e1 : R = o := by
          rw [HR.out, HO.out]
          exact Lp.lk_eq (by omega) (fun j h1 h2 => by unfold Lp.Tr.con; rw [Lp.sub_nil_on h1 hs]; rfl)
        subst e1
        simp only [Lp.Tr.ptr_nil]
        go_wp2_with fail
        go_ret3
        exact ⟨rfl, grows⟩
      | node b l r st x =>
        have hn := HT.out.tr.sub (Lp.path w v k)
        rw [hs] at hn
        have k0 := alw (cell_of (o := 0) hn.1)
        have k1 := alw (cell_of (o := 1) hn.1)
        have k2 := alw (cell_of (o := 2) hn.1)
        have k3 := alw (cell_of (o := 3) hn.1)
        have HS : Hid (∀ b : Bool, v.testBit (w - 1 - k) = b → Lp.Tr.sub T (Lp.path w v (k + 1)) = bif b then r else l) := Lib.hid (fun b hb => by rw [Lp.sub_step, hs, hb]; rfl)
        have HC : Hid (Lp.lk w T v (k + 1) = bif st then some (x, k) else o) := Lib.hid (by
          unfold Lp.lk Lp.Tr.con
          rw [hs, ← HO.out]
          cases st <;> rfl)
        clear hs hn
        simp only [Lp.Tr.ptr_node]
        rcases Nat.lt_or_ge k w with hkw | hkw
        · have HB : Hid (∀ w', Ext W w' → Calls Try.prog 27 #[.pointer (some ⟨g, 0, none⟩), .int .u32 v, .int .i64 k] w' (Rets w' (.int .u32 (Lp.bitI (v.testBit (w - 1 - k)))))) := Lib.hid (fun w' hx => bit_any (HT.out.ext hx) v k hv (by omega))
          have hne : ((k : Int) == (w : Int)) = false := beq_eq_false_iff_ne.2 (by omega)
          cases st <;> cases hb : v.testBit (w - 1 - k)
          all_goals
            have hs := HS.out _ hb
            have hc := HC.out
            simp only [cond_true, cond_false] at hs hc
            have HS' := Lib.hid hs
            have HC' := Lib.hid hc
            rw [hb] at HB
            simp only [Lp.bitI, cond_true, cond_false] at HB
            clear hb HS hs hc HC
            go_wp2_with fail
            refine wp_region_later (W := W) (by kernel_rfl) (by kernel_rfl) grows ?_
            repeat (go_big_quiet_step ((go_at_call 27; exact Rets.later_at (HB.out _ grows))))
            refine wpQuiet_nil ?_
            intro w5 x5
            have s5 := Step.mk x5
            clear x5
            go_wp2_with fail
            go_roundw
            case rel => exact ⟨k + 1, _, by omega, Lib.hid HC'.out.symm, rfl, rfl, rfl, by rw [HS'.out], by go_num, grows⟩
            case measure => simp [intOf]; omega
        · obtain rfl : k = w := by omega
          cases st
          all_goals
            have hc := HC.out
            rw [← HR.out] at hc
            simp only [cond_true, cond_false] at hc
            subst hc
            clear HC HS
            go_wp2_with fail
            go_ret3
            exact ⟨rfl, grows⟩
  · rw [decide_eq_false hq] at HP
    have e0 : Lp.look T w v = none := by unfold Lp.look; rw [decide_eq_false hq]; rfl
    rw [e0]
    clear e0 hq
    go_enter Try.func19, Try.ntmps19
    go_wp2_with fail
    refine (HM.out _ grows).mono ?_
    rintro e w1 ⟨rfl, x1⟩
    have s1 := Step.mk x1
    clear x1
    go_wp2_with fail
    refine (HP.out _ grows).mono ?_
    rintro e w2 ⟨rfl, x2⟩
    have s2 := Step.mk x2
    clear x2
    go_wp2_with fail
    go_ret3
    exact ⟨rfl, grows⟩
end Go.Proofs.Yteefchbpojcklaa
