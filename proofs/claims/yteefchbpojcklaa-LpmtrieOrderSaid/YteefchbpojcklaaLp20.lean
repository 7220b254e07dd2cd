/- Tries of prefixes: the law's same and empty, walked. No condition. -/
import Derived.Test.YteefchbpojcklaaLp19
namespace Go.Proofs.Yteefchbpojcklaa
open Go.RowKit

theorem pairs_at {W : World} {w : Nat} {la : Option Addr} {n lc : Nat} {L : List Lp.Item} (h : Rows W 3 (PairR w) (.slice la n lc) L) (hn : 0 < L.length) : ∃ b o, la = some ⟨b, o, none⟩ ∧ n = L.length ∧ ∀ (i V N : Nat) (X : Int), L[i]? = some (V, N, X) →
    W.cell? ⟨b, o + i * 3, none⟩ = some (.int .u32 V) ∧ W.cell? ⟨b, o + i * 3 + 1, none⟩ = some (.int .u32 (Bv.pmask N w)) ∧ W.cell? ⟨b, o + i * 3 + 2, none⟩ = some (.int .i64 X) := by
  obtain ⟨b, o, h1, h2, h3⟩ := h.at hn
  refine ⟨b, o, h1, h2, fun i V N X hi => ?_⟩
  obtain ⟨cs, _, rfl, hc⟩ := h3 i _ hi
  exact ⟨hc 0 _ rfl, hc 1 _ rfl, hc 2 _ rfl⟩
theorem pairs_ext {W W' : World} {w : Nat} {v : Value} {L : List Lp.Item} (h : Rows W 3 (PairR w) v L) (hx : Ext W W') : Rows W' 3 (PairR w) v L := h.ext (fun cs d (k : PairR w W cs d) => (show PairR w W' cs d from k)) hx
set_option maxRecDepth 8000 in
set_option maxHeartbeats 4000000 in
theorem same_any {W0 W : World} {g w : Nat} {T : Lp.Tr} {la : Option Addr} {lc : Nat} {L : List Lp.Item} (h : Ag W0 W g w T (.slice la L.length lc) L) (hl : L.length ≤ 1000) :
    Calls Try.prog 15 #[.pointer (some ⟨g, 0, none⟩), .agg #[.int .i64 w, .slice la L.length lc]] W (Rets W (.bool true)) := by
  have HC : Hid (∀ w', Ext W w' → Calls Try.prog 17 #[.pointer (some ⟨g, 0, none⟩), .int .i64 ((L.length : Int) + 1)] w' (fun e W' => ∃ v, e = .returned (.tuple #[v, .bool true]) ∧ Ext w' W' ∧ Rows W' 3 (PairR w) v L)) := Lib.hid (fun w' hx => by
    have h1 := collect_any (h.is.ext hx).gives (by rw [h.eq]; exact hl) (L.length + 1) (by omega)
    rw [h.eq, List.take_of_length_le (by omega)] at h1
    exact h1)
  have HL : Hid (∀ w', Ext W w' → Calls Try.prog 22 #[.pointer (some ⟨g, 0, none⟩)] w' (Rets w' (.int .i64 L.length))) := Lib.hid (fun w' hx => by
    have h1 := len_any (h.is.ext hx).gives (by rw [h.eq]; exact hl)
    rw [h.eq] at h1; exact h1)
  have HM : Hid (∀ w' (a : Lp.Item), a ∈ L → Calls Try.prog 29 #[.agg #[.int .i64 w, .slice la L.length lc], .agg #[.int .u32 a.1, .int .i64 a.2.1, .int .i64 a.2.2]] w' (Rets w' (.agg #[.int .u32 a.1, .int .u32 (Bv.pmask a.2.1 w)]))) := Lib.hid (fun w' a ha => r9match_any h.is.lo h.is.hi _ a (by rw [← h.eq] at ha; exact (Lp.con_le T a.1 a.2.1 a.2.2 ha).1) ⟨_, _, _, rfl⟩)
  have HR := Lib.hid h.own.rows
  have b3 := alloc_heap W (.cells #[.int .i64 w, .slice la L.length lc] 32)
  have p0 := alw (cell_of (o := 0) b3)
  have p1 := alw (cell_of (o := 1) b3)
  clear b3 h
  go_enter Try.func15, Try.ntmps15
  go_wp2_with fail
  refine (HC.out _ grows).mono ?_
  rintro e w1 ⟨v, rfl, x1, r1⟩
  obtain ⟨pa, pc, rfl, hpc, _⟩ := r1.slice
  have s1 := Step.mk x1
  have R1 := Lib.hid r1
  clear x1 r1
  go_wp2_with fail
  refine wp_region_later (W := w1) (by kernel_rfl) (by kernel_rfl) grows ?_
  repeat (go_big_quiet_step ((go_at_call 22; exact Rets.later_at (HL.out _ grows))))
  refine wpQuiet_nil ?_
  intro w2 x2
  have s2 := Step.mk x2
  clear x2
  go_wp2_with fail
  go_loopw [7] (fun i wr => ∃ k : Nat, k ≤ L.length ∧ i = .int .i64 k ∧ Ext w1 wr) (fun i _ => L.length - (intOf i).toNat)
  case atStart => exact ⟨0, Nat.zero_le _, rfl, grows⟩
  case round =>
    obtain ⟨k, hk, rfl, hx⟩ := hrel
    have s3 := Step.mk hx
    clear hx
    rcases Nat.lt_or_ge k L.length with hkl | hkl
    · obtain ⟨b, o, rfl, _, hat⟩ := items_at HR.out (by omega)
      obtain ⟨b', o', rfl, _, hat'⟩ := pairs_at R1.out (by omega)
      obtain ⟨⟨V, N, X⟩, ha⟩ : ∃ a, L[k]? = some a := ⟨_, List.getElem?_eq_getElem hkl⟩
      obtain ⟨q0, q1, q2⟩ := hat k V N X ha
      obtain ⟨q3, q4, q5⟩ := hat' k V N X ha
      have HMK : Hid (∀ w', Calls Try.prog 29 #[.agg #[.int .i64 w, .slice (some ⟨b, o, none⟩) L.length lc], .agg #[.int .u32 V, .int .i64 N, .int .i64 X]] w' (Rets w' (.agg #[.int .u32 V, .int .u32 (Bv.pmask N w)]))) := Lib.hid (fun w' => HM.out w' (V, N, X) (List.mem_of_getElem? ha))
      have q0 := alw q0
      have q1 := alw q1
      have q2 := alw q2
      have q3 := alw q3
      have q4 := alw q4
      have q5 := alw q5
      obtain ⟨pm, hpm⟩ : ∃ z, z = Bv.pmask N w := ⟨_, rfl⟩
      rw [← hpm] at HMK q4
      have d3 : decide (k < L.length) = true := decide_eq_true hkl
      clear hat hat' ha hpm
      go_wp2_with fail
      refine wp_region_later (W := w1) (by kernel_rfl) (by kernel_rfl) grows ?_
      repeat (go_big_quiet_step ((go_at_call 29; exact Rets.later_at (HMK.out _))))
      refine wpQuiet_nil ?_
      intro w4 x4
      have s4 := Step.mk x4
      clear x4
      go_wp2_with fail
      go_roundw
      case rel => exact ⟨k + 1, by omega, by go_num, grows⟩
      case measure => simp [intOf]; omega
    · obtain rfl : k = L.length := by omega
      go_wp2_with fail
      go_ret
      exact ⟨rfl, grows⟩
end Go.Proofs.Yteefchbpojcklaa
