/- One call of a reader or a writer, whatever its arguments; first; nil and unmade ones. No condition. -/
import Derived.Test.YtonnlcjkgpahoaaIoR2
import Derived.Test.YtonnlcjkgpahoaaIoW2
namespace Go.Proofs.Ytonnlcjkgpahoaa
open Go.RowKit

theorem readBits_any {w : World} {base p : Nat} {oa : Option Addr} {n c : Nat} {l : List Int} {pos : Nat} (h : RdrAt w base p oa n c l pos) (k : Int) :
    Calls Try.prog 66 #[.pointer (some ⟨p, 0, none⟩), .int .i64 k] w
      fun e w' => e = .returned (.tuple #[.int .u32 (Io.rdV l pos k), .int .i64 (Io.rdE l pos k)]) ∧ Mod (· = p) w w' ∧ RdrAt w' base p oa n c l (Io.rdP l pos k) := by
  have hp := h.pos_le
  by_cases ho : 1 ≤ k ∧ k ≤ 32
  · have hok := Bv.ok_of ho.1 ho.2
    by_cases hs : 8 * (l.length : Int) - pos < k
    · have e : Io.rdE l pos k = 3 := by unfold Io.rdE; rw [if_pos hok, if_pos hs]
      refine (readBits_short h k ho.1 ho.2 hs).mono ?_
      rintro e' w1 ⟨rfl, hx⟩
      refine ⟨by unfold Io.rdV; rw [e]; rfl, Mod.of_ext hx, ?_⟩
      unfold Io.rdP; rw [e]; exact h.ext hx
    · have e : Io.rdE l pos k = 0 := by unfold Io.rdE; rw [if_pos hok, if_neg hs]
      obtain ⟨j, rfl⟩ := Int.eq_ofNat_of_zero_le (show 0 ≤ k by omega)
      refine (readBits_ok h j (by omega) (by omega) (by omega)).mono ?_
      rintro e' w1 ⟨rfl, hm, hr⟩
      refine ⟨by unfold Io.rdV; rw [e]; rfl, hm, ?_⟩
      unfold Io.rdP; rw [e]; exact hr
  · have hok := Bv.not_ok ho
    have e : Io.rdE l pos k = 10 := by unfold Io.rdE; rw [hok]; rfl
    refine (readBits_width h k (by omega)).mono ?_
    rintro e' w1 ⟨rfl, hx⟩
    refine ⟨by unfold Io.rdV; rw [e]; rfl, Mod.of_ext hx, ?_⟩
    unfold Io.rdP; rw [e]; exact h.ext hx

theorem writeBits_width {w : World} {base p : Nat} {oa : Option Addr} {n c : Nat} {L : List Int} (h : WrtAt w base p oa n c L) (v k : Int) (hk : k < 1 ∨ 32 < k) :
    Calls Try.prog 72 #[.pointer (some ⟨p, 0, none⟩), .int .u32 v, .int .i64 k] w (Rets w (.int .i64 10)) := by
  have c2 : w.cell? ⟨p, 2, none⟩ = some (.bool true) := cell_of h.raw.blk
  clear h
  rcases hk with hk | hk
  · go_enter Try.func72, Try.ntmps72
    go_wp2
    go_ret
    exact ⟨rfl, Ext.refl _⟩
  · go_enter Try.func72, Try.ntmps72
    go_wp2
    go_ret
    exact ⟨rfl, Ext.refl _⟩
theorem writeBits_range {w : World} {base p : Nat} {oa : Option Addr} {n c : Nat} {L : List Int} (h : WrtAt w base p oa n c L) (v k : Int) (k1 : 1 ≤ k) (k2 : k ≤ 32) (hf : Bv.fits v k = false) :
    Calls Try.prog 72 #[.pointer (some ⟨p, 0, none⟩), .int .u32 v, .int .i64 k] w (Rets w (.int .i64 9)) := by
  have c2 : w.cell? ⟨p, 2, none⟩ = some (.bool true) := cell_of h.raw.blk
  clear h
  go_enter Try.func72, Try.ntmps72
  go_wp2_with (go_at_call 100; refine (fits_any _ _ _).mono ?_; rintro e w1 ⟨rfl, hx⟩)
  go_ret
  exact ⟨rfl, hx⟩
theorem writeBits_any {w : World} {base p : Nat} {oa : Option Addr} {n c : Nat} {L : List Int} (h : WrtAt w base p oa n c L) (v k : Int) (v0 : 0 ≤ v) (hL : L.length ≤ 1000000000000) :
    Calls Try.prog 72 #[.pointer (some ⟨p, 0, none⟩), .int .u32 v, .int .i64 k] w
      fun e w' => e = .returned (.int .i64 (Io.wrE v k)) ∧ ∃ oa' n' c', Mod (WS p oa n c) w w' ∧ WrtAt w' base p oa' n' c' (Io.wrL L v k) ∧ ∀ q, q < w.heap.size → WS p oa' n' c' q → WS p oa n c q := by
  by_cases ho : 1 ≤ k ∧ k ≤ 32
  · have hok := Bv.ok_of ho.1 ho.2
    cases hf : Bv.fits v k
    · have e : Io.wrE v k = 9 := by unfold Io.wrE; rw [if_pos hok, hf]; rfl
      refine (writeBits_range h v k ho.1 ho.2 hf).mono ?_
      rintro e' w1 ⟨rfl, hx⟩
      refine ⟨by rw [e], oa, n, c, Mod.of_ext hx, ?_, fun _ _ hq => hq⟩
      unfold Io.wrL; rw [e]; exact h.ext hx
    · have e : Io.wrE v k = 0 := by unfold Io.wrE; rw [if_pos hok, hf]; rfl
      obtain ⟨j, rfl⟩ := Int.eq_ofNat_of_zero_le (show 0 ≤ k by omega)
      have hv : v < Bv.pw j := by simp [Bv.fits] at hf; exact hf.2
      refine (writeBits_ok h v j (by omega) (by omega) v0 hv hL).mono ?_
      rintro e' w1 ⟨rfl, oa', n', c', hm, hw, hi⟩
      refine ⟨by rw [e], oa', n', c', hm, ?_, hi⟩
      unfold Io.wrL; rw [e]; exact hw
  · have hok := Bv.not_ok ho
    have e : Io.wrE v k = 10 := by unfold Io.wrE; rw [hok]; rfl
    refine (writeBits_width h v k (by omega)).mono ?_
    rintro e' w1 ⟨rfl, hx⟩
    refine ⟨by rw [e], oa, n, c, Mod.of_ext hx, ?_, fun _ _ hq => hq⟩
    unfold Io.wrL; rw [e]; exact h.ext hx

theorem first_one (b : Nat) (x : Int) (W : World) (hc : W.cell? ⟨b, 0, none⟩ = some (.int .i64 x)) :
    Calls Try.prog 99 #[.slice (some ⟨b, 0, none⟩) 1 1] W fun e W' => e = .returned (.int .i64 x) ∧ W = W' := by
  by_cases h : x = 0
  · subst h
    go_enter Try.func99, Try.ntmps99
    go_wp2
    go_rounds 2
    all_goals (go_ret; exact ⟨rfl, rfl⟩)
  · have h2 : (x != 0) = true := by simpa using h
    clear h
    go_enter Try.func99, Try.ntmps99
    go_wp2
    go_rounds 2
    all_goals (go_ret; exact ⟨rfl, rfl⟩)
theorem first_two (b : Nat) (x : Int) (W : World) (hc : W.cell? ⟨b, 0, none⟩ = some (.int .i64 0)) (hd : W.cell? ⟨b, 1, none⟩ = some (.int .i64 x)) :
    Calls Try.prog 99 #[.slice (some ⟨b, 0, none⟩) 2 2] W fun e W' => e = .returned (.int .i64 x) ∧ W = W' := by
  by_cases h : x = 0
  · subst h
    go_enter Try.func99, Try.ntmps99
    go_wp2
    go_rounds 3
    all_goals (go_ret; exact ⟨rfl, rfl⟩)
  · have h2 : (x != 0) = true := by simpa using h
    clear h
    go_enter Try.func99, Try.ntmps99
    go_wp2
    go_rounds 3
    all_goals (go_ret; exact ⟨rfl, rfl⟩)
end Go.Proofs.Ytonnlcjkgpahoaa
