/- The laws of layer 2, walked: packing again what was unpacked. No condition. -/
import Derived.Test.YtonnlcjkgpahoaaIoL2
import Derived.Test.YtonnlcjkgpahoaaIoV
import Derived.Test.YtonnlcjkgpahoaaBvL
namespace Go.Proofs.Ytonnlcjkgpahoaa
open Go.RowKit

theorem row_take {k : IntKind} {w : World} {a : Option Addr} {len cap : Nat} {zs : List Int} (h : IsRow k w a len cap zs) :
    ∃ l : List Int, len = l.length ∧ l.length ≤ maxLen ∧ Src w (.slice a l.length cap) 1 l.length (l.map (.int k)) ∧ ∀ x ∈ l, (Lit.int k x).wf = true := by
  rcases h with ⟨rfl, rfl, rfl, rfl⟩ | ⟨x, rfl, h1, h2, h3, h4, h5⟩
  · exact ⟨[], rfl, Nat.zero_le _, ⟨rfl, by simp, .inl ⟨rfl, rfl⟩⟩, by simp⟩
  · have hl : (zs.take len).length = len := by rw [List.length_take]; omega
    refine ⟨zs.take len, hl.symm, by rw [hl]; omega, ?_, fun y hy => h5 y (List.mem_of_mem_take hy)⟩
    refine ⟨by simp, ?_, .inr ⟨x, cap, rfl, fun j u hj => ?_⟩⟩
    · intro u hu; obtain ⟨y, _, rfl⟩ := List.mem_map.1 hu; rfl
    · have hjl : j < len := by
        rcases Nat.lt_or_ge j len with h | h
        · exact h
        · rw [List.getElem?_eq_none (by rw [List.length_map, hl]; exact h)] at hj; cases hj
      rw [h4 j (by omega)]
      rw [List.getElem?_map, List.getElem?_take, if_pos hjl] at hj
      rw [List.getD_eq_getElem?_getD]
      rw [List.getElem?_eq_getElem (by omega)] at hj ⊢
      simpa using hj
theorem wf_u8 {a : Int} (h : (Lit.int .u8 a).wf = true) : 0 ≤ a ∧ a ≤ 255 := by
  simp [Lit.wf, IntKind.min, IntKind.max, IntKind.bits, IntKind.signed] at h; omega
theorem info_i64 : (Try.prog.info? 3).map (fun i => (i.zero, i.size, i.bytes)) = some (some (.int .i64 0), 1, 8) := by kernel_rfl

end Go.Proofs.Ytonnlcjkgpahoaa
