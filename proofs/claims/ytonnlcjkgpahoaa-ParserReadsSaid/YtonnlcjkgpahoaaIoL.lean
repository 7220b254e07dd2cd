/- The laws of layer 2: what they share. No condition. -/
import Derived.Test.YtonnlcjkgpahoaaIoP
namespace Go.Proofs.Ytonnlcjkgpahoaa
open Go.RowKit

theorem src_str {w : World} {v : Value} {l : List Int} (h : Src w v 1 l.length (u8s l)) : (convert 35 9 v).run Try.prog w = .ok (.string (strOfNums l)) w := by
  obtain ⟨h1, h2, h3⟩ := h
  rcases h3 with ⟨rfl, h0⟩ | ⟨ad, c, rfl, h4⟩
  · obtain rfl : l = [] := List.length_eq_zero_iff.1 h0
    exact run_convert_bytes_nil w _ _ Try.underlying35 Try.underlying5 _ _ _ Try.underlying9
  · have hl : (loadCells ad l.length).run Try.prog w = .ok (l.map (Value.int .u8)).toArray w := by
      have := run_loadCells_list (P := Try.prog) w ad (l.map (Value.int .u8)) h4
      simpa using this
    rw [run_convert_bytes_string w _ _ _ _ _ _ Try.underlying35 Try.underlying5 Try.underlying9, run_bytesToString w ad _ _ l hl, foldl_push_bytes]
    simp [strOfNums, ByteArray.empty, ByteArray.emptyWithCapacity]
    rfl
theorem src_new (w : World) (b : Nat) (hb : b = w.heap.size) (us : List Value) (t : TypeId) (f : Nat × Nat) (n c : Nat) (hn : n = us.length) (h : ∀ u ∈ us, u.oneCell' = true) :
    Src (w.alloc (.cells us.toArray t f)) (.slice (some ⟨b, 0, none⟩) n c) 1 n us := by
  subst hb hn
  refine ⟨by simp, h, .inr ⟨_, _, rfl, fun j u hj => ?_⟩⟩
  rw [add_mk, Nat.zero_add, cell_of (alloc_heap _ _)]
  simpa using hj
theorem i64s_one (l : List Int) : ∀ u ∈ i64s l, u.oneCell' = true := by
  intro u hu; obtain ⟨x, _, rfl⟩ := List.mem_map.1 hu; rfl

theorem eqU_same {W : World} {va vb : Value} {l : List Int} (ha : Src W va 1 l.length (u32s l)) (hb : Src W vb 1 l.length (u32s l)) (hl : l.length ≤ 1000000) :
    Calls Try.prog 41 #[va, vb] W (Rets W (.bool true)) := by
  obtain ⟨oa, ca, rfl, hna⟩ := ha.slice
  obtain ⟨ob, cb, rfl, hnb⟩ := hb.slice
  have HA := Lib.hid ha
  have HB := Lib.hid hb
  have HNA := Lib.hid hna
  have HNB := Lib.hid hnb
  clear ha hb hna hnb
  go_enter Try.func41, Try.ntmps41
  go_wp2_with fail
  go_loopw [5] (fun i wr => ∃ k : Nat, k ≤ l.length ∧ i = .int .i64 k ∧ Ext W wr) (fun i _ => l.length - (intOf i).toNat)
  case atStart => exact ⟨0, Nat.zero_le _, rfl, Ext.refl _⟩
  case round =>
    obtain ⟨k, hk, rfl, hx⟩ := hrel
    by_cases hlt : k < l.length
    · obtain ⟨x, hxk⟩ : ∃ x, l[k]? = some x := ⟨_, List.getElem?_eq_getElem hlt⟩
      cases oa with
      | none => have := HNA.out rfl; omega
      | some ad =>
      cases ob with
      | none => have := HNB.out rfl; omega
      | some bd =>
      obtain ⟨ea, _, ca'⟩ := HA.out.at (by omega)
      obtain ⟨eb, _, cb'⟩ := HB.out.at (by omega)
      obtain ⟨ab, ao, asp⟩ := ad
      obtain ⟨bb, bo, bsp⟩ := bd
      simp only [Addr.mk.injEq, true_and] at ea eb
      subst ea; subst eb
      dsimp only at ca' cb'
      have f1 := Later.cell (hx.cell (ca' k _ (u32s_get hxk)))
      have f2 := Later.cell (hx.cell (cb' k _ (u32s_get hxk)))
      clear ca' cb' hxk
      go_wp2_with fail
      refine wp_region_later (W := wr) (by kernel_rfl) (by kernel_rfl) (Ext.refl _) ?_
      repeat (go_big_quiet_step (fail))
      refine wpQuiet_nil ?_
      intro w2 hx2
      go_wp2
      go_roundw
      case rel => exact ⟨k + 1, by omega, by go_num, hx.trans hx2⟩
      case measure => simp [intOf]; omega
    · obtain rfl : k = l.length := by omega
      go_wp2
      go_ret
      exact ⟨rfl, hx⟩

theorem wk_packE : Io.packE [1, 5] [4, 4] = 0 := by decide +kernel
theorem wk_packB : Io.packB [1, 5] [4, 4] = [21] := by decide +kernel
theorem wk_unE : Io.unE [18, 52] [12, 4] = 0 := by decide +kernel
theorem wk_unV : Io.unV [18, 52] [12, 4] = [291, 4] := by decide +kernel
theorem wk_rdE : Io.rdE [18, 52] 0 12 = 0 := by decide +kernel
theorem wk_rdV : Io.rdV [18, 52] 0 12 = 291 := by decide +kernel
theorem wk_rdP : Io.rdP [18, 52] 0 12 = 12 := by decide +kernel
theorem wk_bytes : Io.Bytes [18, 52] := by intro x hx; simp at hx; rcases hx with rfl | rfl <;> decide
end Go.Proofs.Ytonnlcjkgpahoaa
