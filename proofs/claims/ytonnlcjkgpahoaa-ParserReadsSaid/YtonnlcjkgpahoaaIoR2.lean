/- Rest, walked; nil and unmade readers. No condition. -/
import Derived.Test.YtonnlcjkgpahoaaIoR
import Derived.Test.YtonnlcjkgpahoaaTail
namespace Go.Proofs.Ytonnlcjkgpahoaa
open Go.RowKit

theorem rest_width {w : World} {base p : Nat} {oa : Option Addr} {n c : Nat} {l : List Int} {pos : Nat} (h : RdrAt w base p oa n c l pos) (hk : pos % 8 ≠ 0) :
    Calls Try.prog 42 #[.pointer (some ⟨p, 0, none⟩)] w (Rets w (.tuple #[.slice none 0 0, .int .i64 10])) := by
  have c1 : w.cell? ⟨p, 1, none⟩ = some (.int .i64 pos) := cell_of h.blk
  have hne2 : ((pos : Int) % 8 != 0) = true := by simp; omega
  have H := Lib.hid h
  clear h
  go_enter Try.func42, Try.ntmps42
  go_wp2_with (go_at_call 67; refine (rvalid_at H.out).mono ?_; rintro e w1 ⟨rfl, rfl⟩)
  go_ret2
  exact ⟨rfl, Ext.refl _⟩
theorem rest_ok {w : World} {base p : Nat} {oa : Option Addr} {n c : Nat} {l : List Int} {pos : Nat} (h : RdrAt w base p oa n c l pos) (hk : pos % 8 = 0) (hl : l.length ≤ 140737488355328) :
    Calls Try.prog 42 #[.pointer (some ⟨p, 0, none⟩)] w
      fun e w' => ∃ v, e = .returned (.tuple #[v, .int .i64 0]) ∧ Ext w w' ∧ w'.ownsRow w.heap.size 5 1 v (l.drop (pos / 8)).length (u8s (l.drop (pos / 8))) := by
  have c1' : w.cell? ⟨p, 1, none⟩ = some (.int .i64 pos) := cell_of h.blk
  have hp := h.pos_le
  obtain rfl := h.len
  have c0 := Later.cell (W := w) (p := ⟨p, 0, none⟩) (v := .slice oa l.length c) (cell_of h.blk)
  have c1 := Later.cell c1'
  have H := Lib.hid h
  clear h
  have hne2 : ((pos : Int) % 8 != 0) = false := by simp; omega
  clear hk
  have hsrc : ∀ (w' : World) (o c' : Nat) (g : Nat), (∀ j u, (u8s l)[j]? = some u → w'.cell? ⟨g, j, none⟩ = some u) → (l.length ≤ pos / 8 ∨ o = pos / 8) →
      Src w' (.slice (some ⟨g, o, none⟩) (l.length - pos / 8) c') 1 (l.length - pos / 8) (u8s (l.drop (pos / 8))) := by
    intro w' o c' g hcell ho
    refine ⟨by simp [u8s], u8s_one _, .inr ⟨_, c', rfl, fun j u hj => ?_⟩⟩
    have hlen : j < l.length - pos / 8 := by
      have := (List.getElem?_eq_some_iff.1 hj).1
      simpa [u8s] using this
    obtain rfl : o = pos / 8 := by omega
    rw [add_mk]
    refine hcell _ _ ?_
    simp only [u8s, List.map_drop, List.getElem?_drop] at hj ⊢
    exact hj
  have HS := Lib.hid hsrc
  clear hsrc
  rcases H.out.row.2 with ⟨hv, hz⟩ | ⟨g, cap, cur, hv, hb, hg, hlc, hcm, hcs, htk⟩
  · simp only [Value.slice.injEq] at hv
    obtain ⟨rfl, _, rfl⟩ := hv
    have hl0 : l = [] := List.eq_nil_of_length_eq_zero hz
    subst hl0
    have hp0 : pos = 0 := by simpa using hp
    subst hp0
    go_enter Try.func42, Try.ntmps42
    go_wp2_with (go_at_call 67; refine (rvalid_at H.out).mono ?_; rintro e w1 ⟨rfl, rfl⟩)
    refine wp_region_later_tail (W := w) 10 (by kernel_rfl) (by kernel_rfl) (Ext.refl _) ?_
    simp only [List.take_succ_cons, List.take_zero, List.drop_succ_cons, List.drop_zero]
    repeat (go_big_quiet_step (fail))
    refine wpQuiet_nil ?_
    intro w2 hx2
    have hsz := hx2.le
    refine wpList_append_src rfl (.const (.slice none 0 0)) (.tmp 22) 35 rfl w.heap.size 5 (.int .u8 0) 1 1 Try.underlying35 info_u8 rfl (by decide) _ 0 [] rfl (World.ownsRow_nil _ _ _ _) _ 0 [] rfl ?src (by unfold maxLen; omega) (by omega) (by omega) ?_
    case src => exact ⟨rfl, by simp, .inl ⟨rfl, rfl⟩⟩
    intro v' w' hown hgr _
    have hx := grown_ext hgr
    clear hgr
    obtain ⟨oa', c', rfl⟩ := own_slice hown
    go_wp2
    go_ret2
    refine ⟨_, rfl, hx2.trans hx, ?_⟩
    first | exact hown | simpa using hown
  · simp only [Value.slice.injEq] at hv
    obtain ⟨rfl, _, rfl⟩ := hv
    have hcell : ∀ j u, (u8s l)[j]? = some u → w.cell? ⟨g, j, none⟩ = some u := fun j u hj => by
      have := H.out.row.cells (g := g) rfl j u hj
      rw [add_mk, Nat.zero_add] at this; exact this
    have HC := Lib.hid hcell
    unfold maxLen at hcm
    clear hcell htk hcs hg
    by_cases hcap : c = pos / 8
    · have hcap2 : ¬ c ≠ pos / 8 := by omega
      have HCP := Lib.hid hcap
      have HLP := Lib.hid (show l.length ≤ pos / 8 by omega)
      go_enter Try.func42, Try.ntmps42
      go_wp2_with (go_at_call 67; refine (rvalid_at H.out).mono ?_; rintro e w1 ⟨rfl, rfl⟩)
      refine wp_region_later_tail (W := w) 10 (by kernel_rfl) (by kernel_rfl) (Ext.refl _) ?_
      simp only [List.take_succ_cons, List.take_zero, List.drop_succ_cons, List.drop_zero]
      repeat (go_big_quiet_step (fail))
      refine wpQuiet_nil ?_
      intro w2 hx2
      have hsz := hx2.le
      refine wpList_append_src rfl (.const (.slice none 0 0)) (.tmp 22) 35 rfl w.heap.size 5 (.int .u8 0) 1 1 Try.underlying35 info_u8 rfl (by decide) _ 0 [] rfl (World.ownsRow_nil _ _ _ _) _ (l.length - pos / 8) (u8s (l.drop (pos / 8))) rfl ?src (by unfold maxLen; omega) (by omega) (by omega) ?_
      case src => exact HS.out _ _ _ _ (fun j u hj => hx2.cell (HC.out j u hj)) (.inl HLP.out)
      intro v' w' hown hgr _
      have hx := grown_ext hgr
      clear hgr
      obtain ⟨oa', c', rfl⟩ := own_slice hown
      go_wp2
      go_ret2
      refine ⟨_, rfl, hx2.trans hx, ?_⟩
      rw [List.length_drop]
      first | exact hown | simpa using hown
    · go_enter Try.func42, Try.ntmps42
      go_wp2_with (go_at_call 67; refine (rvalid_at H.out).mono ?_; rintro e w1 ⟨rfl, rfl⟩)
      refine wp_region_later_tail (W := w) 10 (by kernel_rfl) (by kernel_rfl) (Ext.refl _) ?_
      simp only [List.take_succ_cons, List.take_zero, List.drop_succ_cons, List.drop_zero]
      repeat (go_big_quiet_step (fail))
      refine wpQuiet_nil ?_
      intro w2 hx2
      have hsz := hx2.le
      refine wpList_append_src rfl (.const (.slice none 0 0)) (.tmp 22) 35 rfl w.heap.size 5 (.int .u8 0) 1 1 Try.underlying35 info_u8 rfl (by decide) _ 0 [] rfl (World.ownsRow_nil _ _ _ _) _ (l.length - pos / 8) (u8s (l.drop (pos / 8))) rfl ?src (by unfold maxLen; omega) (by omega) (by omega) ?_
      case src => exact HS.out _ _ _ _ (fun j u hj => hx2.cell (HC.out j u hj)) (.inr rfl)
      intro v' w' hown hgr _
      have hx := grown_ext hgr
      clear hgr
      obtain ⟨oa', c', rfl⟩ := own_slice hown
      go_wp2
      go_ret2
      refine ⟨_, rfl, hx2.trans hx, ?_⟩
      rw [List.length_drop]
      first | exact hown | simpa using hown
end Go.Proofs.Ytonnlcjkgpahoaa
