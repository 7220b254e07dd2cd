/- The reference of layer 2, walked: Rest. No condition. -/
import Derived.Test.YtonnlcjkgpahoaaIoF
namespace Go.Proofs.Ytonnlcjkgpahoaa
open Go.RowKit

theorem rRest_width {W : World} {oa : Option Addr} {n c pos : Nat} (hk : pos % 8 ≠ 0) (hp : pos ≤ 1152921504606846976) :
    Calls Try.prog 90 #[.agg #[.slice oa n c, .int .i64 pos]] W (Rets W (.tuple #[.slice none 0 0, .int .i64 10])) := by
  have hne2 : ((pos : Int) % 8 != 0) = true := by simp; omega
  clear hk
  go_enter Try.func90, Try.ntmps90
  go_wp2
  go_ret2
  exact ⟨rfl, (Ext.refl W).alloc _⟩
theorem rRest_ok {w : World} {base : Nat} {oa : Option Addr} {c pos : Nat} {l : List Int} (h : w.ownsRow base 5 1 (.slice oa l.length c) l.length (u8s l)) (hp : pos ≤ 8 * l.length) (hk : pos % 8 = 0) (hl : l.length ≤ 140737488355328) :
    Calls Try.prog 90 #[.agg #[.slice oa l.length c, .int .i64 pos]] w
      fun e w' => ∃ v, e = .returned (.tuple #[v, .int .i64 0]) ∧ Ext w w' ∧ w'.ownsRow w.heap.size 5 1 v (l.drop (pos / 8)).length (u8s (l.drop (pos / 8))) := by
  have hne2 : ((pos : Int) % 8 != 0) = false := by simp; omega
  clear hk
  have H := Lib.hid h
  clear h
  have hsrc : ∀ (w' : World) (o c' : Nat) (g : Nat), (∀ j u, (u8s l)[j]? = some u → w'.cell? ⟨g, j, none⟩ = some u) → (l.length ≤ pos / 8 ∨ o = pos / 8) →
      Src w' (.slice (some ⟨g, o, none⟩) (l.length - pos / 8) c') 1 (l.length - pos / 8) (u8s (l.drop (pos / 8))) := by
    intro w' o c' g hcell ho
    refine ⟨by simp [u8s], u8s_one _, .inr ⟨_, c', rfl, fun j u hj => ?_⟩⟩
    have hlen : j < l.length - pos / 8 := by
      have := (List.getElem?_eq_some_iff.1 hj).1
      simpa [u8s] using this
    obtain rfl : o = pos / 8 := by omega
    rw [add_mk]
    refine hcell _ _ ?_
    simp only [u8s, List.map_drop, List.getElem?_drop] at hj ⊢
    exact hj
  have HS := Lib.hid hsrc
  clear hsrc
  rcases H.out.2 with ⟨hv, hz⟩ | ⟨g, cap, cur, hv, hb, hg, hlc, hcm, hcs, htk⟩
  · simp only [Value.slice.injEq] at hv
    obtain ⟨rfl, _, rfl⟩ := hv
    have hl0 : l = [] := List.eq_nil_of_length_eq_zero hz
    subst hl0
    have hp0 : pos = 0 := by simpa using hp
    subst hp0
    go_enter Try.func90, Try.ntmps90
    go_wp2_with (at_builtin; refine wpList_append_src rfl (.tmp 9) (.tmp 15) 35 rfl w.heap.size 5 (.int .u8 0) 1 1 Try.underlying35 info_u8 rfl (by decide) _ 0 [] rfl (World.ownsRow_nil _ _ _ _) _ 0 [] rfl ?src (by unfold maxLen; omega) (by omega) (by simp) ?_)
    case src => exact ⟨rfl, by simp, .inl ⟨rfl, rfl⟩⟩
    intro v' w' hown hgr _
    have hx := ((Ext.refl w).alloc _).trans (grown_ext hgr)
    clear hgr
    obtain ⟨oa', c', rfl⟩ := own_slice hown
    go_wp2
    go_ret2
    refine ⟨_, rfl, hx, ?_⟩
    first | exact hown | simpa using hown
  · simp only [Value.slice.injEq] at hv
    obtain ⟨rfl, _, rfl⟩ := hv
    have hcell : ∀ j u, (u8s l)[j]? = some u → w.cell? ⟨g, j, none⟩ = some u := fun j u hj => by
      have := H.out.cells (g := g) rfl j u hj
      rw [add_mk, Nat.zero_add] at this; exact this
    have HC := Lib.hid hcell
    unfold maxLen at hcm
    clear hcell htk hcs hg
    by_cases hcap : c = pos / 8
    · have hcap2 : ¬ c ≠ pos / 8 := by omega
      have HCP := Lib.hid hcap
      have HLP := Lib.hid (show l.length ≤ pos / 8 by omega)
      go_enter Try.func90, Try.ntmps90
      go_wp2_with (at_builtin; refine wpList_append_src rfl (.tmp 9) (.tmp 15) 35 rfl w.heap.size 5 (.int .u8 0) 1 1 Try.underlying35 info_u8 rfl (by decide) _ 0 [] rfl (World.ownsRow_nil _ _ _ _) _ (l.length - pos / 8) (u8s (l.drop (pos / 8))) rfl ?src (by unfold maxLen; omega) (by omega) (by simp) ?_)
      case src => exact HS.out _ _ _ _ (fun j u hj => ((Ext.refl w).alloc _).cell (HC.out j u hj)) (.inl HLP.out)
      intro v' w' hown hgr _
      have hx := ((Ext.refl w).alloc _).trans (grown_ext hgr)
      clear hgr
      obtain ⟨oa', c', rfl⟩ := own_slice hown
      go_wp2
      go_ret2
      refine ⟨_, rfl, hx, ?_⟩
      rw [List.length_drop]
      first | exact hown | simpa using hown
    · go_enter Try.func90, Try.ntmps90
      go_wp2_with (at_builtin; refine wpList_append_src rfl (.tmp 9) (.tmp 15) 35 rfl w.heap.size 5 (.int .u8 0) 1 1 Try.underlying35 info_u8 rfl (by decide) _ 0 [] rfl (World.ownsRow_nil _ _ _ _) _ (l.length - pos / 8) (u8s (l.drop (pos / 8))) rfl ?src (by unfold maxLen; omega) (by omega) (by simp) ?_)
      case src => exact HS.out _ _ _ _ (fun j u hj => ((Ext.refl w).alloc _).cell (HC.out j u hj)) (.inr rfl)
      intro v' w' hown hgr _
      have hx := ((Ext.refl w).alloc _).trans (grown_ext hgr)
      clear hgr
      obtain ⟨oa', c', rfl⟩ := own_slice hown
      go_wp2
      go_ret2
      refine ⟨_, rfl, hx, ?_⟩
      rw [List.length_drop]
      first | exact hown | simpa using hown
end Go.Proofs.Ytonnlcjkgpahoaa
