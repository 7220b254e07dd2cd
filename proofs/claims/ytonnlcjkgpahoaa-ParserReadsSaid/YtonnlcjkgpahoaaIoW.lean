/- The writers of layer 2, walked. No condition. -/
import Derived.Test.YtonnlcjkgpahoaaIoR
import Derived.Test.YtonnlcjkgpahoaaTail
import Derived.Test.YtonnlcjkgpahoaaBvW
namespace Go.Proofs.Ytonnlcjkgpahoaa
open Go.RowKit

/-- a writer's block, its bytes X and its count m -/
structure RawW (w : World) (base p : Nat) (oa : Option Addr) (n c : Nat) (X : List Int) (m : Nat) : Prop where
  blk : w.heap[p]? = some (.cells #[.slice oa n c, .int .i64 m, .bool true] 110 (0, 0))
  row : w.ownsRow base 5 1 (.slice oa n c) X.length (u8s X)
  len : n = X.length
  le : base ≤ p
/-- a writer made by NewWriter that holds the bits L -/
structure WrtAt (w : World) (base p : Nat) (oa : Option Addr) (n c : Nat) (L : List Int) : Prop where
  raw : RawW w base p oa n c (Io.pack L) L.length
  bits : Io.Bits L
/-- the blocks that a writer writes into -/
def WS (p : Nat) (oa : Option Addr) (n c : Nat) (k : Nat) : Prop := k = p ∨ some k = (Value.slice oa n c).ownBlock

theorem RawW.apart {w : World} {base p : Nat} {oa : Option Addr} {n c : Nat} {X : List Int} {m : Nat} (h : RawW w base p oa n c X m) : ∀ k, (Value.slice oa n c).ownBlock = some k → k ≠ p := by
  intro k hk e
  rcases h.row.2 with ⟨h1, _⟩ | ⟨g, cap, cur, h1, _, hg, _⟩
  · rw [h1] at hk; simp [Value.ownBlock] at hk
  · rw [h1] at hk; simp [Value.ownBlock] at hk
    subst hk; subst e
    exact ne_of_type hg h.blk (by decide) rfl
theorem RawW.ext {w w' : World} {base p : Nat} {oa : Option Addr} {n c : Nat} {X : List Int} {m : Nat} (h : RawW w base p oa n c X m) (hx : Ext w w') : RawW w' base p oa n c X m :=
  ⟨hx.heap h.blk, own_ext h.row hx, h.len, h.le⟩
theorem WrtAt.ext {w w' : World} {base p : Nat} {oa : Option Addr} {n c : Nat} {L : List Int} (h : WrtAt w base p oa n c L) (hx : Ext w w') : WrtAt w' base p oa n c L := ⟨h.raw.ext hx, h.bits⟩
theorem RawW.count {w : World} {base p : Nat} {oa : Option Addr} {n c : Nat} {X : List Int} {m : Nat} (h : RawW w base p oa n c X m) (q : Nat) :
    RawW (w.setCell ⟨p, 1, none⟩ (.int .i64 q)) base p oa n c X q ∧ Mod (WS p oa n c) w (w.setCell ⟨p, 1, none⟩ (.int .i64 q)) := by
  have hm := (Mod.refl (· = p) w).setCell (p := ⟨p, 1, none⟩) (.inl rfl) (.int .i64 q)
  exact ⟨⟨setCell_heap h.blk, own_mod h.row hm h.apart, h.len, h.le⟩, hm.mono fun k _ hk => .inl hk⟩
theorem RawW.put {w : World} {base p g : Nat} {n c : Nat} {X : List Int} {m : Nat} (h : RawW w base p (some ⟨g, 0, none⟩) n c X m) (j : Nat) (x : Int) :
    RawW (w.setCell ⟨g, j, none⟩ (.int .u8 x)) base p (some ⟨g, 0, none⟩) n c (X.set j x) m ∧ Mod (WS p (some ⟨g, 0, none⟩) n c) w (w.setCell ⟨g, j, none⟩ (.int .u8 x)) := by
  have hne : g ≠ p := h.apart g rfl
  obtain rfl := h.len
  have hs := h.row.stored j (.int .u8 x)
  have hm := grown_mod hs.2
  refine ⟨⟨hm.heap h.blk (by simpa using Ne.symm hne), ?_, by simp, h.le⟩, hm.mono fun k _ hk => .inr hk⟩
  have e : u8s (X.set j x) = (u8s X).set j (.int .u8 x) := by simp [u8s, List.map_set]
  rw [e, List.length_set]; exact hs.1
/-- behind an append: the new slice stored into the field -/
theorem RawW.grow {w w' : World} {base p : Nat} {oa oa' : Option Addr} {n c c' n' : Nat} {X Y : List Int} {m : Nat} (h : RawW w base p oa n c X m)
    (hrow : w'.ownsRow base 5 1 (.slice oa' n' c') Y.length (u8s Y)) (hn : n' = Y.length) (hg : w.grownBy w' (Value.slice oa n c).ownBlock) :
    RawW (w'.setCell ⟨p, 0, none⟩ (.slice oa' n' c')) base p oa' n' c' Y m ∧ Mod (WS p oa n c) w (w'.setCell ⟨p, 0, none⟩ (.slice oa' n' c')) := by
  have hm := grown_mod hg
  have hb : w'.heap[p]? = _ := hm.heap h.blk (fun e => h.apart p e.symm rfl)
  have hm2 := (Mod.refl (· = p) w').setCell (p := ⟨p, 0, none⟩) (.inl rfl) (.slice oa' n' c')
  refine ⟨⟨setCell_heap hb, own_mod hrow hm2 ?_, hn, h.le⟩, (hm.mono fun k _ hk => .inr hk).trans (hm2.mono fun k _ hk => .inl hk)⟩
  intro k hk e
  rcases hrow.2 with ⟨h1, _⟩ | ⟨g, cap, cur, h1, _, hg, _⟩
  · rw [h1] at hk; simp [Value.ownBlock] at hk
  · rw [h1] at hk; simp [Value.ownBlock] at hk
    subst hk; subst e
    exact ne_of_type hg hb (by decide) rfl

theorem newWriter_any (W : World) : Calls Try.prog 45 #[] W fun e W' => ∃ p, e = .returned (.pointer (some ⟨p, 0, none⟩)) ∧ Ext W W' ∧ WrtAt W' W.heap.size p none 0 0 [] := by
  go_enter Try.func45, Try.ntmps45
  go_wp2
  go_ret
  exact ⟨W.heap.size, rfl, (Ext.refl W).alloc _, ⟨alloc_heap _ _, World.ownsRow_nil _ _ _ _, rfl, Nat.le_refl _⟩, fun b hb => by simp at hb⟩
theorem bytes_width {w : World} {base p : Nat} {oa : Option Addr} {n c : Nat} {L : List Int} (h : WrtAt w base p oa n c L) (hk : L.length % 8 ≠ 0) :
    Calls Try.prog 48 #[.pointer (some ⟨p, 0, none⟩)] w (Rets w (.tuple #[.slice none 0 0, .int .i64 10])) := by
  have c1 : w.cell? ⟨p, 1, none⟩ = some (.int .i64 L.length) := cell_of h.raw.blk
  have c2 : w.cell? ⟨p, 2, none⟩ = some (.bool true) := cell_of h.raw.blk
  have hne2 : ((L.length : Int) % 8 != 0) = true := by simp; omega
  clear h
  go_enter Try.func48, Try.ntmps48
  go_wp2
  go_ret2
  exact ⟨rfl, Ext.refl _⟩
theorem bytes_ok {w : World} {base p : Nat} {oa : Option Addr} {n c : Nat} {L : List Int} (h : WrtAt w base p oa n c L) (hk : L.length % 8 = 0) (hl : L.length ≤ 1125899906842624) :
    Calls Try.prog 48 #[.pointer (some ⟨p, 0, none⟩)] w
      fun e w' => ∃ v, e = .returned (.tuple #[v, .int .i64 0]) ∧ Ext w w' ∧ w'.ownsRow w.heap.size 5 1 v (Io.pack L).length (u8s (Io.pack L)) := by
  have c0 : w.cell? ⟨p, 0, none⟩ = some (.slice oa n c) := cell_of h.raw.blk
  have c1 : w.cell? ⟨p, 1, none⟩ = some (.int .i64 L.length) := cell_of h.raw.blk
  have c2 : w.cell? ⟨p, 2, none⟩ = some (.bool true) := cell_of h.raw.blk
  have hne2 : ((L.length : Int) % 8 != 0) = false := by simp; omega
  have hs := Lib.hid (own_src h.raw.row (u8s_one _))
  have hpl := Io.pack_len L
  have hpl2 : (Io.pack L).length ≤ 140737488355328 := by omega
  clear h hk hpl
  go_enter Try.func48, Try.ntmps48
  go_wp2_with (at_builtin; refine wpList_append_src rfl (.const (.slice none 0 0)) (.tmp 22) 35 rfl w.heap.size 5 (.int .u8 0) 1 1 Try.underlying35 info_u8 rfl (by decide) _ 0 [] rfl (World.ownsRow_nil _ _ _ _) _ (Io.pack L).length (u8s (Io.pack L)) rfl hs.out ?c1 ?c2 ?c3 ?_)
  case c1 => unfold maxLen; omega
  case c2 => omega
  case c3 => exact Nat.le_refl _
  intro v' w' hown hgr _
  have hx := grown_ext hgr
  clear hgr
  obtain ⟨oa', c', rfl⟩ := own_slice hown
  go_wp2
  go_ret2
  exact ⟨_, rfl, hx, by simpa using hown⟩
end Go.Proofs.Ytonnlcjkgpahoaa
