/- The readers of layer 2, walked. No condition. -/
import Derived.Test.YtonnlcjkgpahoaaMem
import Derived.Test.YtonnlcjkgpahoaaIo
import Derived.Test.YtonnlcjkgpahoaaProg
import Derived.Deep.DeepFit
import Derived.Handy
namespace Go.Proofs.Ytonnlcjkgpahoaa
open Go.RowKit

theorem info_u8 : (Try.prog.info? 5).map (fun i => (i.zero, i.size, i.bytes)) = some (some (.int .u8 0), 1, 1) := by kernel_rfl

def u8s (l : List Int) : List Value := l.map (.int .u8)
theorem u8s_one (l : List Int) : ∀ u ∈ u8s l, u.oneCell' = true := by
  intro u hu; obtain ⟨x, _, rfl⟩ := List.mem_map.1 hu; rfl
theorem u8s_get (l : List Int) (i : Nat) (h : i < l.length) : (u8s l)[i]? = some (.int .u8 (l.getD i 0)) := by
  simp [u8s, List.getElem?_eq_getElem h]
theorem u8s_len (l : List Int) : (u8s l).length = l.length := by simp [u8s]

/-- a reader made by NewReader: its block, its bytes, the bits read -/
structure RdrAt (w : World) (base p : Nat) (oa : Option Addr) (n c : Nat) (l : List Int) (pos : Nat) : Prop where
  blk : w.heap[p]? = some (.cells #[.slice oa n c, .int .i64 pos, .bool true] 103 (0, 0))
  row : w.ownsRow base 5 1 (.slice oa n c) l.length (u8s l)
  len : n = l.length
  le : base ≤ p
  bytes : Io.Bytes l
  small : l.length ≤ 1152921504606846975
  pos_le : pos ≤ 8 * l.length

theorem newReader_any (b : Value) (l : List Int) (W : World) (hs : Src W b 1 l.length (u8s l)) (hb : Io.Bytes l) (hl : l.length ≤ 140737488355328) :
    Calls Try.prog 39 #[b] W fun e W' => ∃ p oa n c, e = .returned (.pointer (some ⟨p, 0, none⟩)) ∧ Ext W W' ∧ RdrAt W' W.heap.size p oa n c l 0 := by
  go_enter Try.func39, Try.ntmps39
  go_wp2_with (at_builtin; refine wpList_append_src rfl (.const (.slice none 0 0)) (.tmp 3) 35 rfl W.heap.size 5 (.int .u8 0) 1 1 Try.underlying35 info_u8 rfl (by decide) _ 0 [] rfl (World.ownsRow_nil _ _ _ _) _ l.length (u8s l) rfl hs ?c1 ?c2 ?c3 ?_)
  case c1 => unfold maxLen; omega
  case c2 => omega
  case c3 => exact Nat.le_refl _
  intro v' w' hown hgr _
  obtain ⟨oa, c, rfl⟩ := own_slice hown
  have hx := grown_ext hgr
  clear hgr
  go_wp2
  go_ret
  refine ⟨w'.heap.size, oa, l.length, c, rfl, hx.alloc _, alloc_heap _ _, own_ext hown ((Ext.refl _).alloc _), rfl, hx.le, hb, by omega, by omega⟩

theorem rvalid_at {w : World} {base p : Nat} {oa : Option Addr} {n c : Nat} {l : List Int} {pos : Nat} (h : RdrAt w base p oa n c l pos) :
    Calls Try.prog 67 #[.pointer (some ⟨p, 0, none⟩)] w fun e w' => e = .returned (.bool true) ∧ w = w' := by
  have c2 : w.cell? ⟨p, 2, none⟩ = some (.bool true) := cell_of h.blk
  clear h
  go_enter Try.func67, Try.ntmps67
  go_wp2
  go_ret
  exact ⟨rfl, rfl⟩
theorem remaining_at {w : World} {base p : Nat} {oa : Option Addr} {n c : Nat} {l : List Int} {pos : Nat} (h : RdrAt w base p oa n c l pos) :
    Calls Try.prog 64 #[.pointer (some ⟨p, 0, none⟩)] w (Rets w (.int .i64 (8 * l.length - pos))) := by
  have c0 := Later.cell (W := w) (p := ⟨p, 0, none⟩) (v := .slice oa n c) (cell_of h.blk)
  have c1 := Later.cell (W := w) (p := ⟨p, 1, none⟩) (v := .int .i64 pos) (cell_of h.blk)
  obtain rfl := h.len
  have hs := h.small
  have hp := h.pos_le
  have H := Lib.hid h
  clear h
  go_enter Try.func64, Try.ntmps64
  go_wp2_with (go_at_call 67; refine (rvalid_at H.out).mono ?_; rintro e w1 ⟨rfl, rfl⟩)
  refine wp_region_later (W := w) (by kernel_rfl) (by kernel_rfl) (Ext.refl _) ?_
  repeat (go_big_quiet_step (fail))
  refine wpQuiet_nil ?_
  intro w1 hx
  go_wp2
  go_ret
  exact ⟨rfl, hx⟩
theorem RdrAt.ext {w w' : World} {base p : Nat} {oa : Option Addr} {n c : Nat} {l : List Int} {pos : Nat} (h : RdrAt w base p oa n c l pos) (hx : Ext w w') : RdrAt w' base p oa n c l pos :=
  ⟨hx.heap h.blk, own_ext h.row hx, h.len, h.le, h.bytes, h.small, h.pos_le⟩
theorem RdrAt.apart {w : World} {base p : Nat} {oa : Option Addr} {n c : Nat} {l : List Int} {pos : Nat} (h : RdrAt w base p oa n c l pos) : ∀ k, (Value.slice oa n c).ownBlock = some k → k ≠ p := by
  intro k hk e
  rcases h.row.2 with ⟨h1, _⟩ | ⟨g, cap, cur, h1, _, hg, _⟩
  · rw [h1] at hk; simp [Value.ownBlock] at hk
  · rw [h1] at hk; simp [Value.ownBlock] at hk
    subst hk; subst e
    exact ne_of_type hg h.blk (by decide) rfl
theorem RdrAt.step {w : World} {base p : Nat} {oa : Option Addr} {n c : Nat} {l : List Int} {pos : Nat} (h : RdrAt w base p oa n c l pos) (q : Nat) (hq : q ≤ 8 * l.length) :
    RdrAt (w.setCell ⟨p, 1, none⟩ (.int .i64 q)) base p oa n c l q ∧ Mod (· = p) w (w.setCell ⟨p, 1, none⟩ (.int .i64 q)) := by
  have hm : Mod (· = p) w (w.setCell ⟨p, 1, none⟩ (.int .i64 q)) := (Mod.refl (· = p) w).setCell (p := ⟨p, 1, none⟩) (.inl rfl) _
  exact ⟨⟨setCell_heap h.blk, own_mod h.row hm h.apart, h.len, h.le, h.bytes, h.small, hq⟩, hm⟩

theorem readBits_ok {w : World} {base p : Nat} {oa : Option Addr} {n c : Nat} {l : List Int} {pos : Nat} (h : RdrAt w base p oa n c l pos) (k : Nat) (k1 : 1 ≤ k) (k2 : k ≤ 32) (hk : pos + k ≤ 8 * l.length) :
    Calls Try.prog 66 #[.pointer (some ⟨p, 0, none⟩), .int .i64 k] w
      fun e w' => e = .returned (.tuple #[.int .u32 (Io.val l pos k), .int .i64 0]) ∧ Mod (· = p) w w' ∧ RdrAt w' base p oa n c l (pos + k) := by
  have hs := h.small
  have hp := h.pos_le
  have H := Lib.hid h
  clear h
  go_enter Try.func66, Try.ntmps66
  go_wp2_with (first
    | (go_at_call 67; refine (rvalid_at H.out).mono ?_; rintro e w1 ⟨rfl, rfl⟩)
    | (go_at_call 64; refine (remaining_at H.out).mono ?_; rintro e w1 ⟨rfl, hx⟩))
  go_loopw [6, 25] (fun v i wr => ∃ j : Nat, j ≤ k ∧ i = .int .i64 j ∧ v = .int .u32 (Io.val l pos j) ∧ Mod (· = p) w wr ∧ RdrAt wr base p oa n c l (pos + j)) (fun _ i _ => k - (intOf i).toNat)
  case atStart => exact ⟨0, Nat.zero_le _, rfl, rfl, Mod.of_ext hx, H.out.ext hx⟩
  case round =>
    obtain ⟨j, hj, rfl, rfl, hm, hr⟩ := hrel
    clear hx
    by_cases hlt : j < k
    · have hv := Io.val_lt31 l pos j (by omega)
      have hv0 := (Io.val_bd l pos j).1
      have hvs := Lib.hid (Io.val_succ l pos j)
      obtain ⟨q, hq⟩ : ∃ q, q = pos + j := ⟨_, rfl⟩
      rw [← hq] at hr hvs
      have hq8 : q < 8 * l.length := by omega
      obtain ⟨g, c', hg, _, _, _, hc', hcell, _⟩ := own_cell hr.row (by intro e; have := congrArg List.length e; simp [u8s] at this; simp [this] at hq8)
      simp only [Value.slice.injEq] at hg
      obtain ⟨rfl, rfl, rfl⟩ := hg
      obtain ⟨x, hx⟩ : ∃ x, x = l.getD (q / 8) 0 := ⟨_, rfl⟩
      have hb := hr.bytes.get (q / 8)
      rw [← hx] at hb
      have c0 := Later.cell (W := wr) (p := ⟨p, 0, none⟩) (v := .slice (some ⟨g, 0, none⟩) l.length c) (cell_of hr.blk)
      have c1 := Later.cell (W := wr) (p := ⟨p, 1, none⟩) (v := .int .i64 q) (cell_of hr.blk)
      have d0 := Later.cell (W := wr) (p := ⟨g, q / 8, none⟩) (v := .int .u8 x) (by rw [hx]; exact hcell _ _ (u8s_get l _ (by omega)))
      have hy := Io.bit_bd l q
      have hba : bits .and .u8 (x / 2 ^ (7 - q % 8)) 1 = Io.bit l q := by
        have hp2 : (0 : Int) < 2 ^ (7 - q % 8) := Int.pow_pos (by decide)
        rw [Io.and_one8 (Int.ediv_nonneg hb.1 (by omega)) (Int.lt_of_le_of_lt (Int.ediv_le_self _ hb.1) (by omega)), hx]; rfl
      have hor : bits .or .u32 (Io.val l pos j * 2) (Io.bit l q) = Io.val l pos (j + 1) := by
        rw [Int.mul_comm, Io.or_bit hv0 hv hy]; exact hvs.out.symm
      have HQ := Lib.hid hq
      have HR := Lib.hid hr
      have HM := Lib.hid hm
      clear hq hx hcell hr hm hc'
      go_wp2_with fail
      refine wp_region_later (W := wr) (by kernel_rfl) (by kernel_rfl) (Ext.refl _) ?_
      repeat (go_big_quiet_step (fail))
      refine wpQuiet_nil ?_
      intro w2 hx2
      have hr2 := HR.out.ext hx2
      have e1 : w2.cell? ⟨p, 1, none⟩ = some (.int .i64 q) := cell_of hr2.blk
      have e2 : w2.frozen? ⟨p, 1, none⟩ = false := free_of hr2.blk
      have HR2 := Lib.hid hr2
      have hs2 := Lib.hid (HM.out.trans (Mod.of_ext hx2))
      clear c0 c1 d0 hr2 hx2
      go_wp2
      have hst := HR2.out.step (q + 1) (by omega)
      go_roundw
      case rel => exact ⟨j + 1, by omega, by go_num, rfl, hs2.out.trans hst.2, by rw [show pos + (j + 1) = q + 1 by rw [HQ.out]; omega]; exact hst.1⟩
      case measure => simp [intOf]; omega
    · obtain rfl : j = k := by omega
      go_wp2
      go_ret2
      exact ⟨rfl, hm, hr⟩

theorem readBits_width {w : World} {base p : Nat} {oa : Option Addr} {n c : Nat} {l : List Int} {pos : Nat} (h : RdrAt w base p oa n c l pos) (k : Int) (hk : k < 1 ∨ 32 < k) :
    Calls Try.prog 66 #[.pointer (some ⟨p, 0, none⟩), .int .i64 k] w (Rets w (.tuple #[.int .u32 0, .int .i64 10])) := by
  have H := Lib.hid h
  clear h
  rcases hk with hk | hk
  · go_enter Try.func66, Try.ntmps66
    go_wp2_with (go_at_call 67; refine (rvalid_at H.out).mono ?_; rintro e w1 ⟨rfl, rfl⟩)
    go_ret2
    exact ⟨rfl, Ext.refl _⟩
  · go_enter Try.func66, Try.ntmps66
    go_wp2_with (go_at_call 67; refine (rvalid_at H.out).mono ?_; rintro e w1 ⟨rfl, rfl⟩)
    go_ret2
    exact ⟨rfl, Ext.refl _⟩
theorem readBits_short {w : World} {base p : Nat} {oa : Option Addr} {n c : Nat} {l : List Int} {pos : Nat} (h : RdrAt w base p oa n c l pos) (k : Int) (k1 : 1 ≤ k) (k2 : k ≤ 32) (hk : 8 * l.length - pos < k) :
    Calls Try.prog 66 #[.pointer (some ⟨p, 0, none⟩), .int .i64 k] w (Rets w (.tuple #[.int .u32 0, .int .i64 3])) := by
  have H := Lib.hid h
  clear h
  go_enter Try.func66, Try.ntmps66
  go_wp2_with (first
    | (go_at_call 67; refine (rvalid_at H.out).mono ?_; rintro e w1 ⟨rfl, rfl⟩)
    | (go_at_call 64; refine (remaining_at H.out).mono ?_; rintro e w1 ⟨rfl, hx⟩))
  go_ret2
  exact ⟨rfl, hx⟩
end Go.Proofs.Ytonnlcjkgpahoaa
