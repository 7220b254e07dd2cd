/- The environment: the law Fresh, walked. No condition. -/
import Derived.Test.YtdgepbolfflidaaEqJ
import Derived.Test.YtdgepbolfflidaaEqI
namespace Go.Proofs.Ytdgepbolfflidaa
open Go.RowKit

/-- a value that a block of numbers or truth values may hold -/
def okCell (t : TypeId) (v : Value) : Prop := (t = 4 ∧ ∃ b, v = .bool b) ∨ (t = 39 ∧ ∃ x, v = .int .u32 x ∧ U32 x) ∨ (t = 5 ∧ ∃ x, v = .int .u8 x ∧ 0 ≤ x ∧ x < 256)
/-- a block of them -/
def Scal (w : World) (k : Nat) : Prop := ∃ cur t, w.heap[k]? = some (.cells cur t (0, 0)) ∧ (t = 4 ∨ t = 39 ∨ t = 5)
/-- n of them lie in block k -/
def Sh (w : World) (k : Nat) (t : TypeId) (n : Nat) : Prop := ∃ cur, w.heap[k]? = some (.cells cur t (0, 0)) ∧ ∀ j, j < n → ∃ v, cur[j]? = some v ∧ okCell t v
/-- w' is w but for the contents of such blocks, from B on; each keeps its make -/
def Sp (B : Nat) (w w' : World) : Prop := Mod (fun k => B ≤ k ∧ Scal w k) w w' ∧ ∀ k t n, Sh w k t n → Sh w' k t n
theorem okCell.one {t : TypeId} {v : Value} (h : okCell t v) : v.oneCell' = true := by
  rcases h with ⟨_, b, rfl⟩ | ⟨_, x, rfl, _⟩ | ⟨_, x, rfl, _⟩ <;> rfl
theorem okCell.scal {t : TypeId} {v : Value} (h : okCell t v) : t = 4 ∨ t = 39 ∨ t = 5 := by
  rcases h with ⟨h, _⟩ | ⟨h, _⟩ | ⟨h, _⟩
  · exact .inl h
  · exact .inr (.inl h)
  · exact .inr (.inr h)
theorem Sp.of_ext {B : Nat} {w w' : World} (h : Ext w w') : Sp B w w' := ⟨Mod.of_ext h, fun _ _ _ ⟨cur, h1, h2⟩ => ⟨cur, h.heap h1, h2⟩⟩
theorem Sp.refl (B : Nat) (w : World) : Sp B w w := Sp.of_ext (Ext.refl w)
theorem Sp.trans {B : Nat} {a b c : World} (h : Sp B a b) (k : Sp B b c) : Sp B a c := by
  refine ⟨Mod.comp h.1 k.1 fun i hi ⟨h1, h2⟩ => ⟨h1, ?_⟩, fun i t n hs => k.2 i t n (h.2 i t n hs)⟩
  refine Classical.byContradiction fun hn => ?_
  obtain ⟨cur, t, h3, h4⟩ := h2
  exact hn ⟨cur, t, by rw [← h.1.block i hi (fun hh => hn hh.2)]; exact h3, h4⟩
theorem Sp.heap {B : Nat} {w w' : World} (h : Sp B w w') {k : Nat} {c : Array Value} {t : TypeId} {f : Nat × Nat} (hk : w.heap[k]? = some (.cells c t f)) (ht : t ≠ 4 ∧ t ≠ 39 ∧ t ≠ 5) : w'.heap[k]? = some (.cells c t f) :=
  h.1.heap hk fun ⟨_, cur, t', h1, h2⟩ => by
    rw [hk] at h1
    simp only [Option.some.injEq, Obj.cells.injEq] at h1
    obtain ⟨_, rfl, _⟩ := h1
    rcases h2 with h2 | h2 | h2
    · exact ht.1 h2
    · exact ht.2.1 h2
    · exact ht.2.2 h2
theorem Sp.ext {B : Nat} {a w w' : World} (hx : Ext a w) (h : Sp B w w') (hB : a.heap.size ≤ B) : Ext a w' := Ext.mod hx h.1 (fun _ hk => Nat.le_trans hB hk.1)
theorem Sh.cell {w : World} {k : Nat} {t : TypeId} {n j : Nat} (h : Sh w k t n) (hj : j < n) : ∃ v, w.cell? ⟨k, j, none⟩ = some v ∧ okCell t v ∧ w.frozen? ⟨k, j, none⟩ = false := by
  obtain ⟨cur, h1, h2⟩ := h
  obtain ⟨v, h3, h4⟩ := h2 j hj
  exact ⟨v, by rw [cell_of h1]; exact h3, h4, free_of h1⟩
/-- one cell written -/
theorem Sp.set {B : Nat} {w : World} {k j n : Nat} {t : TypeId} {v : Value} (h : Sh w k t n) (hB : B ≤ k) (hv : okCell t v) : Sp B w (w.setCell ⟨k, j, none⟩ v) := by
  obtain ⟨cur, h1, h2⟩ := h
  refine ⟨(Mod.setCell (S := (· = k)) (Mod.refl _ _) (p := ⟨k, j, none⟩) (.inl rfl) _).mono (fun i _ hi => by subst hi; exact ⟨hB, cur, t, h1, hv.scal⟩), fun i u m ⟨c, g1, g2⟩ => ?_⟩
  by_cases hik : i = k
  · subst hik
    rw [h1] at g1
    simp only [Option.some.injEq, Obj.cells.injEq, and_true] at g1
    obtain ⟨rfl, rfl⟩ := g1
    refine ⟨_, setCell_heap h1, fun q hq => ?_⟩
    obtain ⟨y, y1, y2⟩ := g2 q hq
    by_cases hqj : q = j
    · subst hqj
      exact ⟨v, by rw [Array.getElem?_setIfInBounds_self_of_lt (Array.getElem?_eq_some_iff.1 y1).1], hv⟩
    · exact ⟨y, by rw [Array.getElem?_setIfInBounds_ne (fun e => hqj e.symm)]; exact y1, y2⟩
  · exact ⟨c, heap_set_ne (p := ⟨k, j, none⟩) g1 hik, g2⟩
/-- a slice of such cells, in a block from B on -/
def SlT (B : Nat) (w : World) (t : TypeId) (v : Value) : Prop := v = .slice none 0 0 ∨ ∃ g n c, v = .slice (some ⟨g, 0, none⟩) n c ∧ B ≤ g ∧ n ≤ 9223372036854775807 ∧ Sh w g t n
def TbT (B : Nat) (w : World) (v : Value) : Prop := v = .slice none 0 0 ∨ ∃ g n c cur, v = .slice (some ⟨g, 0, none⟩) n c ∧ n ≤ 9223372036854775807 ∧ w.heap[g]? = some (.cells cur 44 (0, 0)) ∧ ∀ i, i < n → ∃ u, cur[i]? = some u ∧ SlT B w 39 u
theorem SlT.sp {B : Nat} {w w' : World} {t : TypeId} {v : Value} (h : SlT B w t v) (hs : Sp B w w') : SlT B w' t v := by
  rcases h with h | ⟨g, n, c, h1, h2, h3, h4⟩
  · exact .inl h
  · exact .inr ⟨g, n, c, h1, h2, h3, hs.2 _ _ _ h4⟩
theorem TbT.sp {B : Nat} {w w' : World} {v : Value} (h : TbT B w v) (hs : Sp B w w') : TbT B w' v := by
  rcases h with h | ⟨g, n, c, cur, h1, h3, h4, h5⟩
  · exact .inl h
  · exact .inr ⟨g, n, c, cur, h1, h3, hs.heap h4 (by decide), fun i hi => by
      obtain ⟨u, g1, g2⟩ := h5 i hi
      exact ⟨u, g1, g2.sp hs⟩⟩
theorem SlT.form {B : Nat} {w : World} {t : TypeId} {v : Value} (h : SlT B w t v) : ∃ oa n c, v = .slice oa n c ∧ n ≤ 9223372036854775807 := by
  rcases h with h | ⟨g, n, c, h1, h2, h3, h4⟩
  · exact ⟨_, _, _, h, by omega⟩
  · exact ⟨_, _, _, h1, h3⟩
theorem TbT.form {B : Nat} {w : World} {v : Value} (h : TbT B w v) : ∃ oa n c, v = .slice oa n c ∧ n ≤ 9223372036854775807 := by
  rcases h with h | ⟨g, n, c, cur, h1, h2, h3, h4⟩
  · exact ⟨_, _, _, h, by omega⟩
  · exact ⟨_, _, _, h1, h2⟩
theorem SlT.at {B : Nat} {w : World} {t : TypeId} {oa : Option Addr} {n c k : Nat} (h : SlT B w t (.slice oa n c)) (hk : k < n) : ∃ g, oa = some ⟨g, 0, none⟩ ∧ B ≤ g ∧ Sh w g t n := by
  rcases h with h | ⟨g, m, d, h1, h2, h3, h4⟩
  · simp only [Value.slice.injEq] at h; omega
  · simp only [Value.slice.injEq] at h1
    obtain ⟨rfl, rfl, rfl⟩ := h1
    exact ⟨g, rfl, h2, h4⟩
theorem TbT.at {B : Nat} {w : World} {oa : Option Addr} {n c k : Nat} (h : TbT B w (.slice oa n c)) (hk : k < n) : ∃ g u cur, oa = some ⟨g, 0, none⟩ ∧ w.heap[g]? = some (.cells cur 44 (0, 0)) ∧ cur[k]? = some u ∧ SlT B w 39 u := by
  rcases h with h | ⟨g, m, d, cur, h1, h2, h3, h4⟩
  · simp only [Value.slice.injEq] at h; omega
  · simp only [Value.slice.injEq] at h1
    obtain ⟨rfl, rfl, rfl⟩ := h1
    obtain ⟨u, g1, g2⟩ := h4 k hk
    exact ⟨g, u, cur, rfl, h3, g1, g2⟩
/-- an environment whose blocks lie from B on -/
def EnvT (B : Nat) (w : World) (v : Value) : Prop := ∃ e : Pg.EV, v = e.val ∧ SlT B w 4 e.c0 ∧ TbT B w e.c1 ∧ SlT B w 39 e.c2 ∧ SlT B w 5 e.c3
theorem EnvT.sp {B : Nat} {w w' : World} {v : Value} (h : EnvT B w v) (hs : Sp B w w') : EnvT B w' v := by
  obtain ⟨e, h0, h1, h2, h3, h4⟩ := h; exact ⟨e, h0, h1.sp hs, h2.sp hs, h3.sp hs, h4.sp hs⟩
theorem own_slT {B : Nat} {w : World} {t : TypeId} {v : Value} {n : Nat} {xs : List Value} (h : w.ownsRow B t 1 v n xs) (hx : ∀ x ∈ xs, okCell t x) : SlT B w t v := by
  obtain ⟨h1, h2⟩ := h
  rw [Nat.mul_one] at h1
  rcases h2 with ⟨h2, _⟩ | ⟨g, cap, cur, h2, hB, hg, q1, q2, q3, q4⟩
  · exact .inl h2
  · refine .inr ⟨g, n, cap, h2, hB, by unfold maxLen at q2; omega, cur, hg, fun j hj => ?_⟩
    have hj' : j < xs.length := by omega
    have hc : cur.toList[j]? = xs[j]? := by
      rw [← q4, List.getElem?_take, if_pos (by omega)]
    rw [List.getElem?_eq_getElem hj'] at hc
    exact ⟨xs[j], by simpa using hc, hx _ (List.getElem_mem hj')⟩
theorem OwnE.typed {B : Nat} {w : World} {e : Pg.EV} {vs : List Value} {E : Pg.Env} (h : OwnE B w e vs E) : EnvT B w e.val := by
  have hu : ∀ l : List Int, (∀ x ∈ l, U32 x) → ∀ y ∈ l.map (Value.int .u32), okCell 39 y := fun l hl y hy => by
    rw [List.mem_map] at hy
    obtain ⟨x, hx, rfl⟩ := hy
    exact .inr (.inl ⟨rfl, x, rfl, hl x hx⟩)
  refine ⟨e, rfl, own_slT h.va fun y hy => ?_, ?_, own_slT h.me (hu _ h.mu), own_slT h.pl fun y hy => ?_⟩
  · rw [List.mem_map] at hy
    obtain ⟨x, _, rfl⟩ := hy
    exact .inl ⟨rfl, x, rfl⟩
  · obtain ⟨t1, t2, t3, _⟩ := h.fi
    obtain ⟨h1, h2⟩ := t2
    rw [Nat.mul_one] at h1
    rcases h2 with ⟨h2, _⟩ | ⟨g, cap, cur, h2, hB, hg, q1, q2, q3, q4⟩
    · exact .inl h2
    · refine .inr ⟨g, _, cap, cur, h2, by unfold maxLen at q2; omega, hg, fun i hi => ?_⟩
      have hi' : i < vs.length := by omega
      have hc : cur.toList[i]? = vs[i]? := by
        rw [← q4, List.getElem?_take, if_pos (by omega)]
      rw [List.getElem?_eq_getElem hi'] at hc
      obtain ⟨r1, r2⟩ := t3 i _ _ (List.getElem?_eq_getElem hi') (List.getElem?_eq_getElem hi)
      exact ⟨vs[i], by simpa using hc, own_slT r1 (hu _ r2)⟩
  · rw [List.mem_map] at hy
    obtain ⟨x, hx, rfl⟩ := hy
    have hb := h.pb x hx
    exact .inr (.inr ⟨rfl, x, rfl, by omega, by omega⟩)
theorem okCell.bool {v : Value} (h : okCell 4 v) : ∃ b, v = .bool b := by
  rcases h with ⟨_, h⟩ | ⟨h, _⟩ | ⟨h, _⟩
  · exact h
  · exact absurd h (by decide)
  · exact absurd h (by decide)
theorem okCell.u32 {v : Value} (h : okCell 39 v) : ∃ x, v = .int .u32 x ∧ U32 x := by
  rcases h with ⟨h, _⟩ | ⟨_, h⟩ | ⟨h, _⟩
  · exact absurd h (by decide)
  · exact h
  · exact absurd h (by decide)
theorem okCell.u8 {v : Value} (h : okCell 5 v) : ∃ x, v = .int .u8 x ∧ 0 ≤ x ∧ x < 256 := by
  rcases h with ⟨h, _⟩ | ⟨h, _⟩ | ⟨_, h⟩
  · exact absurd h (by decide)
  · exact absurd h (by decide)
  · exact h
set_option maxRecDepth 8000 in
set_option maxHeartbeats 16000000 in
theorem spoil_any {W : World} {B : Nat} {v : Value} (ht : EnvT B W v) : Calls Try.prog 54 #[v] W fun e W' => e = .returned (.tuple #[]) ∧ Sp B W W' := by
  obtain ⟨⟨c0, c1, c2, c3⟩, rfl, t0, t1, t2, t3⟩ := ht
  dsimp only at t0 t1 t2 t3
  obtain ⟨b0, n0, m0, rfl, z0⟩ := t0.form
  obtain ⟨b1, n1, m1, rfl, z1⟩ := t1.form
  obtain ⟨b2, n2, m2, rfl, z2⟩ := t2.form
  obtain ⟨b3, n3, m3, rfl, z3⟩ := t3.form
  have xa : Sp B W (W.alloc (.cells #[.slice b0 n0 m0, .slice b1 n1 m1, .slice b2 n2 m2, .slice b3 n3 m3] 65)) := Sp.of_ext ((Ext.refl W).alloc _)
  have H0 := Lib.hid (t0.sp xa)
  have H1 := Lib.hid (t1.sp xa)
  have H2 := Lib.hid (t2.sp xa)
  have H3 := Lib.hid (t3.sp xa)
  have hbx := alloc_heap W (.cells #[.slice b0 n0 m0, .slice b1 n1 m1, .slice b2 n2 m2, .slice b3 n3 m3] 65)
  have HBX := Lib.hid hbx
  have k0 := alw (cell_of (o := 0) hbx)
  have k1 := alw (cell_of (o := 1) hbx)
  have k2 := alw (cell_of (o := 2) hbx)
  have k3 := alw (cell_of (o := 3) hbx)
  clear t0 t1 t2 t3 xa hbx
  dsimp only [Pg.EV.val]
  go_enter Try.func54, Try.ntmps54
  go_wp2_with fail
  go_loopw [2] (fun i wr => ∃ k : Nat, k ≤ n0 ∧ i = .int .i64 k ∧ Hid (Sp B (W.alloc (.cells #[.slice b0 n0 m0, .slice b1 n1 m1, .slice b2 n2 m2, .slice b3 n3 m3] 65)) wr)) (fun i _ => n0 - (intOf i).toNat)
  case atStart => exact ⟨0, Nat.zero_le _, rfl, Lib.hid (Sp.refl _ _)⟩
  case round =>
    obtain ⟨k, hk, rfl, HS⟩ := hrel
    have kb := HS.out.heap HBX.out (by decide)
    have k0 := alw (cell_of (o := 0) kb)
    have k1 := alw (cell_of (o := 1) kb)
    have k2 := alw (cell_of (o := 2) kb)
    have k3 := alw (cell_of (o := 3) kb)
    clear kb
    by_cases hlt : k < n0
    · obtain ⟨g, rfl, hBg, hsh⟩ := (H0.out.sp HS.out).at hlt
      obtain ⟨y, hy, hok, hfr⟩ := hsh.cell hlt
      have HSH := Lib.hid hsh
      obtain ⟨b, rfl⟩ := hok.bool
      have hy' := alw hy
      have hf' : ∀ w' [Grows wr w'], w'.frozen? ⟨g, k, none⟩ = false := fun w' gg => by
        obtain ⟨cur, h1, _⟩ := HSH.out
        exact free_of (gg.out.heap h1)
      clear hsh hy hok
      have r0 := k0 wr
      have r1 := hy' wr
      have r2 := hf' wr
      go_wp2_with fail
      go_region
      all_goals (try go_wp2_with fail)
      go_roundw
      case rel =>
        refine ⟨k + 1, by omega, by go_num, Lib.hid ?_⟩
        refine HS.out.trans (Sp.trans (b := wr) (Sp.refl _ _) ?_)
        first
        | exact Sp.set HSH.out hBg (.inl ⟨rfl, _, rfl⟩)
        | exact (Sp.of_ext ((Ext.refl wr).drew)).trans (Sp.set (w := wr.drew) (HSH.out) hBg (.inl ⟨rfl, _, rfl⟩))
      case measure => simp [intOf]; omega
    · obtain rfl : n0 = k := by omega
      go_wp2_with fail
      go_loopw [3] (fun i wr => ∃ k : Nat, k ≤ n1 ∧ i = .int .i64 k ∧ Hid (Sp B (W.alloc (.cells #[.slice b0 n0 m0, .slice b1 n1 m1, .slice b2 n2 m2, .slice b3 n3 m3] 65)) wr)) (fun i _ => n1 - (intOf i).toNat)
      case atStart => exact ⟨0, Nat.zero_le _, rfl, HS⟩
      case round =>
        obtain ⟨k, hk, rfl, HS⟩ := hrel
        have kb := HS.out.heap HBX.out (by decide)
        have k0 := alw (cell_of (o := 0) kb)
        have k1 := alw (cell_of (o := 1) kb)
        have k2 := alw (cell_of (o := 2) kb)
        have k3 := alw (cell_of (o := 3) kb)
        clear kb
        by_cases hlt : k < n1
        · obtain ⟨G, u, cur, rfl, hG, hcu, hsu⟩ := H1.out.at hlt
          obtain ⟨ua, m, uc, rfl, hm⟩ := hsu.form
          have HG := Lib.hid hG
          have HSU := Lib.hid hsu
          have tb : wr.heap[G]? = some (.cells cur 44 (0, 0)) := HS.out.heap hG (by decide)
          have tc : wr.cell? ⟨G, k, none⟩ = some (.slice ua m uc) := by rw [cell_of tb]; exact hcu
          have tc' := alw tc
          clear hG hsu tb tc
          go_wp2_with fail
          go_loopw [4] (fun i wr => ∃ j : Nat, j ≤ m ∧ i = .int .i64 j ∧ Hid (Sp B (W.alloc (.cells #[.slice b0 n0 m0, .slice (some ⟨G, 0, none⟩) n1 m1, .slice b2 n2 m2, .slice b3 n3 m3] 65)) wr)) (fun i _ => m - (intOf i).toNat)
          case atStart => exact ⟨0, Nat.zero_le _, rfl, HS⟩
          case round =>
            clear k0 k1 k2 k3 tc' HS
            obtain ⟨j, hj, rfl, HS⟩ := hrel
            have kb := HS.out.heap HBX.out (by decide)
            have k0 := alw (cell_of (o := 0) kb)
            have k1 := alw (cell_of (o := 1) kb)
            have k2 := alw (cell_of (o := 2) kb)
            have k3 := alw (cell_of (o := 3) kb)
            clear kb
            have tb : wr.heap[G]? = some (.cells cur 44 (0, 0)) := HS.out.heap HG.out (by decide)
            have tc : wr.cell? ⟨G, k, none⟩ = some (.slice ua m uc) := by rw [cell_of tb]; exact hcu
            have tc' := alw tc
            clear tb tc
            by_cases hltj : j < m
            · obtain ⟨g, rfl, hBg, hsh⟩ := (HSU.out.sp HS.out).at hltj
              obtain ⟨y, hy, hok, hfr⟩ := hsh.cell hltj
              have HSH := Lib.hid hsh
              obtain ⟨x, rfl, x0, x1⟩ := hok.u32
              have hy' := alw hy
              have hf' : ∀ w' [Grows wr w'], w'.frozen? ⟨g, j, none⟩ = false := fun w' gg => by
                obtain ⟨cur, h1, _⟩ := HSH.out
                exact free_of (gg.out.heap h1)
              clear hsh hy hok
              go_wp2_with fail
              go_roundw
              case rel =>
                refine ⟨j + 1, by omega, by go_num, Lib.hid ?_⟩
                refine HS.out.trans (Sp.trans (b := wr) (Sp.refl _ _) ?_)
                first
                | exact Sp.set HSH.out hBg (.inr (.inl ⟨rfl, _, rfl, by constructor <;> omega⟩))
                | exact (Sp.of_ext ((Ext.refl wr).drew)).trans (Sp.set (w := wr.drew) (HSH.out) hBg (.inr (.inl ⟨rfl, _, rfl, by constructor <;> omega⟩)))
              case measure => simp [intOf]; omega
            · obtain rfl : m = j := by omega
              go_wp2_with fail
              go_roundw
              case rel => exact ⟨k + 1, by omega, by go_num, HS⟩
              case measure => simp [intOf]; omega
        · obtain rfl : n1 = k := by omega
          go_wp2_with fail
          go_loopw [5] (fun i wr => ∃ k : Nat, k ≤ n2 ∧ i = .int .i64 k ∧ Hid (Sp B (W.alloc (.cells #[.slice b0 n0 m0, .slice b1 n1 m1, .slice b2 n2 m2, .slice b3 n3 m3] 65)) wr)) (fun i _ => n2 - (intOf i).toNat)
          case atStart => exact ⟨0, Nat.zero_le _, rfl, HS⟩
          case round =>
            obtain ⟨k, hk, rfl, HS⟩ := hrel
            have kb := HS.out.heap HBX.out (by decide)
            have k0 := alw (cell_of (o := 0) kb)
            have k1 := alw (cell_of (o := 1) kb)
            have k2 := alw (cell_of (o := 2) kb)
            have k3 := alw (cell_of (o := 3) kb)
            clear kb
            by_cases hlt : k < n2
            · obtain ⟨g, rfl, hBg, hsh⟩ := (H2.out.sp HS.out).at hlt
              obtain ⟨y, hy, hok, hfr⟩ := hsh.cell hlt
              have HSH := Lib.hid hsh
              obtain ⟨x, rfl, x0, x1⟩ := hok.u32
              have hy' := alw hy
              have hf' : ∀ w' [Grows wr w'], w'.frozen? ⟨g, k, none⟩ = false := fun w' gg => by
                obtain ⟨cur, h1, _⟩ := HSH.out
                exact free_of (gg.out.heap h1)
              clear hsh hy hok
              go_wp2_with fail
              go_roundw
              case rel =>
                refine ⟨k + 1, by omega, by go_num, Lib.hid ?_⟩
                refine HS.out.trans (Sp.trans (b := wr) (Sp.refl _ _) ?_)
                first
                | exact Sp.set HSH.out hBg (.inr (.inl ⟨rfl, _, rfl, by constructor <;> omega⟩))
                | exact (Sp.of_ext ((Ext.refl wr).drew)).trans (Sp.set (w := wr.drew) (HSH.out) hBg (.inr (.inl ⟨rfl, _, rfl, by constructor <;> omega⟩)))
              case measure => simp [intOf]; omega
            · obtain rfl : n2 = k := by omega
              go_wp2_with fail
              go_loopw [6] (fun i wr => ∃ k : Nat, k ≤ n3 ∧ i = .int .i64 k ∧ Hid (Sp B (W.alloc (.cells #[.slice b0 n0 m0, .slice b1 n1 m1, .slice b2 n2 m2, .slice b3 n3 m3] 65)) wr)) (fun i _ => n3 - (intOf i).toNat)
              case atStart => exact ⟨0, Nat.zero_le _, rfl, HS⟩
              case round =>
                obtain ⟨k, hk, rfl, HS⟩ := hrel
                have kb := HS.out.heap HBX.out (by decide)
                have k0 := alw (cell_of (o := 0) kb)
                have k1 := alw (cell_of (o := 1) kb)
                have k2 := alw (cell_of (o := 2) kb)
                have k3 := alw (cell_of (o := 3) kb)
                clear kb
                by_cases hlt : k < n3
                · obtain ⟨g, rfl, hBg, hsh⟩ := (H3.out.sp HS.out).at hlt
                  obtain ⟨y, hy, hok, hfr⟩ := hsh.cell hlt
                  have HSH := Lib.hid hsh
                  obtain ⟨x, rfl, x0, x1⟩ := hok.u8
                  have hy' := alw hy
                  have hf' : ∀ w' [Grows wr w'], w'.frozen? ⟨g, k, none⟩ = false := fun w' gg => by
                    obtain ⟨cur, h1, _⟩ := HSH.out
                    exact free_of (gg.out.heap h1)
                  clear hsh hy hok
                  go_wp2_with fail
                  go_roundw
                  case rel =>
                    refine ⟨k + 1, by omega, by go_num, Lib.hid ?_⟩
                    refine HS.out.trans (Sp.trans (b := wr) (Sp.refl _ _) ?_)
                    first
                    | exact Sp.set HSH.out hBg (.inr (.inr ⟨rfl, _, rfl, by omega, by omega⟩))
                    | exact (Sp.of_ext ((Ext.refl wr).drew)).trans (Sp.set (w := wr.drew) (HSH.out) hBg (.inr (.inr ⟨rfl, _, rfl, by omega, by omega⟩)))
                  case measure => simp [intOf]; omega
                · obtain rfl : n3 = k := by omega
                  go_wp2_with fail
                  go_end0
                  exact ⟨rfl, (Sp.of_ext ((Ext.refl W).alloc _)).trans HS.out⟩
end Go.Proofs.Ytdgepbolfflidaa
namespace Go.Proofs.Ytdgepbolfflidaa
open Go.RowKit

/-- an environment in blocks from B on -/
def EnvB (B : Nat) (w : World) (v : Value) : Prop := ∃ (e : Pg.EV) (vs : List Value) (E : Pg.Env), v = e.val ∧ OwnE B w e vs E
theorem EnvB.ext {B : Nat} {w w' : World} {v : Value} (h : EnvB B w v) (hx : Ext w w') : EnvB B w' v := by
  obtain ⟨e, vs, E, h1, h2⟩ := h; exact ⟨e, vs, E, h1, h2.ext hx⟩
theorem EnvB.typed {B : Nat} {w : World} {v : Value} (h : EnvB B w v) : EnvT B w v := by
  obtain ⟨e, vs, E, rfl, h2⟩ := h; exact h2.typed
theorem EnvB.form {B : Nat} {w : World} {v : Value} (h : EnvB B w v) : ∃ b0 n0 m0 b1 n1 m1 b2 n2 m2 b3 n3 m3, v = .agg #[.slice b0 n0 m0, .slice b1 n1 m1, .slice b2 n2 m2, .slice b3 n3 m3] := by
  obtain ⟨⟨c0, c1, c2, c3⟩, h0, t0, t1, t2, t3⟩ := h.typed
  obtain ⟨b0, n0, m0, e0, z0⟩ := t0.form
  obtain ⟨b1, n1, m1, e1, z1⟩ := t1.form
  obtain ⟨b2, n2, m2, e2, z2⟩ := t2.form
  obtain ⟨b3, n3, m3, e3, z3⟩ := t3.form
  dsimp only at e0 e1 e2 e3
  subst e0; subst e1; subst e2; subst e3
  exact ⟨_, _, _, _, _, _, _, _, _, _, _, _, h0⟩
/-- four environments in the block g -/
def ListB (B g : Nat) (w : World) : Prop := ∃ cs : Array Value, w.heap[g]? = some (.cells cs 65 (0, 0)) ∧ ∀ k, k < 4 → ∃ u0 u1 u2 u3 : Value, cs[k * 4]? = some u0 ∧ cs[k * 4 + 1]? = some u1 ∧ cs[k * 4 + 2]? = some u2 ∧ cs[k * 4 + 3]? = some u3 ∧ EnvB B w (.agg #[u0, u1, u2, u3])
theorem ListB.ext {B g : Nat} {w w' : World} (h : ListB B g w) (hx : Ext w w') : ListB B g w' := by
  obtain ⟨cs, h1, h2⟩ := h
  exact ⟨cs, hx.heap h1, fun k hk => by
    obtain ⟨u0, u1, u2, u3, g0, g1, g2, g3, g4⟩ := h2 k hk
    exact ⟨u0, u1, u2, u3, g0, g1, g2, g3, g4.ext hx⟩⟩
theorem EnvP.b {B : Nat} {W W' : World} {E : Pg.Env} {e : Ending} (h : EnvP W E e W') (hB : B ≤ W.heap.size) : ∃ v, e = .returned v ∧ Ext W W' ∧ EnvB B W' v := by
  obtain ⟨v, vs, h1, h2, h3⟩ := h; exact ⟨_, h1, h2, v, vs, E, rfl, h3.base hB⟩
set_option maxRecDepth 8000 in
set_option maxHeartbeats 16000000 in
theorem envFresh_walk (v0 v1 v2 : Value) (W : World) {b0 b1 b2 : Nat} {r0 r1 r2 : Reach} {H : Type} {enc : TypeId × Value → H} {d0 d1 d2 : DataW H} {p0 p1 p2 : List MemPlace}
    (ok0 : Value.okWide Try.prog W r0 b0 61 v0) (h0 : DataW.Trod enc Try.prog W 0 (fun _ => true) true 61 v0 d0 p0)
    (ok1 : Value.okWide Try.prog W r1 b1 65 v1) (h1 : DataW.Trod enc Try.prog W 0 (fun _ => true) true 65 v1 d1 p1)
    (ok2 : Value.okWide Try.prog W r2 b2 76 v2) (h2 : DataW.Trod enc Try.prog W 0 (fun _ => true) true 76 v2 d2 p2) :
    Calls Try.prog 10 #[v0, v1, v2] W (Rets W (.bool true)) := by
  obtain ⟨p, P, rfl, hp, _⟩ := prog_take ok0 h0
  obtain ⟨ea, E, rfl, he⟩ := env_take ok1 h1
  obtain ⟨a, b, x, c, rfl, x0, x1⟩ := acc_take ok2 h2
  clear ok2 h2 d2
  clear ok0 h0 ok1 h1 d0 d1
  have hA : EnvV W ea.val E := ⟨ea, rfl, he⟩
  have htl := fun w (hx : Ext W w) => toolarge_any (hp.ext hx)
  have hlo := fun w (hx : Ext W w) => long_any (he.ext hx)
  obtain ⟨s, a1, a2, a3, a4, a5, a6, a7, a8, m1, m2, n3, m3, n4, m4, n5, m5, n6, m6, n7, m7, m8, hf⟩ := hp.form
  obtain ⟨rfl, _, _, _, _, _, _⟩ := hf
  obtain ⟨b0, b1, b2, b3, d0, d1, d2, d3, hg⟩ := he.form
  obtain ⟨rfl, _, _, _, _, _, _, _, _⟩ := hg
  dsimp only [Pg.PV.val, Pg.EV.val] at hA htl hlo hp ⊢
  obtain ⟨t0, ht0⟩ : ∃ t, t = !En.okP P := ⟨_, rfl⟩
  obtain ⟨t1, ht1⟩ : ∃ t, t = !En.okE E := ⟨_, rfl⟩
  rw [← ht0] at htl
  rw [← ht1] at hlo
  have HTL := Lib.hid htl
  have HLO := Lib.hid hlo
  have bx := alloc_heap W (.cells #[.string s, .slice a1 P.hs.length m1, .slice a2 P.md.length m2, .slice a3 n3 m3, .slice a4 n4 m4, .slice a5 n5 m5, .slice a6 n6 m6, .slice a7 n7 m7, .slice a8 P.dp.length m8] 61)
  have pc0 := alw (cell_of (o := 0) bx)
  have pc1 := alw (cell_of (o := 1) bx)
  have pc2 := alw (cell_of (o := 2) bx)
  have pc3 := alw (cell_of (o := 3) bx)
  have pc4 := alw (cell_of (o := 4) bx)
  have pc5 := alw (cell_of (o := 5) bx)
  have pc6 := alw (cell_of (o := 6) bx)
  have pc7 := alw (cell_of (o := 7) bx)
  have pc8 := alw (cell_of (o := 8) bx)
  clear bx
  have bx := alloc_heap (W.alloc (.cells #[.string s, .slice a1 P.hs.length m1, .slice a2 P.md.length m2, .slice a3 n3 m3, .slice a4 n4 m4, .slice a5 n5 m5, .slice a6 n6 m6, .slice a7 n7 m7, .slice a8 P.dp.length m8] 61)) (.cells #[.slice b0 E.va.length d0, .slice b1 E.fi.length d1, .slice b2 E.me.length d2, .slice b3 E.pl.length d3] 65)
  rw [World.size_alloc] at bx
  have ec0 := alw (cell_of (o := 0) bx)
  have ec1 := alw (cell_of (o := 1) bx)
  have ec2 := alw (cell_of (o := 2) bx)
  have ec3 := alw (cell_of (o := 3) bx)
  clear bx
  have bx := alloc_heap ((W.alloc (.cells #[.string s, .slice a1 P.hs.length m1, .slice a2 P.md.length m2, .slice a3 n3 m3, .slice a4 n4 m4, .slice a5 n5 m5, .slice a6 n6 m6, .slice a7 n7 m7, .slice a8 P.dp.length m8] 61)).alloc (.cells #[.slice b0 E.va.length d0, .slice b1 E.fi.length d1, .slice b2 E.me.length d2, .slice b3 E.pl.length d3] 65)) (.cells #[.int .i64 a, .int .i64 b, .int .u32 x, .int .i64 c] 76)
  rw [World.size_alloc, World.size_alloc] at bx
  have rc0 := alw (cell_of (o := 0) bx)
  have rc1 := alw (cell_of (o := 1) bx)
  have rc2 := alw (cell_of (o := 2) bx)
  have rc3 := alw (cell_of (o := 3) bx)
  clear bx
  cases t0 with
  | true =>
    clear ht0 ht1 hA hp
    go_enter Try.func10, Try.ntmps10
    go_wp2_with fail
    refine (HTL.out _ grows).mono ?_
    rintro e w1 ⟨rfl, xw1⟩
    have sw1 := Step.mk xw1
    go_wp2_with fail
    refine (eworks_any _).mono ?_
    rintro e w5 ⟨rfl, x5⟩
    have s5 := Step.mk x5
    go_wp2_with fail
    go_ret
    exact ⟨rfl, grows⟩
  | false =>
    cases t1 with
    | true =>
      clear ht0 ht1 hA hp
      go_enter Try.func10, Try.ntmps10
      go_wp2_with fail
      refine (HTL.out _ grows).mono ?_
      rintro e w1 ⟨rfl, xw1⟩
      have sw1 := Step.mk xw1
      go_wp2_with fail
      refine (HLO.out _ grows).mono ?_
      rintro e w2 ⟨rfl, xw2⟩
      have sw2 := Step.mk xw2
      go_wp2_with fail
      refine (eworks_any _).mono ?_
      rintro e w5 ⟨rfl, x5⟩
      have s5 := Step.mk x5
      go_wp2_with fail
      go_ret
      exact ⟨rfl, grows⟩
    | false =>
      have hca := En.okE_cap (E := E) (by simpa using ht1.symm)
      have HP := Lib.hid hp
      have HA := Lib.hid hA
      have HOW : Hid (∀ w, Ext W w → Calls Try.prog 53 #[.agg #[.slice b0 E.va.length d0, .slice b1 E.fi.length d1, .slice b2 E.me.length d2, .slice b3 E.pl.length d3]] w (EnvP w E)) := Lib.hid (fun w hx => by have h := refclone_any (he.ext hx) hca; exact h)
      clear ht0 ht1 hA hp htl hlo
      go_enter Try.func10, Try.ntmps10
      go_wp2_with fail
      refine (HTL.out _ grows).mono ?_
      rintro e w1 ⟨rfl, xw1⟩
      have sw1 := Step.mk xw1
      go_wp2_with fail
      refine (HLO.out _ grows).mono ?_
      rintro e w2 ⟨rfl, xw2⟩
      have sw2 := Step.mk xw2
      go_wp2_with fail
      refine (HOW.out _ grows).mono ?_
      rintro e w3 ⟨ev3, vs3, rfl, x3, o3⟩
      have s3 := Step.mk x3
      have of3 := o3.isE.form
      obtain ⟨q30, q31, q32, q33, t30, t31, t32, t33, hg⟩ := of3
      obtain ⟨rfl, _, _, _, _, _, _, _, _⟩ := hg
      dsimp only [Pg.EV.val]
      have bo := alloc_heap w3 (.cells #[.slice q30 E.va.length t30, .slice q31 E.fi.length t31, .slice q32 E.me.length t32, .slice q33 E.pl.length t33] 65)
      have ow0 := alw (cell_of (o := 0) bo)
      have ow1 := alw (cell_of (o := 1) bo)
      have ow2 := alw (cell_of (o := 2) bo)
      have ow3 := alw (cell_of (o := 3) bo)
      clear bo
      have HF1 : Hid (∀ w, Ext w3 w → Calls Try.prog 52 #[.agg #[.slice q30 E.va.length t30, .slice q31 E.fi.length t31, .slice q32 E.me.length t32, .slice q33 E.pl.length t33]] w (EnvP w E)) := Lib.hid (fun w hx => by have h := clone_any (o3.isE.ext hx) hca; exact h)
      have HF2 : Hid (∀ w, Ext w3 w → Calls Try.prog 43 #[.agg #[.string s, .slice a1 P.hs.length m1, .slice a2 P.md.length m2, .slice a3 n3 m3, .slice a4 n4 m4, .slice a5 n5 m5, .slice a6 n6 m6, .slice a7 n7 m7, .slice a8 P.dp.length m8], .agg #[.slice q30 E.va.length t30, .slice q31 E.fi.length t31, .slice q32 E.me.length t32, .slice q33 E.pl.length t33], .agg #[.int .i64 a, .int .i64 b], .int .u32 x] w (EnvP w (En.set P E a b x))) := Lib.hid (fun w hx => by have h := set_any (HP.out.ext ((grows (a := W) (b := w3)).trans hx)) (o3.isE.ext hx) hca a b x x0 x1; exact h)
      have HF3 : Hid (∀ w, Ext w3 w → Calls Try.prog 45 #[.agg #[.string s, .slice a1 P.hs.length m1, .slice a2 P.md.length m2, .slice a3 n3 m3, .slice a4 n4 m4, .slice a5 n5 m5, .slice a6 n6 m6, .slice a7 n7 m7, .slice a8 P.dp.length m8], .agg #[.slice q30 E.va.length t30, .slice q31 E.fi.length t31, .slice q32 E.me.length t32, .slice q33 E.pl.length t33], .int .i64 c] w (EnvP w (En.switch P E c true true))) := Lib.hid (fun w hx => by have h := eadd_any (HP.out.ext ((grows (a := W) (b := w3)).trans hx)) (o3.isE.ext hx) hca c; exact h)
      have HF4 : Hid (∀ w, Ext w3 w → Calls Try.prog 47 #[.agg #[.string s, .slice a1 P.hs.length m1, .slice a2 P.md.length m2, .slice a3 n3 m3, .slice a4 n4 m4, .slice a5 n5 m5, .slice a6 n6 m6, .slice a7 n7 m7, .slice a8 P.dp.length m8], .agg #[.slice q30 E.va.length t30, .slice q31 E.fi.length t31, .slice q32 E.me.length t32, .slice q33 E.pl.length t33], .int .i64 c] w (EnvP w (En.switch P E c false false))) := Lib.hid (fun w hx => by have h := erem_any (HP.out.ext ((grows (a := W) (b := w3)).trans hx)) (o3.isE.ext hx) hca c; exact h)
      have IO : Hid (EnvV w3 (.agg #[.slice q30 E.va.length t30, .slice q31 E.fi.length t31, .slice q32 E.me.length t32, .slice q33 E.pl.length t33]) E) := Lib.hid ⟨_, rfl, o3.isE⟩
      clear o3 x3 he hca x0 x1
      go_wp2_with fail
      refine Rel.region (W := (w3.alloc (.cells #[.slice q30 E.va.length t30, .slice q31 E.fi.length t31, .slice q32 E.me.length t32, .slice q33 E.pl.length t33] 65))) (Rel.tab [(1, fun v w => EnvB (w3.alloc (.cells #[.slice q30 E.va.length t30, .slice q31 E.fi.length t31, .slice q32 E.me.length t32, .slice q33 E.pl.length t33] 65)).heap.size w v), (8, fun v w => EnvB (w3.alloc (.cells #[.slice q30 E.va.length t30, .slice q31 E.fi.length t31, .slice q32 E.me.length t32, .slice q33 E.pl.length t33] 65)).heap.size w v), (13, fun v w => EnvB (w3.alloc (.cells #[.slice q30 E.va.length t30, .slice q31 E.fi.length t31, .slice q32 E.me.length t32, .slice q33 E.pl.length t33] 65)).heap.size w v), (18, fun v w => EnvB (w3.alloc (.cells #[.slice q30 E.va.length t30, .slice q31 E.fi.length t31, .slice q32 E.me.length t32, .slice q33 E.pl.length t33] 65)).heap.size w v), (19, fun v w => ∃ gz, v = .slice (some ⟨gz, 0, none⟩) 4 4 ∧ (w3.alloc (.cells #[.slice q30 E.va.length t30, .slice q31 E.fi.length t31, .slice q32 E.me.length t32, .slice q33 E.pl.length t33] 65)).heap.size ≤ gz ∧ ListB ((w3.alloc (.cells #[.slice q30 E.va.length t30, .slice q31 E.fi.length t31, .slice q32 E.me.length t32, .slice q33 E.pl.length t33] 65)).heap.size) gz w)]) (Rel.tab_lasts (by intro p hp v w w' hr hx; simp only [List.mem_cons, List.not_mem_nil, or_false] at hp; rcases hp with rfl | rfl | rfl | rfl | rfl; (· exact EnvB.ext hr hx); (· exact EnvB.ext hr hx); (· exact EnvB.ext hr hx); (· exact EnvB.ext hr hx); (· obtain ⟨g, e1, e2, e3⟩ := hr; exact ⟨g, e1, e2, e3.ext hx⟩))) (by kernel_rfl) (by kernel_rfl) (Ext.refl _) ?_
      refine Rel.chunk 1 rfl rfl rfl ?_
      simp only [List.take_succ_cons, List.take_zero, List.drop_succ_cons, List.drop_zero, Nat.reduceAdd]
      repeat (go_big_quiet_step (fail))
      refine wpQuiet_nil ?_
      refine Rel.callG (fun v w => EnvB (w3.alloc (.cells #[.slice q30 E.va.length t30, .slice q31 E.fi.length t31, .slice q32 E.me.length t32, .slice q33 E.pl.length t33] 65)).heap.size w v) rfl rfl rfl Try.func52 (by nofun) (by decide) #[.agg #[.slice q30 E.va.length t30, .slice q31 E.fi.length t31, .slice q32 E.me.length t32, .slice q33 E.pl.length t33]] rfl (fun w hx _ => by refine (HF1.out w ((grows (a := w3) (b := (w3.alloc (.cells #[.slice q30 E.va.length t30, .slice q31 E.fi.length t31, .slice q32 E.me.length t32, .slice q33 E.pl.length t33] 65)))).trans hx)).mono ?_; intro e w9 hh9; exact hh9.b hx.le) ?_
      intro v1 wq1 _ _ r1
      obtain ⟨z0b0, z0n0, z0m0, z0b1, z0n1, z0m1, z0b2, z0n2, z0m2, z0b3, z0n3, z0m3, rfl⟩ := r1.form
      clear r1
      simp only [Act.put, List.setIfInBounds_toArray, List.set_cons_succ, List.set_cons_zero]
      refine Rel.chunk 6 rfl rfl rfl ?_
      simp only [List.take_succ_cons, List.take_zero, List.drop_succ_cons, List.drop_zero, Nat.reduceAdd]
      repeat (go_big_quiet_step (fail))
      refine wpQuiet_nil ?_
      refine Rel.callG (fun v w => EnvB (w3.alloc (.cells #[.slice q30 E.va.length t30, .slice q31 E.fi.length t31, .slice q32 E.me.length t32, .slice q33 E.pl.length t33] 65)).heap.size w v) rfl rfl rfl Try.func43 (by nofun) (by decide) #[.agg #[.string s, .slice a1 P.hs.length m1, .slice a2 P.md.length m2, .slice a3 n3 m3, .slice a4 n4 m4, .slice a5 n5 m5, .slice a6 n6 m6, .slice a7 n7 m7, .slice a8 P.dp.length m8], .agg #[.slice q30 E.va.length t30, .slice q31 E.fi.length t31, .slice q32 E.me.length t32, .slice q33 E.pl.length t33], .agg #[.int .i64 a, .int .i64 b], .int .u32 x] rfl (fun w hx _ => by refine (HF2.out w ((grows (a := w3) (b := (w3.alloc (.cells #[.slice q30 E.va.length t30, .slice q31 E.fi.length t31, .slice q32 E.me.length t32, .slice q33 E.pl.length t33] 65)))).trans hx)).mono ?_; intro e w9 hh9; exact hh9.b hx.le) ?_
      intro v8 wq8 _ _ r8
      obtain ⟨z1b0, z1n0, z1m0, z1b1, z1n1, z1m1, z1b2, z1n2, z1m2, z1b3, z1n3, z1m3, rfl⟩ := r8.form
      clear r8
      simp only [Act.put, List.setIfInBounds_toArray, List.set_cons_succ, List.set_cons_zero]
      refine Rel.chunk 4 rfl rfl rfl ?_
      simp only [List.take_succ_cons, List.take_zero, List.drop_succ_cons, List.drop_zero, Nat.reduceAdd]
      repeat (go_big_quiet_step (fail))
      refine wpQuiet_nil ?_
      refine Rel.callG (fun v w => EnvB (w3.alloc (.cells #[.slice q30 E.va.length t30, .slice q31 E.fi.length t31, .slice q32 E.me.length t32, .slice q33 E.pl.length t33] 65)).heap.size w v) rfl rfl rfl Try.func45 (by nofun) (by decide) #[.agg #[.string s, .slice a1 P.hs.length m1, .slice a2 P.md.length m2, .slice a3 n3 m3, .slice a4 n4 m4, .slice a5 n5 m5, .slice a6 n6 m6, .slice a7 n7 m7, .slice a8 P.dp.length m8], .agg #[.slice q30 E.va.length t30, .slice q31 E.fi.length t31, .slice q32 E.me.length t32, .slice q33 E.pl.length t33], .int .i64 c] rfl (fun w hx _ => by refine (HF3.out w ((grows (a := w3) (b := (w3.alloc (.cells #[.slice q30 E.va.length t30, .slice q31 E.fi.length t31, .slice q32 E.me.length t32, .slice q33 E.pl.length t33] 65)))).trans hx)).mono ?_; intro e w9 hh9; exact hh9.b hx.le) ?_
      intro v13 wq13 _ _ r13
      obtain ⟨z2b0, z2n0, z2m0, z2b1, z2n1, z2m1, z2b2, z2n2, z2m2, z2b3, z2n3, z2m3, rfl⟩ := r13.form
      clear r13
      simp only [Act.put, List.setIfInBounds_toArray, List.set_cons_succ, List.set_cons_zero]
      refine Rel.chunk 4 rfl rfl rfl ?_
      simp only [List.take_succ_cons, List.take_zero, List.drop_succ_cons, List.drop_zero, Nat.reduceAdd]
      repeat (go_big_quiet_step (fail))
      refine wpQuiet_nil ?_
      refine Rel.callG (fun v w => EnvB (w3.alloc (.cells #[.slice q30 E.va.length t30, .slice q31 E.fi.length t31, .slice q32 E.me.length t32, .slice q33 E.pl.length t33] 65)).heap.size w v) rfl rfl rfl Try.func47 (by nofun) (by decide) #[.agg #[.string s, .slice a1 P.hs.length m1, .slice a2 P.md.length m2, .slice a3 n3 m3, .slice a4 n4 m4, .slice a5 n5 m5, .slice a6 n6 m6, .slice a7 n7 m7, .slice a8 P.dp.length m8], .agg #[.slice q30 E.va.length t30, .slice q31 E.fi.length t31, .slice q32 E.me.length t32, .slice q33 E.pl.length t33], .int .i64 c] rfl (fun w hx _ => by refine (HF4.out w ((grows (a := w3) (b := (w3.alloc (.cells #[.slice q30 E.va.length t30, .slice q31 E.fi.length t31, .slice q32 E.me.length t32, .slice q33 E.pl.length t33] 65)))).trans hx)).mono ?_; intro e w9 hh9; exact hh9.b hx.le) ?_
      intro v18 wq18 _ _ r18
      obtain ⟨z3b0, z3n0, z3m0, z3b1, z3n1, z3m1, z3b2, z3n2, z3m2, z3b3, z3n3, z3m3, rfl⟩ := r18.form
      clear r18
      simp only [Act.put, List.setIfInBounds_toArray, List.set_cons_succ, List.set_cons_zero]
      refine Rel.call (fun v w => ∃ gz, v = .slice (some ⟨gz, 0, none⟩) 4 4 ∧ (w3.alloc (.cells #[.slice q30 E.va.length t30, .slice q31 E.fi.length t31, .slice q32 E.me.length t32, .slice q33 E.pl.length t33] 65)).heap.size ≤ gz ∧ ListB ((w3.alloc (.cells #[.slice q30 E.va.length t30, .slice q31 E.fi.length t31, .slice q32 E.me.length t32, .slice q33 E.pl.length t33] 65)).heap.size) gz w) rfl rfl rfl (fun w hx hf => Rel.made (v := .slice (some ⟨w.heap.size, 0, none⟩) 4 4) (ob := .cells #[.slice z0b0 z0n0 z0m0, .slice z0b1 z0n1 z0m1, .slice z0b2 z0n2 z0m2, .slice z0b3 z0n3 z0m3, .slice z1b0 z1n0 z1m0, .slice z1b1 z1n1 z1m1, .slice z1b2 z1n2 z1m2, .slice z1b3 z1n3 z1m3, .slice z2b0 z2n0 z2m0, .slice z2b1 z2n1 z2m1, .slice z2b2 z2n2 z2m2, .slice z2b3 z2n3 z2m3, .slice z3b0 z3n0 z3m0, .slice z3b1 z3n1 z3m1, .slice z3b2 z3n2 z3m2, .slice z3b3 z3n3 z3m3] 65) (by kernel_rfl) (by have e0 := (hf 1 (by kernel_rfl)).1.1.1.2 rfl; have e1 := (hf 8 (by kernel_rfl)).1.1.2 rfl; have e2 := (hf 13 (by kernel_rfl)).1.2 rfl; have e3 := (hf 18 (by kernel_rfl)).2 rfl; refine ⟨_, rfl, hx.le, _, heap_alloc_new w _, fun k hk => ?_⟩; match k, hk with | 0, _ => exact ⟨_, _, _, _, rfl, rfl, rfl, rfl, e0.ext ((Ext.refl w).alloc _)⟩ | 1, _ => exact ⟨_, _, _, _, rfl, rfl, rfl, rfl, e1.ext ((Ext.refl w).alloc _)⟩ | 2, _ => exact ⟨_, _, _, _, rfl, rfl, rfl, rfl, e2.ext ((Ext.refl w).alloc _)⟩ | 3, _ => exact ⟨_, _, _, _, rfl, rfl, rfl, rfl, e3.ext ((Ext.refl w).alloc _)⟩)) ?_
      intro v19 wq19 _ _ r19
      obtain ⟨g9, rfl, _, _⟩ := r19
      simp only [Act.put, List.setIfInBounds_toArray, List.set_cons_succ, List.set_cons_zero]
      refine Rel.chunk 1 rfl rfl rfl ?_
      simp only [List.take_succ_cons, List.take_zero, List.drop_succ_cons, List.drop_zero, Nat.reduceAdd]
      repeat (go_big_quiet_step (fail))
      refine wpQuiet_nil ?_
      refine Rel.fin ?_
      intro w5 x5 hf5
      have s5 := Step.mk x5
      obtain ⟨g9', e9, hg9, hl9⟩ := (hf5 19).2 rfl
      simp only [Value.slice.injEq, Option.some.injEq, Addr.mk.injEq, and_true] at e9
      subst e9
      have HL := Lib.hid hl9
      have HG9 := Lib.hid hg9
      have HX5 := Lib.hid x5
      clear hf5 hl9 hg9 x5 HF1 HF2 HF3 HF4
      go_wp2_with fail
      go_loopw [9] (fun i wr => ∃ k : Nat, k ≤ 4 ∧ i = .int .i64 k ∧ Hid (Sp ((w3.alloc (.cells #[.slice q30 E.va.length t30, .slice q31 E.fi.length t31, .slice q32 E.me.length t32, .slice q33 E.pl.length t33] 65)).heap.size) w5 wr)) (fun i _ => 4 - (intOf i).toNat)
      case atStart => exact ⟨0, Nat.zero_le _, rfl, Lib.hid (Sp.refl _ _)⟩
      case round =>
        obtain ⟨k, hk, rfl, HS⟩ := hrel
        have sr : Step (w3.alloc (.cells #[.slice q30 E.va.length t30, .slice q31 E.fi.length t31, .slice q32 E.me.length t32, .slice q33 E.pl.length t33] 65)) wr := Step.mk (Sp.ext HX5.out HS.out (Nat.le_refl _))
        by_cases hlt : k < 4
        · obtain ⟨cs, hcs, hk4⟩ := HL.out
          obtain ⟨u0, u1, u2, u3, y0, y1, y2, y3, hE⟩ := hk4 k hlt
          have HE := Lib.hid (hE.typed)
          obtain ⟨b0', n0', m0', b1', n1', m1', b2', n2', m2', b3', n3', m3', hfm⟩ := hE.form
          simp only [Value.agg.injEq, Array.mk.injEq, List.cons.injEq, and_true] at hfm
          obtain ⟨rfl, rfl, rfl, rfl⟩ := hfm
          have hb := HS.out.heap hcs (by decide)
          have p0 := alw (show wr.cell? ⟨g9, k * 4, none⟩ = _ by rw [cell_of hb]; exact y0)
          have p1 := alw (show wr.cell? ⟨g9, k * 4 + 1, none⟩ = _ by rw [cell_of hb]; exact y1)
          have p2 := alw (show wr.cell? ⟨g9, k * 4 + 2, none⟩ = _ by rw [cell_of hb]; exact y2)
          have p3 := alw (show wr.cell? ⟨g9, k * 4 + 3, none⟩ = _ by rw [cell_of hb]; exact y3)
          clear hE hk4 hcs hb y0 y1 y2 y3
          go_wp2_with fail
          refine (spoil_any (HE.out.sp HS.out)).mono ?_
          rintro e w6 ⟨rfl, hsp⟩
          have HS6 := Lib.hid (HS.out.trans hsp)
          clear hsp
          go_wp2_with fail
          go_roundw
          case rel => exact ⟨k + 1, by omega, by go_num, HS6⟩
          case measure => simp [intOf]; omega
        · obtain rfl : k = 4 := by omega
          go_wp2_with fail
          refine (reqV (IO.out.ext ((grows (a := w3) (b := (w3.alloc (.cells #[.slice q30 E.va.length t30, .slice q31 E.fi.length t31, .slice q32 E.me.length t32, .slice q33 E.pl.length t33] 65)))).trans sr.out)) (HA.out.ext (grows (a := W) (b := wr)))).mono ?_
          rintro e w7 ⟨rfl, x7⟩
          rw [En.eq_self]
          have s7 := Step.mk x7
          go_wp2_with fail
          refine (eworks_any _).mono ?_
          rintro e w8 ⟨rfl, x8⟩
          have s8 := Step.mk x8
          go_wp2_with fail
          go_ret
          exact ⟨rfl, grows⟩
end Go.Proofs.Ytdgepbolfflidaa
