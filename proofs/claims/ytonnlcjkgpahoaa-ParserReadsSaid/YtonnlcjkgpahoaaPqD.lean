/- Environments: Clone and New, walked. No condition. -/
import Derived.Test.YtonnlcjkgpahoaaPqC
import Derived.Test.YtonnlcjkgpahoaaPqB
import Derived.Test.YtonnlcjkgpahoaaStep
namespace Go.Proofs.Ytonnlcjkgpahoaa
open Go.RowKit

/-- what a call that makes a row leaves -/
def RowP (W : World) (t : TypeId) (n : Nat) (xs : List Value) (e : Ending) (W' : World) : Prop := ∃ r, e = .returned r ∧ Ext W W' ∧ W'.ownsRow W.heap.size t 1 r n xs
theorem row_ret {W W' : World} {t : TypeId} {n : Nat} {xs : List Value} {v : Value} (hx : Ext W W') (h : W'.ownsRow W.heap.size t 1 v n xs) : RowP W t n xs (.returned v) W' := ⟨v, rfl, hx, h⟩
theorem own_box {B g : Nat} {w w' : World} {e t : TypeId} {v : Value} {n : Nat} {xs : List Value} {c : Array Value} (h : w.ownsRow B e 1 v n xs) (m : Mod (· = g) w w') (hg : w.heap[g]? = some (.cells c t (0, 0))) (hne : e ≠ t) : w'.ownsRow B e 1 v n xs :=
  own_keep h (fun k hk => m.block k (own_lt h hk) (fun e1 => by
    obtain ⟨_, g1, _⟩ := own_heap h hk
    exact ne_of_type g1 hg hne e1))
theorem mod_set {w : World} {g j : Nat} {x : Value} : Mod (· = g) w (w.setCell ⟨g, j, none⟩ x) := Mod.setCell (S := (· = g)) (Mod.refl _ _) (p := ⟨g, j, none⟩) (.inl rfl) _
theorem tower4 {w : World} {g : Nat} {t : TypeId} {a b c d : Value} (u0 u1 u2 u3 : Value) (h : w.heap[g]? = some (.cells #[a, b, c, d] t (0, 0))) :
    Mod (· = g) w ((((w.setCell ⟨g, 0, none⟩ u0).setCell ⟨g, 1, none⟩ u1).setCell ⟨g, 2, none⟩ u2).setCell ⟨g, 3, none⟩ u3) ∧ ((((w.setCell ⟨g, 0, none⟩ u0).setCell ⟨g, 1, none⟩ u1).setCell ⟨g, 2, none⟩ u2).setCell ⟨g, 3, none⟩ u3).heap[g]? = some (.cells #[u0, u1, u2, u3] t (0, 0)) :=
  ⟨((mod_set.trans mod_set).trans mod_set).trans mod_set, by rw [setCell_heap (setCell_heap (setCell_heap (setCell_heap h)))]; rfl⟩
theorem grown_box {B g : Nat} {w w' : World} {e t : TypeId} {v : Value} {n : Nat} {xs : List Value} {c : Array Value} (h : w.grownBy w' v.ownBlock) (ho : w.ownsRow B e 1 v n xs) (hg : w.heap[g]? = some (.cells c t (0, 0))) (hne : e ≠ t) : w'.heap[g]? = some (.cells c t (0, 0)) := by
  rw [h.block g (lt_of_block hg) (fun e1 => by
    obtain ⟨_, g1, _⟩ := own_heap ho e1.symm
    exact ne_of_type g1 hg hne rfl)]
  exact hg
/-- a row put behind the others -/
theorem OwnE.push {B : Nat} {w w' : World} {e : Pg.EV} {vs : List Value} {E : Pg.Env} (h : OwnE B w e vs E) {u v' : Value} {l : List Int} (ho : w.ownsRow B 64 1 u l.length (l.map (.int .u32))) (hU : ∀ x ∈ l, U32 x)
    (hf : ∀ (j : Nat) (u' : Value) (k : Nat), vs[j]? = some u' → u'.ownBlock = some k → u.ownBlock ≠ some k) (hm : ∀ k, u.ownBlock = some k → e.c2.ownBlock ≠ some k)
    (hv : w'.ownsRow B 34 1 v' (E.fi.length + 1) (vs ++ [u])) (hg : w.grownBy w' e.c1.ownBlock) : OwnE B w' ⟨e.c0, v', e.c2, e.c3⟩ (vs ++ [u]) ⟨E.va, E.fi ++ [l], E.me, E.pl⟩ := by
  have keep : ∀ {t : TypeId} {v : Value} {m : Nat} {xs : List Value}, w.ownsRow B t 1 v m xs → t ≠ 34 → w'.ownsRow B t 1 v m xs := fun q hq => own_keep q (fun k hk => hg.block k (own_lt q hk) (fun e1 => own_apart q h.fi.2.1 hq hk e1.symm))
  refine ⟨keep h.va (by decide), h.fi.push ho hU hf hv hg, keep h.me (by decide), h.mu, keep h.pl (by decide), h.pb, fun i x q hi hq => ?_⟩
  rcases Nat.lt_or_ge i vs.length with hlt | hge
  · rw [List.getElem?_append_left hlt] at hi
    exact h.mr i x q hi hq
  · rw [List.getElem?_append_right hge] at hi
    have hi2 := (List.getElem?_eq_some_iff.1 hi).1
    simp at hi2
    rw [show i - vs.length = 0 by omega] at hi
    simp at hi; subst hi
    exact hm q hq
/-- other metadata, in a new block -/
theorem OwnE.meNew {B C : Nat} {w w' : World} {e : Pg.EV} {vs : List Value} {E : Pg.Env} (h : OwnE B w e vs E) (hx : Ext w w') {v : Value} {l : List Int} (hv : w'.ownsRow C 64 1 v l.length (l.map (.int .u32))) (hC : w.heap.size ≤ C) (hB : B ≤ C) (hU : ∀ x ∈ l, U32 x) : OwnE B w' ⟨e.c0, e.c1, v, e.c3⟩ vs ⟨E.va, E.fi, l, E.pl⟩ :=
  ⟨own_ext h.va hx, h.fi.ext hx, own_base hv hB, hU, own_ext h.pl hx, h.pb, fun i u k hu hk e1 => by have h1 := h.fi.lt hu hk; have h2 := own_ge hv e1; omega⟩
theorem OwnE.plNew {B : Nat} {w : World} {e : Pg.EV} {vs : List Value} {E : Pg.Env} (h : OwnE B w e vs E) {v : Value} {l : List Int} (hv : w.ownsRow B 5 1 v l.length (l.map (.int .u8))) (hb : Io.Bytes l) : OwnE B w ⟨e.c0, e.c1, e.c2, v⟩ vs ⟨E.va, E.fi, E.me, l⟩ :=
  ⟨h.va, h.fi, h.me, h.mu, hv, hb, h.mr⟩
theorem heap_set_ne {w : World} {p : Addr} {v : Value} {k : Nat} {o : Obj} (h : w.heap[k]? = some o) (hk : k ≠ p.block) : (w.setCell p v).heap[k]? = some o := by
  rw [Below.heap_setCell _ _ _ _ hk]; exact h
theorem OwnE.box {B g : Nat} {w w' : World} {e : Pg.EV} {vs : List Value} {E : Pg.Env} {c : Array Value} (h : OwnE B w e vs E) (m : Mod (· = g) w w') (hg : w.heap[g]? = some (.cells c 37 (0, 0))) : OwnE B w' e vs E :=
  ⟨own_box h.va m hg (by decide), ⟨h.fi.1, own_box h.fi.2.1 m hg (by decide), fun i u l hu hl => ⟨own_box (h.fi.2.2.1 i u l hu hl).1 m hg (by decide), (h.fi.2.2.1 i u l hu hl).2⟩, h.fi.2.2.2⟩, own_box h.me m hg (by decide), h.mu, own_box h.pl m hg (by decide), h.pb, h.mr⟩
namespace En
/-- how large an environment may be -/
def CapE (E : Pg.Env) : Prop := E.va.length ≤ 1000000 ∧ E.fi.length ≤ 1000000 ∧ E.me.length ≤ 1000000 ∧ E.pl.length ≤ 1000000 ∧ ∀ l ∈ E.fi, l.length ≤ 1000000
end En
theorem src_box {w : World} {g : Nat} {u : Value} {t : TypeId} (h : w.heap[g]? = some (.cells #[u] t (0, 0))) (h1 : u.oneCell' = true) : Src w (.slice (some ⟨g, 0, none⟩) 1 1) 1 1 [u] :=
  ⟨rfl, fun v hv => by obtain rfl := List.mem_singleton.1 hv; exact h1, .inr ⟨_, 1, rfl, fun j v hj => by
    cases j with
    | zero => simp at hj; subst hj; simp [Addr.add, cell_of h]
    | succ j => simp at hj⟩⟩
end Go.Proofs.Ytonnlcjkgpahoaa
namespace Go.Proofs.Ytonnlcjkgpahoaa
open Go.RowKit

set_option maxRecDepth 8000 in
set_option maxHeartbeats 4000000 in
theorem refclone_any {W : World} {e : Pg.EV} {E : Pg.Env} (he : Pg.IsE W e E) (hc : En.CapE E) :
    Calls Try.prog 31 #[e.val] W (EnvP W E) := by
  obtain ⟨b0, b1, b2, b3, d0, d1, d2, d3, hg⟩ := he.form
  obtain ⟨rfl, hva, hfi, hme, hpl, g0, g1, g2, g3⟩ := hg
  dsimp only [Pg.EV.val]
  obtain ⟨c1, c2, c3, c4, c5⟩ := hc
  have HVA := Lib.hid hva.1
  have HME := Lib.hid hme.1.1
  have HPL := Lib.hid hpl.1.1
  have HFI := Lib.hid hfi
  have HU := Lib.hid hme.2
  have HB := Lib.hid hpl.2
  have H5 := Lib.hid c5
  have be := alloc_heap W (.cells #[.slice b0 E.va.length d0, .slice b1 E.fi.length d1, .slice b2 E.me.length d2, .slice b3 E.pl.length d3] 37)
  have k0 := alw (cell_of (o := 0) be)
  have k1 := alw (cell_of (o := 1) be)
  have k2 := alw (cell_of (o := 2) be)
  have k3 := alw (cell_of (o := 3) be)
  clear be
  have bz := alloc_heap ((W.alloc (.cells #[.slice b0 E.va.length d0, .slice b1 E.fi.length d1, .slice b2 E.me.length d2, .slice b3 E.pl.length d3] 37)).alloc (.cells #[.slice none 0 0, .slice none 0 0, .slice none 0 0, .slice none 0 0] 37)) (.cells #[.slice none 0 0, .slice none 0 0, .slice none 0 0, .slice none 0 0] 37)
  rw [World.size_alloc, World.size_alloc] at bz
  have z0 := alw (cell_of (o := 0) bz)
  have z1 := alw (cell_of (o := 1) bz)
  have z2 := alw (cell_of (o := 2) bz)
  have z3 := alw (cell_of (o := 3) bz)
  have f0 := alwF (o := 0) bz
  have f1 := alwF (o := 1) bz
  have f2 := alwF (o := 2) bz
  have f3 := alwF (o := 3) bz
  have HBZ := Lib.hid bz
  clear bz
  have br := alloc_heap (W.alloc (.cells #[.slice b0 E.va.length d0, .slice b1 E.fi.length d1, .slice b2 E.me.length d2, .slice b3 E.pl.length d3] 37)) (.cells #[.slice none 0 0, .slice none 0 0, .slice none 0 0, .slice none 0 0] 37)
  rw [World.size_alloc] at br
  have BR := Lib.hid br
  clear br
  have HS0 := Lib.hid (HVA.out.ext (grows (a := W) (b := (((W.alloc (.cells #[.slice b0 E.va.length d0, .slice b1 E.fi.length d1, .slice b2 E.me.length d2, .slice b3 E.pl.length d3] 37)).alloc (.cells #[.slice none 0 0, .slice none 0 0, .slice none 0 0, .slice none 0 0] 37)).alloc (.cells #[.slice none 0 0, .slice none 0 0, .slice none 0 0, .slice none 0 0] 37)))))
  have hsz : ((((W.alloc (.cells #[.slice b0 E.va.length d0, .slice b1 E.fi.length d1, .slice b2 E.me.length d2, .slice b3 E.pl.length d3] 37)).alloc (.cells #[.slice none 0 0, .slice none 0 0, .slice none 0 0, .slice none 0 0] 37)).alloc (.cells #[.slice none 0 0, .slice none 0 0, .slice none 0 0, .slice none 0 0] 37))).heap.size = W.heap.size + 3 := by rw [World.size_alloc, World.size_alloc, World.size_alloc]
  have HSZ := Lib.hid hsz
  clear he hva hfi hme hpl c5 hsz
  go_enter Try.func31, Try.ntmps31
  go_wp2_with (at_builtin; refine wpList_append_src rfl (.tmp 6) (.tmp 8) 32 rfl (W.heap.size + 3) 4 (.bool false) 1 1 Try.underlying32 info_bool rfl (by decide) (.slice none 0 0) 0 [] rfl (World.ownsRow_nil _ _ _ _) (.slice b0 E.va.length d0) E.va.length (E.va.map .bool) rfl HS0.out (by unfold maxLen; omega) (by omega) (Nat.le_of_eq HSZ.out.symm) ?_; intro v' w1 hv' hg' _; obtain ⟨oa0, oc0, he⟩ := own_slice hv'; subst he; have s1 := Step.mk (grown_ext hg'); have HV := Lib.hid hv'; have HG1 := Lib.hid (grown_ext hg'); clear hv' hg')
  go_loopw [4] (fun i wr => ∃ k : Nat, k ≤ E.fi.length ∧ i = .int .i64 k ∧ Hid (Ext ((W.alloc (.cells #[.slice b0 E.va.length d0, .slice b1 E.fi.length d1, .slice b2 E.me.length d2, .slice b3 E.pl.length d3] 37)).alloc (.cells #[.slice none 0 0, .slice none 0 0, .slice none 0 0, .slice none 0 0] 37)) wr ∧ ∃ oa oc vs, wr.heap[W.heap.size + 2]? = some (.cells #[.slice oa0 E.va.length oc0, .slice oa k oc, .slice none 0 0, .slice none 0 0] 37) ∧ OwnE (W.heap.size + 3) wr ⟨.slice oa0 E.va.length oc0, .slice oa k oc, .slice none 0 0, .slice none 0 0⟩ vs ⟨E.va, E.fi.take k, [], []⟩)) (fun i _ => E.fi.length - (intOf i).toNat)
  case atStart =>
    have bz1 : w1.heap[W.heap.size + 2]? = some (.cells #[.slice none 0 0, .slice none 0 0, .slice none 0 0, .slice none 0 0] 37) := HG1.out.heap HBZ.out
    have h0 : OwnE (W.heap.size + 3) w1 ⟨.slice oa0 E.va.length oc0, .slice none 0 0, .slice none 0 0, .slice none 0 0⟩ [] ⟨E.va, [], [], []⟩ :=
      ⟨by simpa using HV.out, Tab.nil, World.ownsRow_nil _ _ _ _, fun x hx => by simp at hx, World.ownsRow_nil _ _ _ _, fun x hx => by simp at hx, fun i u k hu => by simp at hu⟩
    exact ⟨0, Nat.zero_le _, rfl, Lib.hid ⟨Ext.setCell (((Ext.refl ((W.alloc (.cells #[.slice b0 E.va.length d0, .slice b1 E.fi.length d1, .slice b2 E.me.length d2, .slice b3 E.pl.length d3] 37)).alloc (.cells #[.slice none 0 0, .slice none 0 0, .slice none 0 0, .slice none 0 0] 37))).alloc _).trans HG1.out) (by rw [World.size_alloc, World.size_alloc]; exact Nat.le_refl _) _, none, 0, [], by rw [setCell_heap bz1]; rfl, h0.box mod_set bz1⟩⟩
  case round =>
    obtain ⟨k, hk, rfl, HI⟩ := hrel
    obtain ⟨v1, rfl⟩ : ∃ v1 : World, v1 = wr := ⟨_, rfl⟩
    obtain ⟨hx, oa, oc, vs, hb, ht⟩ := HI.out
    have sx := Step.mk hx
    have HX := Lib.hid hx
    have HT := Lib.hid ht
    have HBX := Lib.hid hb
    have q0 := alw (show v1.cell? ⟨W.heap.size + 2, 0, none⟩ = some (.slice oa0 E.va.length oc0) by rw [cell_of hb]; rfl)
    have q1 := alw (show v1.cell? ⟨W.heap.size + 2, 1, none⟩ = some (.slice oa k oc) by rw [cell_of hb]; rfl)
    have q2 := alw (show v1.cell? ⟨W.heap.size + 2, 2, none⟩ = some (.slice none 0 0) by rw [cell_of hb]; rfl)
    have q3 := alw (show v1.cell? ⟨W.heap.size + 2, 3, none⟩ = some (.slice none 0 0) by rw [cell_of hb]; rfl)
    have qf := alwF (o := 1) hb
    have qg := alwF (o := 2) hb
    have qh := alwF (o := 3) hb
    have HLK := Lib.hid (take_len (l := E.fi) (k := k) hk)
    have hvz := hx.le
    rw [World.size_alloc, World.size_alloc] at hvz
    have hv3 : W.heap.size + 3 ≤ v1.heap.size := lt_of_block hb
    by_cases hlt : k < E.fi.length
    · obtain ⟨l, hlk⟩ : ∃ x, E.fi[k]? = some x := ⟨_, List.getElem?_eq_getElem hlt⟩
      obtain ⟨b1', o1', hb1, _, _⟩ := Rows.at HFI.out (by omega)
      subst hb1
      obtain ⟨la, lc, r2, n2, u2⟩ := rows_at HFI.out k l hlk rfl
      have hl5 := H5.out l (List.mem_of_getElem? hlk)
      have HN := Lib.hid n2.1
      have HUL := Lib.hid u2
      have HTK := Lib.hid (take_at hlk)
      have hown := ht.fi.2.1
      rw [HLK.out] at hown
      have HO := Lib.hid hown
      clear hx HI ht hb n2 u2 hown hlk HV HG1
      go_wp2_with fail
      refine Rel.region_tail (W := v1) 10 (Rel.tab [(2, fun v w => ∃ g, v = .slice (some ⟨g, 0, none⟩) 0 0 ∧ Rel.Fresh v1 g (.cells #[] 64 (0, 0)) w), (8, fun v w => w.ownsRow v1.heap.size 64 1 v l.length (l.map (.int .u32))), (9, fun v w => ∃ g r, v = .slice (some ⟨g, 0, none⟩) 1 1 ∧ Rel.Fresh v1 g (.cells #[r] 34 (0, 0)) w ∧ w.ownsRow v1.heap.size 64 1 r l.length (l.map (.int .u32)))]) (Rel.tab_lasts (by intro p hp v w w' hr hx; simp only [List.mem_cons, List.not_mem_nil, or_false] at hp; rcases hp with rfl | rfl | rfl; (· obtain ⟨g, e1, e2⟩ := hr; exact ⟨g, e1, e2.ext hx⟩); (· exact own_ext hr hx); (· obtain ⟨g, r, e1, e2, e3⟩ := hr; exact ⟨g, r, e1, e2.ext hx, own_ext e3 hx⟩))) (by kernel_rfl) (by kernel_rfl) (Ext.refl _) ?_
      simp only [List.take_succ_cons, List.take_zero]
      refine Rel.chunkT 2 rfl rfl rfl ?_
      simp only [List.take_succ_cons, List.take_zero, List.drop_succ_cons, List.drop_zero, Nat.reduceAdd]
      repeat (go_big_quiet_step (fail))
      refine wpQuiet_nil ?_
      refine Rel.fresh (fun g => .slice (some ⟨g, 0, none⟩) 0 0) (.cells #[] 64 (0, 0)) rfl rfl rfl (fun w hx => by kernel_rfl) ?_
      intro ga ya _ _ h3
      simp only [Act.put, List.setIfInBounds_toArray, List.set_cons_succ, List.set_cons_zero]
      refine Rel.chunkT 5 rfl rfl rfl ?_
      simp only [List.take_succ_cons, List.take_zero, List.drop_succ_cons, List.drop_zero, Nat.reduceAdd]
      repeat (go_big_quiet_step (fail))
      refine wpQuiet_nil ?_
      refine Rel.call (fun v w => w.ownsRow v1.heap.size 64 1 v l.length (l.map (.int .u32))) rfl rfl rfl (fun w hx hf => by have h := (hf 2 (by kernel_rfl)).2 rfl; obtain ⟨g', e1, e2⟩ := h; simp only [Value.slice.injEq, Option.some.injEq, Addr.mk.injEq, and_true] at e1; subst e1; obtain ⟨v8, w8, q1, q2, q3⟩ := run_append_empty (P := Try.prog) w v1.heap.size 34 34 64 (.int .u32 0) 1 4 Try.underlying34 info_u32 rfl (by decide) ga e2.2 e2.1 (.slice la l.length lc) l.length (l.map (.int .u32)) (HN.out.ext ((grows (a := W) (b := v1)).trans hx)) (by unfold maxLen; omega) (by omega); exact Rel.leaves_append rfl rfl rfl q1 q3 q2) ?_
      intro vb wb _ _ r4
      obtain ⟨ra, rc, rfl⟩ := own_slice r4
      simp only [Act.put, List.setIfInBounds_toArray, List.set_cons_succ, List.set_cons_zero]
      refine Rel.call (fun v w => ∃ g r, v = .slice (some ⟨g, 0, none⟩) 1 1 ∧ Rel.Fresh v1 g (.cells #[r] 34 (0, 0)) w ∧ w.ownsRow v1.heap.size 64 1 r l.length (l.map (.int .u32))) rfl rfl rfl (fun w hx hf => Rel.made (v := .slice (some ⟨w.heap.size, 0, none⟩) 1 1) (ob := .cells #[.slice ra l.length rc] 34 (0, 0)) (by kernel_rfl) (by exact ⟨w.heap.size, _, rfl, ⟨hx.le, heap_alloc_new w _⟩, own_ext ((hf 8 (by kernel_rfl)).2 rfl) ((Ext.refl w).alloc _)⟩)) ?_
      intro vc wc _ _ h5
      obtain ⟨gb, rr, rfl, e7, e8⟩ := h5
      simp only [Act.put, List.setIfInBounds_toArray, List.set_cons_succ, List.set_cons_zero]
      refine Rel.fin ?_
      intro w3 x3 hf3
      obtain ⟨ga', rr', e5, e6, e4⟩ := (hf3 9).2 rfl
      simp only [Value.slice.injEq, Option.some.injEq, Addr.mk.injEq, and_true] at e5
      subst e5
      have s3 := Step.mk x3
      have HO3 := Lib.hid (own_ext HO.out x3)
      obtain ⟨qa, qc, rfl⟩ := own_slice e4
      have HS3 : Hid (Src w3 (.slice (some ⟨gb, 0, none⟩) 1 1) 1 1 [.slice qa l.length qc]) := Lib.hid (src_box e6.2 rfl)
      have HQ := Lib.hid e4
      have HX3 := Lib.hid x3
      have hle3 := x3.le
      clear hf3 e6 e4 e7 e8 r4 h3 x3
      refine wpList_append_src rfl (.tmp 19) (.tmp 27) 33 rfl (W.heap.size + 3) 34 (.slice none 0 0) 1 24 Try.underlying33 info_u32s rfl (by decide) (.slice oa k oc) k vs rfl HO3.out (.slice (some ⟨gb, 0, none⟩) 1 1) 1 [.slice qa l.length qc] rfl HS3.out (by unfold maxLen; omega) (by omega) (by omega) ?_
      intro v' w' hv' hg' _
      obtain ⟨oa', oc', he⟩ := own_slice hv'
      subst he
      have HV := Lib.hid hv'
      have HG := Lib.hid hg'
      have hb4 : w'.heap[W.heap.size + 2]? = some (.cells #[.slice oa0 E.va.length oc0, .slice oa k oc, .slice none 0 0, .slice none 0 0] 37) := grown_box hg' HO3.out (HX3.out.heap HBX.out) (by decide)
      have y1 : w'.cell? ⟨W.heap.size + 2, 1, none⟩ = some (.slice oa k oc) := by rw [cell_of hb4]; rfl
      have yf : w'.frozen? ⟨W.heap.size + 2, 1, none⟩ = false := free_of hb4
      have HB4 := Lib.hid hb4
      clear hv' hg' hb4
      go_wp2_with fail
      go_roundw
      case rel =>
        have hB4 := HB4.out
        refine ⟨k + 1, by omega, by go_num, Lib.hid ⟨Ext.setCell (ext_grown (HX.out.trans HX3.out) HG.out (fun q hq => by rw [World.size_alloc, World.size_alloc]; have := own_ge HO3.out hq; omega)) (by rw [World.size_alloc, World.size_alloc]; exact Nat.le_refl _) _, oa', oc', vs ++ [.slice qa l.length qc], by rw [setCell_heap hB4]; rfl, ?_⟩⟩
        rw [HTK.out]
        have ho := OwnE.push (w := w3) (HT.out.ext HX3.out) (own_base HQ.out (by omega)) HUL.out (fun j u q hu hq e1 => by have h1 := HT.out.fi.lt hu hq; have h2 := own_ge HQ.out e1; omega) (fun q hq e1 => by have h1 := own_lt HT.out.me e1; have h2 := own_ge HQ.out hq; omega) (by rw [HLK.out]; exact HV.out) HG.out
        exact ho.box mod_set hB4
      case measure => simp [intOf]; omega
    · obtain rfl : k = E.fi.length := by omega
      have hw : Ext W v1 := grows
      have HS1 := Lib.hid (HME.out.ext hw)
      have HW := Lib.hid hw
      clear hx HI ht hb HV HG1 hw
      go_wp2_with (first
        | (at_builtin; refine wpList_append_src rfl (.tmp 31) (.tmp 33) 34 rfl v1.heap.size 64 (.int .u32 0) 1 4 Try.underlying34 info_u32 rfl (by decide) (.slice none 0 0) 0 [] rfl (World.ownsRow_nil _ _ _ _) (.slice b2 E.me.length d2) E.me.length (E.me.map (.int .u32)) rfl HS1.out (by unfold maxLen; omega) (by omega) (Nat.le_refl _) ?_; intro v' w5 hv' hg' _; obtain ⟨oa1, oc1, he⟩ := own_slice hv'; subst he; have s5 := Step.mk (grown_ext hg'); have HV5 := Lib.hid hv'; have HG5 := Lib.hid (grown_ext hg'); have HS2 := Lib.hid (HPL.out.ext (Ext.setCell (p := ⟨W.heap.size + 1 + 1, 2, none⟩) (HW.out.trans (grown_ext hg')) (by show W.heap.size ≤ W.heap.size + 1 + 1; omega) (.slice oa1 E.me.length oc1))); have HZ5 := Lib.hid (show w5.heap.size ≤ (w5.setCell ⟨W.heap.size + 1 + 1, 2, none⟩ (.slice oa1 E.me.length oc1)).heap.size by simp [World.setCell]); clear hv' hg')
        | (at_builtin; refine wpList_append_src rfl (.tmp 37) (.tmp 39) 35 rfl w5.heap.size 5 (.int .u8 0) 1 1 Try.underlying35 info_u8 rfl (by decide) (.slice none 0 0) 0 [] rfl (World.ownsRow_nil _ _ _ _) (.slice b3 E.pl.length d3) E.pl.length (E.pl.map (.int .u8)) rfl HS2.out (by unfold maxLen; omega) (by omega) HZ5.out ?_; intro v' w6 hv' hg' _; obtain ⟨oa2, oc2, he⟩ := own_slice hv'; subst he; have HV6 := Lib.hid hv'; have HG6 := Lib.hid (grown_ext hg'); have hb5 : w5.heap[W.heap.size + 1 + 1]? = some (.cells #[.slice oa0 E.va.length oc0, .slice oa E.fi.length oc, .slice none 0 0, .slice none 0 0] 37) := HG5.out.heap HBX.out; have HB5 := Lib.hid hb5; have hb6 : w6.heap[W.heap.size + 1 + 1]? = some (.cells #[.slice oa0 E.va.length oc0, .slice oa E.fi.length oc, .slice oa1 E.me.length oc1, .slice none 0 0] 37) := HG6.out.heap (by rw [setCell_heap hb5]; rfl); have HB6 := Lib.hid hb6; have y0 : w6.cell? ⟨W.heap.size + 1 + 1, 0, none⟩ = some (.slice oa0 E.va.length oc0) := (by rw [cell_of hb6]; rfl); have y1 : w6.cell? ⟨W.heap.size + 1 + 1, 1, none⟩ = some (.slice oa E.fi.length oc) := (by rw [cell_of hb6]; rfl); have y2 : w6.cell? ⟨W.heap.size + 1 + 1, 2, none⟩ = some (.slice oa1 E.me.length oc1) := (by rw [cell_of hb6]; rfl); have y3 : w6.cell? ⟨W.heap.size + 1 + 1, 3, none⟩ = some (.slice none 0 0) := (by rw [cell_of hb6]; rfl); have yf : w6.frozen? ⟨W.heap.size + 1 + 1, 3, none⟩ = false := free_of hb6; have hx6 : Ext ((W.alloc (.cells #[.slice b0 E.va.length d0, .slice b1 E.fi.length d1, .slice b2 E.me.length d2, .slice b3 E.pl.length d3] 37)).alloc (.cells #[.slice none 0 0, .slice none 0 0, .slice none 0 0, .slice none 0 0] 37)) w6 := (Ext.setCell (HX.out.trans HG5.out) (by rw [World.size_alloc, World.size_alloc]; exact Nat.le_refl _) _).trans HG6.out; have hr6 := hx6.heap BR.out; have HR6 := Lib.hid hr6; have HX6 := Lib.hid hx6; have o0 : w6.cell? ⟨W.heap.size + 1, 0, none⟩ = some (.slice none 0 0) := (by rw [cell_of hr6]; rfl); have o1 : w6.cell? ⟨W.heap.size + 1, 1, none⟩ = some (.slice none 0 0) := (by rw [cell_of hr6]; rfl); have o2 : w6.cell? ⟨W.heap.size + 1, 2, none⟩ = some (.slice none 0 0) := (by rw [cell_of hr6]; rfl); have o3 : w6.cell? ⟨W.heap.size + 1, 3, none⟩ = some (.slice none 0 0) := (by rw [cell_of hr6]; rfl); have t0 : w6.frozen? ⟨W.heap.size + 1, 0, none⟩ = false := free_of hr6; have t1 : w6.frozen? ⟨W.heap.size + 1, 1, none⟩ = false := free_of hr6; have t2 : w6.frozen? ⟨W.heap.size + 1, 2, none⟩ = false := free_of hr6; have t3 : w6.frozen? ⟨W.heap.size + 1, 3, none⟩ = false := free_of hr6; clear hv' hg' hb5 hb6 hx6 hr6))
      obtain ⟨w4, h4⟩ : ∃ w4, w4 = (((((w6.setCell ⟨W.heap.size + 1 + 1, 3, none⟩ (.slice oa2 E.pl.length oc2)).setCell ⟨W.heap.size + 1, 0, none⟩ (.slice oa0 E.va.length oc0)).setCell ⟨W.heap.size + 1, 1, none⟩ (.slice oa E.fi.length oc)).setCell ⟨W.heap.size + 1, 2, none⟩ (.slice oa1 E.me.length oc1)).setCell ⟨W.heap.size + 1, 3, none⟩ (.slice oa2 E.pl.length oc2)) := ⟨_, rfl⟩
      rw [← h4]
      obtain ⟨m4, b4⟩ := tower4 (.slice oa0 E.va.length oc0) (.slice oa E.fi.length oc) (.slice oa1 E.me.length oc1) (.slice oa2 E.pl.length oc2) (heap_set_ne (p := ⟨W.heap.size + 1 + 1, 3, none⟩) HR6.out (by show W.heap.size + 1 ≠ W.heap.size + 1 + 1; omega))
      rw [← h4] at m4 b4
      have p0 : w4.cell? ⟨W.heap.size + 1, 0, none⟩ = some (.slice oa0 E.va.length oc0) := by rw [cell_of b4]; rfl
      have p1 : w4.cell? ⟨W.heap.size + 1, 1, none⟩ = some (.slice oa E.fi.length oc) := by rw [cell_of b4]; rfl
      have p2 : w4.cell? ⟨W.heap.size + 1, 2, none⟩ = some (.slice oa1 E.me.length oc1) := by rw [cell_of b4]; rfl
      have p3 : w4.cell? ⟨W.heap.size + 1, 3, none⟩ = some (.slice oa2 E.pl.length oc2) := by rw [cell_of b4]; rfl
      clear h4
      refine bodyPost_ret (v := .agg #[.slice oa0 E.va.length oc0, .slice oa E.fi.length oc, .slice oa1 E.me.length oc1, .slice oa2 E.pl.length oc2]) (by simp [results, Try.results31, go_sem, p0, p1, p2, p3]) rfl ?_
      have h5 := HT.out.meNew (l := E.me) HG5.out (by simpa using HV5.out) (Nat.le_refl _) (by omega) HU.out
      have h6 := (h5.box (mod_set (g := W.heap.size + 1 + 1) (j := 2) (x := .slice oa1 E.me.length oc1)) HB5.out).ext HG6.out
      have h7 := h6.plNew (l := E.pl) (own_base (by simpa using HV6.out) (by have := HG5.out.le; omega)) HB.out
      have h8 := (h7.box (mod_set (g := W.heap.size + 1 + 1) (j := 3) (x := .slice oa2 E.pl.length oc2)) HB6.out).box m4 (heap_set_ne (p := ⟨W.heap.size + 1 + 1, 3, none⟩) HR6.out (by show W.heap.size + 1 ≠ W.heap.size + 1 + 1; omega))
      rw [List.take_length] at h8
      have hw6 : Ext W (w6.setCell ⟨W.heap.size + 1 + 1, 3, none⟩ (.slice oa2 E.pl.length oc2)) := Ext.setCell ((grows (a := W) (b := ((W.alloc (.cells #[.slice b0 E.va.length d0, .slice b1 E.fi.length d1, .slice b2 E.me.length d2, .slice b3 E.pl.length d3] 37)).alloc (.cells #[.slice none 0 0, .slice none 0 0, .slice none 0 0, .slice none 0 0] 37)))).trans HX6.out) (by show W.heap.size ≤ W.heap.size + 1 + 1; omega) _
      exact env_ret (Ext.mod hw6 m4 (fun k hk => by subst hk; omega)) (h8.base (by omega))
end Go.Proofs.Ytonnlcjkgpahoaa
namespace Go.Proofs.Ytonnlcjkgpahoaa
open Go.RowKit

theorem mk_bools (n : Nat) (h : n ≤ 1000000) (w : World) : (Instr.makeSlice 32 (.int .i64 (n : Int)) (.int .i64 (n : Int))).run Try.prog w = .ok (.slice (some ⟨w.heap.size, 0, none⟩) n n) (w.alloc (.cells (madeCells #[.bool false] n) 4)) :=
  run_make_row' _ _ _ 1 Try.underlying32 info_bool rfl _ _ n (by omega) (by omega) w
theorem own_fresh {B g n : Nat} {w : World} {z : Value} {t : TypeId} (h : w.heap[g]? = some (.cells (madeCells #[z] n) t (0, 0))) (hB : B ≤ g) (hm : n ≤ maxLen) : w.ownsRow B t 1 (.slice (some ⟨g, 0, none⟩) n n) n (List.replicate n z) :=
  ⟨by simp, .inr ⟨g, n, _, rfl, hB, h, Nat.le_refl _, hm, by simp [madeCells], by rw [made_list]; simp⟩⟩
theorem Tab.fresh {B g n : Nat} {w : World} (h : w.heap[g]? = some (.cells (madeCells #[.slice none 0 0] n) 34 (0, 0))) (hB : B ≤ g) (hm : n ≤ maxLen) : Tab B w (.slice (some ⟨g, 0, none⟩) n n) (List.replicate n (.slice none 0 0)) (List.replicate n []) := by
  have ho := own_fresh h hB hm
  refine ⟨by simp, by rw [List.length_replicate]; exact ho, fun i u l hu hl => ?_, fun i j u u' k hu hu' h1 h2 => ?_⟩
  · obtain rfl := List.eq_of_mem_replicate (List.mem_of_getElem? hu)
    obtain rfl := List.eq_of_mem_replicate (List.mem_of_getElem? hl)
    exact ⟨World.ownsRow_nil _ _ _ _, by simp⟩
  · obtain rfl := List.eq_of_mem_replicate (List.mem_of_getElem? hu)
    simp [Value.ownBlock] at h1
namespace En
def newF (P : Pg.Prog) : List (List Int) := P.hs.map fun h => List.replicate h.2.length 0
def new (P : Pg.Prog) : Pg.Env := ⟨List.replicate P.hs.length false, newF P, List.replicate P.md.length 0, []⟩
def CapP (P : Pg.Prog) : Prop := P.hs.length ≤ 1000000 ∧ P.md.length ≤ 1000000 ∧ ∀ h ∈ P.hs, h.2.length ≤ 1000000
theorem newF_len (P : Pg.Prog) : (newF P).length = P.hs.length := by simp [newF]
theorem newF_at {P : Pg.Prog} {k : Nat} {nm : ByteArray} {fs : List Hd.Fld} (h : P.hs[k]? = some (nm, fs)) : (newF P)[k]? = some (List.replicate fs.length 0) := by unfold newF; simp [h]
end En
theorem OwnE.tabCell {B : Nat} {w : World} {e : Pg.EV} {vs : List Value} {E : Pg.Env} (h : OwnE B w e vs E) {G n c : Nat} (he : e.c1 = .slice (some ⟨G, 0, none⟩) n c) {k : Nat} (hk : k < E.fi.length) : ∃ u, vs[k]? = some u ∧ (∀ w' [Grows w w'], w'.cell? ⟨G, k, none⟩ = some u) ∧ (∀ w' [Grows w w'], w'.frozen? ⟨G, k, none⟩ = false) := by
  have h1 := h.fi
  rw [he] at h1
  exact h1.at hk
set_option maxRecDepth 8000 in
set_option maxHeartbeats 4000000 in
theorem enew_any {W : World} {p : Pg.PV} {P : Pg.Prog} (hp : Pg.IsP W p P) (hc : En.CapP P) :
    Calls Try.prog 82 #[p.val] W (EnvP W (En.new P)) := by
  obtain ⟨s, a1, a2, a3, a4, a5, a6, a7, a8, m1, m2, n3, m3, n4, m4, n5, m5, n6, m6, n7, m7, m8, hf⟩ := hp.form
  obtain ⟨rfl, hhs, hmd, _, hl1, hl2, _⟩ := hf
  dsimp only [Pg.PV.val]
  obtain ⟨c1, c2, c3⟩ := hc
  have HHS := Lib.hid hhs
  have H3 := Lib.hid c3
  have be := alloc_heap W (.cells #[.string s, .slice a1 P.hs.length m1, .slice a2 P.md.length m2, .slice a3 n3 m3, .slice a4 n4 m4, .slice a5 n5 m5, .slice a6 n6 m6, .slice a7 n7 m7, .slice a8 P.dp.length m8] 31)
  have k1 := alw (cell_of (o := 1) be)
  have k2 := alw (cell_of (o := 2) be)
  clear be
  clear hp hhs hmd c3
  go_enter Try.func82, Try.ntmps82
  go_wp2_with fail
  refine Rel.region_tail (W := ((W.alloc (.cells #[.string s, .slice a1 P.hs.length m1, .slice a2 P.md.length m2, .slice a3 n3 m3, .slice a4 n4 m4, .slice a5 n5 m5, .slice a6 n6 m6, .slice a7 n7 m7, .slice a8 P.dp.length m8] 31)).alloc (.cells #[.slice none 0 0, .slice none 0 0, .slice none 0 0, .slice none 0 0] 37))) 14 (Rel.tab [(3, fun v w => ∃ g, v = .slice (some ⟨g, 0, none⟩) (P.hs.length) (P.hs.length) ∧ Rel.Fresh ((W.alloc (.cells #[.string s, .slice a1 P.hs.length m1, .slice a2 P.md.length m2, .slice a3 n3 m3, .slice a4 n4 m4, .slice a5 n5 m5, .slice a6 n6 m6, .slice a7 n7 m7, .slice a8 P.dp.length m8] 31)).alloc (.cells #[.slice none 0 0, .slice none 0 0, .slice none 0 0, .slice none 0 0] 37)) g (.cells (madeCells #[.bool false] (P.hs.length)) 4) w), (7, fun v w => ∃ g, v = .slice (some ⟨g, 0, none⟩) (P.hs.length) (P.hs.length) ∧ Rel.Fresh ((W.alloc (.cells #[.string s, .slice a1 P.hs.length m1, .slice a2 P.md.length m2, .slice a3 n3 m3, .slice a4 n4 m4, .slice a5 n5 m5, .slice a6 n6 m6, .slice a7 n7 m7, .slice a8 P.dp.length m8] 31)).alloc (.cells #[.slice none 0 0, .slice none 0 0, .slice none 0 0, .slice none 0 0] 37)) g (.cells (madeCells #[.slice none 0 0] (P.hs.length)) 34) w), (11, fun v w => ∃ g, v = .slice (some ⟨g, 0, none⟩) (P.md.length) (P.md.length) ∧ Rel.Fresh ((W.alloc (.cells #[.string s, .slice a1 P.hs.length m1, .slice a2 P.md.length m2, .slice a3 n3 m3, .slice a4 n4 m4, .slice a5 n5 m5, .slice a6 n6 m6, .slice a7 n7 m7, .slice a8 P.dp.length m8] 31)).alloc (.cells #[.slice none 0 0, .slice none 0 0, .slice none 0 0, .slice none 0 0] 37)) g (.cells (madeCells #[.int .u32 0] (P.md.length)) 64) w), (13, fun v w => ∃ g, v = .pointer (some ⟨g, 0, none⟩) ∧ Rel.Fresh ((W.alloc (.cells #[.string s, .slice a1 P.hs.length m1, .slice a2 P.md.length m2, .slice a3 n3 m3, .slice a4 n4 m4, .slice a5 n5 m5, .slice a6 n6 m6, .slice a7 n7 m7, .slice a8 P.dp.length m8] 31)).alloc (.cells #[.slice none 0 0, .slice none 0 0, .slice none 0 0, .slice none 0 0] 37)) g (.cells #[.slice none 0 0, .slice none 0 0, .slice none 0 0, .slice none 0 0] 37) w)]) (Rel.tab_lasts (by intro p hp v w w' hr hx; simp only [List.mem_cons, List.not_mem_nil, or_false] at hp; rcases hp with rfl | rfl | rfl | rfl <;> (obtain ⟨g, e1, e2⟩ := hr; exact ⟨g, e1, e2.ext hx⟩))) (by kernel_rfl) (by kernel_rfl) (Ext.refl _) ?_
  simp only [List.take_succ_cons, List.take_zero]
  refine Rel.chunkT 3 rfl rfl rfl ?_
  simp only [List.take_succ_cons, List.take_zero, List.drop_succ_cons, List.drop_zero, Nat.reduceAdd]
  repeat (go_big_quiet_step (fail))
  refine wpQuiet_nil ?_
  refine Rel.mk (P.hs.length) (.bool false) rfl rfl rfl rfl rfl rfl (mk_bools P.hs.length (by omega)) ?_
  intro g0 y0 _ _ h0
  simp only [Act.put, List.setIfInBounds_toArray, List.set_cons_succ, List.set_cons_zero]
  refine Rel.chunkT 3 rfl rfl rfl ?_
  simp only [List.take_succ_cons, List.take_zero, List.drop_succ_cons, List.drop_zero, Nat.reduceAdd]
  repeat (go_big_quiet_step (fail))
  refine wpQuiet_nil ?_
  refine Rel.mk (P.hs.length) (.slice none 0 0) rfl rfl rfl rfl rfl rfl (mk_tab P.hs.length (by omega)) ?_
  intro g1 y1 _ _ h1
  simp only [Act.put, List.setIfInBounds_toArray, List.set_cons_succ, List.set_cons_zero]
  refine Rel.chunkT 3 rfl rfl rfl ?_
  simp only [List.take_succ_cons, List.take_zero, List.drop_succ_cons, List.drop_zero, Nat.reduceAdd]
  repeat (go_big_quiet_step (fail))
  refine wpQuiet_nil ?_
  refine Rel.mk (P.md.length) (.int .u32 0) rfl rfl rfl rfl rfl rfl (mk_row P.md.length (by omega)) ?_
  intro g2 y2 _ _ h2
  simp only [Act.put, List.setIfInBounds_toArray, List.set_cons_succ, List.set_cons_zero]
  refine Rel.chunkT 1 rfl rfl rfl ?_
  simp only [List.take_succ_cons, List.take_zero, List.drop_succ_cons, List.drop_zero, Nat.reduceAdd]
  repeat (go_big_quiet_step (fail))
  refine wpQuiet_nil ?_
  refine Rel.fresh (fun g => .pointer (some ⟨g, 0, none⟩)) (.cells #[.slice none 0 0, .slice none 0 0, .slice none 0 0, .slice none 0 0] 37) rfl rfl rfl (fun w hx => by kernel_rfl) ?_
  intro g3 y3 _ _ h3
  simp only [Act.put, List.setIfInBounds_toArray, List.set_cons_succ, List.set_cons_zero]
  refine Rel.fin ?_
  intro w1 x1 hf1
  have s1 := Step.mk x1
  obtain ⟨g', e1, f0⟩ := (hf1 3).1.1.1.2 rfl
  simp only [Value.slice.injEq, Option.some.injEq, Addr.mk.injEq, and_true] at e1
  subst e1
  obtain ⟨g', e1, f1⟩ := (hf1 7).1.1.2 rfl
  simp only [Value.slice.injEq, Option.some.injEq, Addr.mk.injEq, and_true] at e1
  subst e1
  obtain ⟨g', e1, f2⟩ := (hf1 11).1.2 rfl
  simp only [Value.slice.injEq, Option.some.injEq, Addr.mk.injEq, and_true] at e1
  subst e1
  obtain ⟨g', e1, e2, e3⟩ := (hf1 13).2 rfl
  simp only [Value.pointer.injEq, Option.some.injEq, Addr.mk.injEq, and_true] at e1
  subst e1
  have HE3 := Lib.hid e3
  have HE2 := Lib.hid e2
  have b0 := f0.1
  have b1 := f1.1
  have b2 := f2.1
  rw [World.size_alloc, World.size_alloc] at b0 b1 b2
  have F0 := Lib.hid f0.2
  have F1 := Lib.hid f1.2
  have F2 := Lib.hid f2.2
  clear hf1 e2 e3 f0 f1 f2 h0 h1 h2 h3
  refine wpList_store_box rfl 37 (.tmp 3) (.tmp 17) rfl g3 #[.slice (some ⟨g0, 0, none⟩) P.hs.length P.hs.length, .slice (some ⟨g1, 0, none⟩) P.hs.length P.hs.length, .slice (some ⟨g2, 0, none⟩) P.md.length P.md.length, .slice none 0 0] rfl rfl 37 #[.slice none 0 0, .slice none 0 0, .slice none 0 0, .slice none 0 0] HE3.out (by kernel_rfl) rfl (by simp [Value.oneCell']) ?_
  intro w2 m2 e3
  have x2 := Ext.mod x1 m2 (fun k hk => by subst hk; exact HE2.out)
  have ow : OwnE (W.heap.size + 2) w1 ⟨.slice (some ⟨g0, 0, none⟩) P.hs.length P.hs.length, .slice (some ⟨g1, 0, none⟩) P.hs.length P.hs.length, .slice (some ⟨g2, 0, none⟩) P.md.length P.md.length, .slice none 0 0⟩ (List.replicate P.hs.length (.slice none 0 0)) ⟨List.replicate P.hs.length false, List.replicate P.hs.length [], List.replicate P.md.length 0, []⟩ :=
    ⟨by have h := own_fresh (B := W.heap.size + 2) F0.out b0 (by unfold maxLen; omega); simpa using h, Tab.fresh F1.out b1 (by unfold maxLen; omega), by have h := own_fresh (B := W.heap.size + 2) F2.out b2 (by unfold maxLen; omega); simpa using h, zero_u32, World.ownsRow_nil _ _ _ _, fun x hx => by simp at hx, fun i u k hu hk => by
      obtain rfl := List.eq_of_mem_replicate (List.mem_of_getElem? hu)
      simp [Value.ownBlock] at hk⟩
  have sw := Step.mk x2
  have HX2 := Lib.hid x2
  have HE := Lib.hid e3
  have HOW := Lib.hid (ow.box m2 HE3.out)
  clear m2 e3 x2 ow HE3 x1 F0 F1 F2
  go_wp2_with fail
  go_loopw [21] (fun i wr => ∃ k : Nat, k ≤ P.hs.length ∧ i = .int .i64 k ∧ Hid (Ext ((W.alloc (.cells #[.string s, .slice a1 P.hs.length m1, .slice a2 P.md.length m2, .slice a3 n3 m3, .slice a4 n4 m4, .slice a5 n5 m5, .slice a6 n6 m6, .slice a7 n7 m7, .slice a8 P.dp.length m8] 31)).alloc (.cells #[.slice none 0 0, .slice none 0 0, .slice none 0 0, .slice none 0 0] 37)) wr ∧ ∃ vs, wr.heap[g3]? = some (.cells #[.slice (some ⟨g0, 0, none⟩) P.hs.length P.hs.length, .slice (some ⟨g1, 0, none⟩) P.hs.length P.hs.length, .slice (some ⟨g2, 0, none⟩) P.md.length P.md.length, .slice none 0 0] 37 (0, 0)) ∧ OwnE (W.heap.size + 2) wr ⟨.slice (some ⟨g0, 0, none⟩) P.hs.length P.hs.length, .slice (some ⟨g1, 0, none⟩) P.hs.length P.hs.length, .slice (some ⟨g2, 0, none⟩) P.md.length P.md.length, .slice none 0 0⟩ vs ⟨List.replicate P.hs.length false, Rg.part (En.newF P) k, List.replicate P.md.length 0, []⟩)) (fun i _ => P.hs.length - (intOf i).toNat)
  case atStart => exact ⟨0, Nat.zero_le _, rfl, Lib.hid ⟨HX2.out, _, HE.out, by rw [Rg.part_zero, En.newF_len]; exact HOW.out⟩⟩
  case round =>
    obtain ⟨k, hk, rfl, HI⟩ := hrel
    obtain ⟨v1, rfl⟩ : ∃ v1 : World, v1 = wr := ⟨_, rfl⟩
    obtain ⟨hx, vs, hb, ht⟩ := HI.out
    have sx := Step.mk hx
    have HX := Lib.hid hx
    have HT := Lib.hid ht
    have HBX := Lib.hid hb
    have q1 := alw (show v1.cell? ⟨g3, 1, none⟩ = some (.slice (some ⟨g1, 0, none⟩) P.hs.length P.hs.length) by rw [cell_of hb]; rfl)
    have HLP := Lib.hid ((Rg.part_len (En.newF P) (k := k) (by rw [En.newF_len]; exact hk)).trans (En.newF_len P))
    have hvz := hx.le
    rw [World.size_alloc, World.size_alloc] at hvz
    by_cases hlt : k < P.hs.length
    · obtain ⟨⟨nk, fs⟩, hlk⟩ : ∃ x, P.hs[k]? = some x := ⟨_, List.getElem?_eq_getElem hlt⟩
      obtain ⟨b1', o1', hb1, _, _⟩ := Rows.at HHS.out (by omega)
      subst hb1
      obtain ⟨fa, fc, r0, r1, _, r2, r3, r4⟩ := hdrs_at HHS.out k nk fs hlk rfl
      have hl5 := H3.out (nk, fs) (List.mem_of_getElem? hlk)
      dsimp only at hl5
      have HPS := Lib.hid (Rg.part_succ (En.newF_at hlk))
      obtain ⟨u, hu, hc, hf⟩ := ht.tabCell (k := k) rfl (by show k < (Rg.part (En.newF P) k).length; rw [HLP.out]; exact hlt)
      unfold maxLen at r4
      clear hx HI ht hb hlk r2 HX2 HE HOW
      go_wp2_with fail
      refine Rel.region_tail (W := v1) 12 (Rel.tab [(10, fun v w => ∃ g, v = .slice (some ⟨g, 0, none⟩) (fs.length) (fs.length) ∧ Rel.Fresh v1 g (.cells (madeCells #[.int .u32 0] (fs.length)) 64) w)]) (Rel.tab_lasts (by intro p hp v w w' hr hx; simp only [List.mem_cons, List.not_mem_nil, or_false] at hp; subst hp; obtain ⟨g, e1, e2⟩ := hr; exact ⟨g, e1, e2.ext hx⟩)) (by kernel_rfl) (by kernel_rfl) (Ext.refl _) ?_
      simp only [List.take_succ_cons, List.take_zero]
      refine Rel.chunkT 10 rfl rfl rfl ?_
      simp only [List.take_succ_cons, List.take_zero, List.drop_succ_cons, List.drop_zero, Nat.reduceAdd]
      repeat (go_big_quiet_step (fail))
      refine wpQuiet_nil ?_
      refine Rel.mk (fs.length) (.int .u32 0) rfl rfl rfl rfl rfl rfl (mk_row fs.length (by omega)) ?_
      intro gr yr _ _ hr4
      simp only [Act.put, List.setIfInBounds_toArray, List.set_cons_succ, List.set_cons_zero]
      refine Rel.chunkT 1 rfl rfl rfl ?_
      simp only [List.take_succ_cons, List.take_zero, List.drop_succ_cons, List.drop_zero, Nat.reduceAdd]
      repeat (go_big_quiet_step (fail))
      refine wpQuiet_nil ?_
      refine Rel.fin ?_
      intro w3 x3 hf3
      obtain ⟨g', e1, e2, e3⟩ := (hf3 10).2 rfl
      simp only [Value.slice.injEq, Option.some.injEq, Addr.mk.injEq, and_true] at e1
      subst e1
      have s3 := Step.mk x3
      have HX3 := Lib.hid x3
      have FR := Lib.hid e3
      have gr3 : v1.heap.size ≤ gr := e2
      clear hf3 hr4 e2 e3 x3
      go_wp2_with fail
      go_roundw
      case rel =>
        have ht := HT.out
        have hx3 := HX3.out
        have hne : g3 ≠ g1 := fun e => by
          obtain ⟨_, h1, _⟩ := own_heap ht.fi.2.1 (k := g1) rfl
          exact ne_of_type h1 HBX.out (by decide) e.symm
        refine ⟨k + 1, by omega, by go_num, Lib.hid ⟨Ext.setCell (HX.out.trans hx3) (by rw [World.size_alloc, World.size_alloc]; exact b1) _, vs.set k (.slice (some ⟨gr, 0, none⟩) fs.length fs.length), heap_set_ne (hx3.heap HBX.out) hne, ?_⟩⟩
        rw [HPS.out]
        exact OwnE.setRow (ht.ext hx3) rfl (by show k < (Rg.part (En.newF P) k).length; rw [HLP.out]; exact hlt) (by have h := own_fresh (B := W.heap.size + 2) FR.out (by omega) (by unfold maxLen; omega); simpa using h) zero_u32 (fun j u hu e1 => by have h1 := ht.fi.lt hu e1; omega) (fun e1 => by have h1 := own_lt ht.me e1; omega)
      case measure => simp [intOf]; omega
    · obtain rfl : k = P.hs.length := by omega
      have q0 := alw (show v1.cell? ⟨g3, 0, none⟩ = some (.slice (some ⟨g0, 0, none⟩) P.hs.length P.hs.length) by rw [cell_of hb]; rfl)
      have q2 := alw (show v1.cell? ⟨g3, 2, none⟩ = some (.slice (some ⟨g2, 0, none⟩) P.md.length P.md.length) by rw [cell_of hb]; rfl)
      have q3 := alw (show v1.cell? ⟨g3, 3, none⟩ = some (.slice none 0 0) by rw [cell_of hb]; rfl)
      have br := alloc_heap (W.alloc (.cells #[.string s, .slice a1 P.hs.length m1, .slice a2 P.md.length m2, .slice a3 n3 m3, .slice a4 n4 m4, .slice a5 n5 m5, .slice a6 n6 m6, .slice a7 n7 m7, .slice a8 P.dp.length m8] 31)) (.cells #[.slice none 0 0, .slice none 0 0, .slice none 0 0, .slice none 0 0] 37)
      rw [World.size_alloc] at br
      have BR := Lib.hid br
      have r0 := alw (cell_of (o := 0) br)
      have r1 := alw (cell_of (o := 1) br)
      have r2 := alw (cell_of (o := 2) br)
      have r3 := alw (cell_of (o := 3) br)
      have e0 := alwF (o := 0) br
      have e1 := alwF (o := 1) br
      have e2 := alwF (o := 2) br
      have e3 := alwF (o := 3) br
      clear hx HI ht hb br HX2 HE HOW
      go_wp2_with fail
      obtain ⟨w4, h4⟩ : ∃ w4, w4 = ((((v1.setCell ⟨W.heap.size + 1, 0, none⟩ (.slice (some ⟨g0, 0, none⟩) P.hs.length P.hs.length)).setCell ⟨W.heap.size + 1, 1, none⟩ (.slice (some ⟨g1, 0, none⟩) P.hs.length P.hs.length)).setCell ⟨W.heap.size + 1, 2, none⟩ (.slice (some ⟨g2, 0, none⟩) P.md.length P.md.length)).setCell ⟨W.heap.size + 1, 3, none⟩ (.slice none 0 0)) := ⟨_, rfl⟩
      rw [← h4]
      obtain ⟨m4, b4⟩ := tower4 (.slice (some ⟨g0, 0, none⟩) P.hs.length P.hs.length) (.slice (some ⟨g1, 0, none⟩) P.hs.length P.hs.length) (.slice (some ⟨g2, 0, none⟩) P.md.length P.md.length) (.slice none 0 0) (HX.out.heap BR.out)
      rw [← h4] at m4 b4
      have y0 : w4.cell? ⟨W.heap.size + 1, 0, none⟩ = some (.slice (some ⟨g0, 0, none⟩) P.hs.length P.hs.length) := by rw [cell_of b4]; rfl
      have y1 : w4.cell? ⟨W.heap.size + 1, 1, none⟩ = some (.slice (some ⟨g1, 0, none⟩) P.hs.length P.hs.length) := by rw [cell_of b4]; rfl
      have y2 : w4.cell? ⟨W.heap.size + 1, 2, none⟩ = some (.slice (some ⟨g2, 0, none⟩) P.md.length P.md.length) := by rw [cell_of b4]; rfl
      have y3 : w4.cell? ⟨W.heap.size + 1, 3, none⟩ = some (.slice none 0 0) := by rw [cell_of b4]; rfl
      clear h4
      refine bodyPost_ret (v := .agg #[.slice (some ⟨g0, 0, none⟩) P.hs.length P.hs.length, .slice (some ⟨g1, 0, none⟩) P.hs.length P.hs.length, .slice (some ⟨g2, 0, none⟩) P.md.length P.md.length, .slice none 0 0]) (by simp [results, Try.results82, go_sem, y0, y1, y2, y3]) rfl ?_
      have h := HT.out.box m4 (HX.out.heap BR.out)
      rw [show Rg.part (En.newF P) P.hs.length = En.newF P by have := Rg.part_full (En.newF P); rw [En.newF_len] at this; exact this] at h
      have hw : Ext W v1 := grows
      exact env_ret (Ext.mod hw m4 (fun k hk => by subst hk; omega)) (h.base (by omega))
end Go.Proofs.Ytonnlcjkgpahoaa
namespace Go.Proofs.Ytonnlcjkgpahoaa
open Go.RowKit

set_option maxRecDepth 8000 in
set_option maxHeartbeats 4000000 in
theorem refenew_any {W : World} {p : Pg.PV} {P : Pg.Prog} (hp : Pg.IsP W p P) (hc : En.CapP P) :
    Calls Try.prog 32 #[p.val] W (EnvP W (En.new P)) := by
  obtain ⟨s, a1, a2, a3, a4, a5, a6, a7, a8, m1, m2, n3, m3, n4, m4, n5, m5, n6, m6, n7, m7, m8, hf⟩ := hp.form
  obtain ⟨rfl, hhs, hmd, _, hl1, hl2, _⟩ := hf
  dsimp only [Pg.PV.val]
  obtain ⟨c1, c2, c3⟩ := hc
  have HHS := Lib.hid hhs
  have H3 := Lib.hid c3
  have hmb := mk_bools P.hs.length (by omega)
  have hmr := mk_row P.md.length (by omega)
  have be := alloc_heap W (.cells #[.string s, .slice a1 P.hs.length m1, .slice a2 P.md.length m2, .slice a3 n3 m3, .slice a4 n4 m4, .slice a5 n5 m5, .slice a6 n6 m6, .slice a7 n7 m7, .slice a8 P.dp.length m8] 31)
  have k1 := alw (cell_of (o := 1) be)
  have k2 := alw (cell_of (o := 2) be)
  clear be
  have br := alloc_heap (W.alloc (.cells #[.string s, .slice a1 P.hs.length m1, .slice a2 P.md.length m2, .slice a3 n3 m3, .slice a4 n4 m4, .slice a5 n5 m5, .slice a6 n6 m6, .slice a7 n7 m7, .slice a8 P.dp.length m8] 31)) (.cells #[.slice none 0 0, .slice none 0 0, .slice none 0 0, .slice none 0 0] 37)
  rw [World.size_alloc] at br
  have BR := Lib.hid br
  clear hp hhs hmd c3 br
  go_enter Try.func32, Try.ntmps32
  go_wp2_with fail
  go_loopw [4] (fun i wr => ∃ k : Nat, k ≤ P.hs.length ∧ i = .int .i64 k ∧ Hid (Ext ((W.alloc (.cells #[.string s, .slice a1 P.hs.length m1, .slice a2 P.md.length m2, .slice a3 n3 m3, .slice a4 n4 m4, .slice a5 n5 m5, .slice a6 n6 m6, .slice a7 n7 m7, .slice a8 P.dp.length m8] 31)).alloc (.cells #[.slice none 0 0, .slice none 0 0, .slice none 0 0, .slice none 0 0] 37)) wr ∧ ∃ oa oc vs, wr.heap[W.heap.size + 1 + 1]? = some (.cells #[.slice (some ⟨W.heap.size + 1 + 1 + 1, 0, none⟩) P.hs.length P.hs.length, .slice oa k oc, .slice none 0 0, .slice none 0 0] 37) ∧ OwnE (W.heap.size + 1 + 1 + 1) wr ⟨.slice (some ⟨W.heap.size + 1 + 1 + 1, 0, none⟩) P.hs.length P.hs.length, .slice oa k oc, .slice none 0 0, .slice none 0 0⟩ vs ⟨List.replicate P.hs.length false, (En.newF P).take k, [], []⟩)) (fun i _ => P.hs.length - (intOf i).toNat)
  case atStart =>
    have e1 := alloc_heap (((W.alloc (.cells #[.string s, .slice a1 P.hs.length m1, .slice a2 P.md.length m2, .slice a3 n3 m3, .slice a4 n4 m4, .slice a5 n5 m5, .slice a6 n6 m6, .slice a7 n7 m7, .slice a8 P.dp.length m8] 31)).alloc (.cells #[.slice none 0 0, .slice none 0 0, .slice none 0 0, .slice none 0 0] 37)).alloc (.cells #[.slice (some ⟨W.heap.size + 1 + 1 + 1, 0, none⟩) P.hs.length P.hs.length, .slice none 0 0, .slice none 0 0, .slice none 0 0] 37)) (.cells (madeCells #[.bool false] P.hs.length) 4)
    have e2 := ((Ext.refl _).alloc (.cells (madeCells #[.bool false] P.hs.length) 4)).heap (alloc_heap ((W.alloc (.cells #[.string s, .slice a1 P.hs.length m1, .slice a2 P.md.length m2, .slice a3 n3 m3, .slice a4 n4 m4, .slice a5 n5 m5, .slice a6 n6 m6, .slice a7 n7 m7, .slice a8 P.dp.length m8] 31)).alloc (.cells #[.slice none 0 0, .slice none 0 0, .slice none 0 0, .slice none 0 0] 37)) (.cells #[.slice (some ⟨W.heap.size + 1 + 1 + 1, 0, none⟩) P.hs.length P.hs.length, .slice none 0 0, .slice none 0 0, .slice none 0 0] 37))
    rw [World.size_alloc, World.size_alloc, World.size_alloc] at e1
    rw [World.size_alloc, World.size_alloc] at e2
    exact ⟨0, Nat.zero_le _, rfl, Lib.hid ⟨((Ext.refl _).alloc _).alloc _, none, 0, [], e2, ⟨by have h := own_fresh (B := W.heap.size + 1 + 1 + 1) e1 (Nat.le_refl _) (by unfold maxLen; omega); simpa using h, Tab.nil, World.ownsRow_nil _ _ _ _, fun x hx => by simp at hx, World.ownsRow_nil _ _ _ _, fun x hx => by simp at hx, fun i u k hu => by simp at hu⟩⟩⟩
  case round =>
    obtain ⟨k, hk, rfl, HI⟩ := hrel
    obtain ⟨v1, rfl⟩ : ∃ v1 : World, v1 = wr := ⟨_, rfl⟩
    obtain ⟨hx, oa, oc, vs, hb, ht⟩ := HI.out
    have sx := Step.mk hx
    have HX := Lib.hid hx
    have HT := Lib.hid ht
    have HBX := Lib.hid hb
    have q0 := alw (show v1.cell? ⟨W.heap.size + 1 + 1, 0, none⟩ = some (.slice (some ⟨W.heap.size + 1 + 1 + 1, 0, none⟩) P.hs.length P.hs.length) by rw [cell_of hb]; rfl)
    have q1 := alw (show v1.cell? ⟨W.heap.size + 1 + 1, 1, none⟩ = some (.slice oa k oc) by rw [cell_of hb]; rfl)
    have q2 := alw (show v1.cell? ⟨W.heap.size + 1 + 1, 2, none⟩ = some (.slice none 0 0) by rw [cell_of hb]; rfl)
    have q3 := alw (show v1.cell? ⟨W.heap.size + 1 + 1, 3, none⟩ = some (.slice none 0 0) by rw [cell_of hb]; rfl)
    have qf := alwF (o := 1) hb
    have qg := alwF (o := 2) hb
    have HLK := Lib.hid (take_len (l := En.newF P) (k := k) (by rw [En.newF_len]; exact hk))
    have hvz := hx.le
    rw [World.size_alloc, World.size_alloc] at hvz
    have hv3 : W.heap.size + 1 + 1 < v1.heap.size := lt_of_block hb
    by_cases hlt : k < P.hs.length
    · obtain ⟨⟨nk, fs⟩, hlk⟩ : ∃ x, P.hs[k]? = some x := ⟨_, List.getElem?_eq_getElem hlt⟩
      obtain ⟨b1', o1', hb1, _, _⟩ := Rows.at HHS.out (by omega)
      subst hb1
      obtain ⟨fa, fc, r0, r1, _, r2, r3, r4⟩ := hdrs_at HHS.out k nk fs hlk rfl
      have hl5 := H3.out (nk, fs) (List.mem_of_getElem? hlk)
      dsimp only at hl5
      have HTK := Lib.hid (take_at (En.newF_at hlk))
      have hown := ht.fi.2.1
      dsimp only at hown
      rw [HLK.out] at hown
      have HO := Lib.hid hown
      unfold maxLen at r4
      clear hx HI ht hb hlk r2 hown
      go_wp2_with fail
      refine Rel.region_tail (W := v1) 11 (Rel.tab [(9, fun v w => ∃ g, v = .slice (some ⟨g, 0, none⟩) (fs.length) (fs.length) ∧ Rel.Fresh v1 g (.cells (madeCells #[.int .u32 0] (fs.length)) 64) w), (10, fun v w => ∃ g r, v = .slice (some ⟨g, 0, none⟩) 1 1 ∧ Rel.Fresh v1 g (.cells #[r] 34 (0, 0)) w ∧ w.ownsRow v1.heap.size 64 1 r fs.length (List.replicate fs.length (.int .u32 0)))]) (Rel.tab_lasts (by intro p hp v w w' hr hx; simp only [List.mem_cons, List.not_mem_nil, or_false] at hp; rcases hp with rfl | rfl; (· obtain ⟨g, e1, e2⟩ := hr; exact ⟨g, e1, e2.ext hx⟩); (· obtain ⟨g, r, e1, e2, e3⟩ := hr; exact ⟨g, r, e1, e2.ext hx, own_ext e3 hx⟩))) (by kernel_rfl) (by kernel_rfl) (Ext.refl _) ?_
      simp only [List.take_succ_cons, List.take_zero]
      refine Rel.chunkT 9 rfl rfl rfl ?_
      simp only [List.take_succ_cons, List.take_zero, List.drop_succ_cons, List.drop_zero, Nat.reduceAdd]
      repeat (go_big_quiet_step (fail))
      refine wpQuiet_nil ?_
      refine Rel.mk (fs.length) (.int .u32 0) rfl rfl rfl rfl rfl rfl (mk_row fs.length (by omega)) ?_
      intro gr yr _ _ hr4
      simp only [Act.put, List.setIfInBounds_toArray, List.set_cons_succ, List.set_cons_zero]
      refine Rel.call (fun v w => ∃ g r, v = .slice (some ⟨g, 0, none⟩) 1 1 ∧ Rel.Fresh v1 g (.cells #[r] 34 (0, 0)) w ∧ w.ownsRow v1.heap.size 64 1 r fs.length (List.replicate fs.length (.int .u32 0))) rfl rfl rfl (fun w hx hf => Rel.made (v := .slice (some ⟨w.heap.size, 0, none⟩) 1 1) (ob := .cells #[.slice (some ⟨gr, 0, none⟩) fs.length fs.length] 34 (0, 0)) (by kernel_rfl) (by obtain ⟨g', e1, e2, e3⟩ := (hf 9 (by kernel_rfl)).2 rfl; simp only [Value.slice.injEq, Option.some.injEq, Addr.mk.injEq, and_true] at e1; subst e1; exact ⟨w.heap.size, _, rfl, ⟨hx.le, heap_alloc_new w _⟩, own_ext (own_fresh e3 e2 (by unfold maxLen; omega)) ((Ext.refl w).alloc _)⟩)) ?_
      intro vc wc _ _ h5
      obtain ⟨gb, rr, rfl, e7, e8⟩ := h5
      simp only [Act.put, List.setIfInBounds_toArray, List.set_cons_succ, List.set_cons_zero]
      refine Rel.fin ?_
      intro w3 x3 hf3
      obtain ⟨ga', rr', e5, e6, e4⟩ := (hf3 10).2 rfl
      simp only [Value.slice.injEq, Option.some.injEq, Addr.mk.injEq, and_true] at e5
      subst e5
      have s3 := Step.mk x3
      have HO3 := Lib.hid (own_ext HO.out x3)
      obtain ⟨qa, qc, rfl⟩ := own_slice e4
      have HS3 : Hid (Src w3 (.slice (some ⟨gb, 0, none⟩) 1 1) 1 1 [.slice qa fs.length qc]) := Lib.hid (src_box e6.2 rfl)
      have HQ : Hid (w3.ownsRow v1.heap.size 64 1 (.slice qa fs.length qc) (List.replicate fs.length (0 : Int)).length ((List.replicate fs.length (0 : Int)).map (.int .u32))) := Lib.hid (by simpa using e4)
      have HX3 := Lib.hid x3
      have hle3 := x3.le
      clear hf3 e6 e4 e7 e8 hr4 x3
      refine wpList_append_src rfl (.tmp 18) (.tmp 27) 33 rfl (W.heap.size + 1 + 1 + 1) 34 (.slice none 0 0) 1 24 Try.underlying33 info_u32s rfl (by decide) (.slice oa k oc) k vs rfl HO3.out (.slice (some ⟨gb, 0, none⟩) 1 1) 1 [.slice qa fs.length qc] rfl HS3.out (by unfold maxLen; omega) (by omega) (by omega) ?_
      intro v' w' hv' hg' _
      obtain ⟨oa', oc', he⟩ := own_slice hv'
      subst he
      have HV := Lib.hid hv'
      have HG := Lib.hid hg'
      have hb4 : w'.heap[W.heap.size + 1 + 1]? = some (.cells #[.slice (some ⟨W.heap.size + 1 + 1 + 1, 0, none⟩) P.hs.length P.hs.length, .slice oa k oc, .slice none 0 0, .slice none 0 0] 37) := grown_box hg' HO3.out (HX3.out.heap HBX.out) (by decide)
      have y1 : w'.cell? ⟨W.heap.size + 1 + 1, 1, none⟩ = some (.slice oa k oc) := by rw [cell_of hb4]; rfl
      have yf : w'.frozen? ⟨W.heap.size + 1 + 1, 1, none⟩ = false := free_of hb4
      have HB4 := Lib.hid hb4
      clear hv' hg' hb4
      go_wp2_with fail
      go_roundw
      case rel =>
        have hB4 := HB4.out
        refine ⟨k + 1, by omega, by go_num, Lib.hid ⟨Ext.setCell (ext_grown (HX.out.trans HX3.out) HG.out (fun q hq => by rw [World.size_alloc, World.size_alloc]; have := own_ge HO3.out hq; omega)) (by rw [World.size_alloc, World.size_alloc]; exact Nat.le_refl _) _, oa', oc', vs ++ [.slice qa fs.length qc], by rw [setCell_heap hB4]; rfl, ?_⟩⟩
        rw [HTK.out]
        have ho := OwnE.push (w := w3) (HT.out.ext HX3.out) (own_base HQ.out (by omega)) zero_u32 (fun j u q hu hq e1 => by have h1 := HT.out.fi.lt hu hq; have h2 := own_ge HQ.out e1; omega) (fun q hq e1 => by have h1 := own_lt HT.out.me e1; have h2 := own_ge HQ.out hq; omega) (by rw [HLK.out]; exact HV.out) HG.out
        exact ho.box mod_set hB4
      case measure => simp [intOf]; omega
    · obtain rfl : k = P.hs.length := by omega
      have hw : Ext W v1 := grows
      have HW := Lib.hid hw
      have hr6 := hx.heap BR.out
      have HR6 := Lib.hid hr6
      have hbv : (v1.setCell ⟨W.heap.size + 1 + 1, 2, none⟩ (.slice (some ⟨v1.heap.size, 0, none⟩) P.md.length P.md.length)).heap[W.heap.size + 1 + 1]? = some (.cells #[.slice (some ⟨W.heap.size + 1 + 1 + 1, 0, none⟩) P.hs.length P.hs.length, .slice oa P.hs.length oc, .slice (some ⟨v1.heap.size, 0, none⟩) P.md.length P.md.length, .slice none 0 0] 37) := by rw [setCell_heap hb]; rfl
      have HBV := Lib.hid hbv
      have hrv : (v1.setCell ⟨W.heap.size + 1 + 1, 2, none⟩ (.slice (some ⟨v1.heap.size, 0, none⟩) P.md.length P.md.length)).heap[W.heap.size + 1]? = some (.cells #[.slice none 0 0, .slice none 0 0, .slice none 0 0, .slice none 0 0] 37) := heap_set_ne (p := ⟨W.heap.size + 1 + 1, 2, none⟩) hr6 (by show W.heap.size + 1 ≠ W.heap.size + 1 + 1; omega)
      have HRV := Lib.hid hrv
      have p0 := alw (show (v1.setCell ⟨W.heap.size + 1 + 1, 2, none⟩ (.slice (some ⟨v1.heap.size, 0, none⟩) P.md.length P.md.length)).cell? ⟨W.heap.size + 1 + 1, 0, none⟩ = some (.slice (some ⟨W.heap.size + 1 + 1 + 1, 0, none⟩) P.hs.length P.hs.length) by rw [cell_of hbv]; rfl)
      have p1 := alw (show (v1.setCell ⟨W.heap.size + 1 + 1, 2, none⟩ (.slice (some ⟨v1.heap.size, 0, none⟩) P.md.length P.md.length)).cell? ⟨W.heap.size + 1 + 1, 1, none⟩ = some (.slice oa P.hs.length oc) by rw [cell_of hbv]; rfl)
      have p2 := alw (show (v1.setCell ⟨W.heap.size + 1 + 1, 2, none⟩ (.slice (some ⟨v1.heap.size, 0, none⟩) P.md.length P.md.length)).cell? ⟨W.heap.size + 1 + 1, 2, none⟩ = some (.slice (some ⟨v1.heap.size, 0, none⟩) P.md.length P.md.length) by rw [cell_of hbv]; rfl)
      have p3 := alw (show (v1.setCell ⟨W.heap.size + 1 + 1, 2, none⟩ (.slice (some ⟨v1.heap.size, 0, none⟩) P.md.length P.md.length)).cell? ⟨W.heap.size + 1 + 1, 3, none⟩ = some (.slice none 0 0) by rw [cell_of hbv]; rfl)
      have o0 := alw (show (v1.setCell ⟨W.heap.size + 1 + 1, 2, none⟩ (.slice (some ⟨v1.heap.size, 0, none⟩) P.md.length P.md.length)).cell? ⟨W.heap.size + 1, 0, none⟩ = some (.slice none 0 0) by rw [cell_of hrv]; rfl)
      have o1 := alw (show (v1.setCell ⟨W.heap.size + 1 + 1, 2, none⟩ (.slice (some ⟨v1.heap.size, 0, none⟩) P.md.length P.md.length)).cell? ⟨W.heap.size + 1, 1, none⟩ = some (.slice none 0 0) by rw [cell_of hrv]; rfl)
      have o2 := alw (show (v1.setCell ⟨W.heap.size + 1 + 1, 2, none⟩ (.slice (some ⟨v1.heap.size, 0, none⟩) P.md.length P.md.length)).cell? ⟨W.heap.size + 1, 2, none⟩ = some (.slice none 0 0) by rw [cell_of hrv]; rfl)
      have o3 := alw (show (v1.setCell ⟨W.heap.size + 1 + 1, 2, none⟩ (.slice (some ⟨v1.heap.size, 0, none⟩) P.md.length P.md.length)).cell? ⟨W.heap.size + 1, 3, none⟩ = some (.slice none 0 0) by rw [cell_of hrv]; rfl)
      have t0 := alwF (o := 0) hrv
      have t1 := alwF (o := 1) hrv
      have t2 := alwF (o := 2) hrv
      have t3 := alwF (o := 3) hrv
      have szv : (v1.setCell ⟨W.heap.size + 1 + 1, 2, none⟩ (.slice (some ⟨v1.heap.size, 0, none⟩) P.md.length P.md.length)).heap.size = v1.heap.size := by simp [World.setCell]
      have SZV := Lib.hid szv
      clear hx HI ht hb hw hr6 hbv hrv szv
      go_wp2_with fail
      obtain ⟨w4, h4⟩ : ∃ w4, w4 = ((((((v1.setCell ⟨W.heap.size + 1 + 1, 2, none⟩ (.slice (some ⟨v1.heap.size, 0, none⟩) P.md.length P.md.length)).alloc (.cells (madeCells #[.int .u32 0] P.md.length) 64)).setCell ⟨W.heap.size + 1, 0, none⟩ (.slice (some ⟨W.heap.size + 1 + 1 + 1, 0, none⟩) P.hs.length P.hs.length)).setCell ⟨W.heap.size + 1, 1, none⟩ (.slice oa P.hs.length oc)).setCell ⟨W.heap.size + 1, 2, none⟩ (.slice (some ⟨v1.heap.size, 0, none⟩) P.md.length P.md.length)).setCell ⟨W.heap.size + 1, 3, none⟩ (.slice none 0 0)) := ⟨_, rfl⟩
      rw [← h4]
      obtain ⟨m4, b4⟩ := tower4 (.slice (some ⟨W.heap.size + 1 + 1 + 1, 0, none⟩) P.hs.length P.hs.length) (.slice oa P.hs.length oc) (.slice (some ⟨v1.heap.size, 0, none⟩) P.md.length P.md.length) (.slice none 0 0) (((Ext.refl _).alloc _).heap HRV.out)
      rw [← h4] at m4 b4
      have z0 : w4.cell? ⟨W.heap.size + 1, 0, none⟩ = some (.slice (some ⟨W.heap.size + 1 + 1 + 1, 0, none⟩) P.hs.length P.hs.length) := by rw [cell_of b4]; rfl
      have z1 : w4.cell? ⟨W.heap.size + 1, 1, none⟩ = some (.slice oa P.hs.length oc) := by rw [cell_of b4]; rfl
      have z2 : w4.cell? ⟨W.heap.size + 1, 2, none⟩ = some (.slice (some ⟨v1.heap.size, 0, none⟩) P.md.length P.md.length) := by rw [cell_of b4]; rfl
      have z3 : w4.cell? ⟨W.heap.size + 1, 3, none⟩ = some (.slice none 0 0) := by rw [cell_of b4]; rfl
      clear h4
      refine bodyPost_ret (v := .agg #[.slice (some ⟨W.heap.size + 1 + 1 + 1, 0, none⟩) P.hs.length P.hs.length, .slice oa P.hs.length oc, .slice (some ⟨v1.heap.size, 0, none⟩) P.md.length P.md.length, .slice none 0 0]) (by simp [results, Try.results32, go_sem, z0, z1, z2, z3]) rfl ?_
      have h5 := HT.out
      rw [show (En.newF P).take P.hs.length = En.newF P by rw [← En.newF_len P, List.take_length]] at h5
      have h6 := h5.box (mod_set (g := W.heap.size + 1 + 1) (j := 2) (x := .slice (some ⟨v1.heap.size, 0, none⟩) P.md.length P.md.length)) HBX.out
      have e5 := alloc_heap (v1.setCell ⟨W.heap.size + 1 + 1, 2, none⟩ (.slice (some ⟨v1.heap.size, 0, none⟩) P.md.length P.md.length)) (.cells (madeCells #[.int .u32 0] P.md.length) 64)
      rw [SZV.out] at e5
      have h7 := h6.meNew (l := List.replicate P.md.length 0) ((Ext.refl _).alloc _) (by have h := own_fresh (B := v1.heap.size) e5 (Nat.le_refl _) (by unfold maxLen; omega); simpa using h) (Nat.le_of_eq SZV.out) (by omega) zero_u32
      have h8 := h7.box m4 (((Ext.refl _).alloc _).heap HRV.out)
      have hw6 : Ext W ((v1.setCell ⟨W.heap.size + 1 + 1, 2, none⟩ (.slice (some ⟨v1.heap.size, 0, none⟩) P.md.length P.md.length)).alloc (.cells (madeCells #[.int .u32 0] P.md.length) 64)) := (Ext.setCell HW.out (by show W.heap.size ≤ W.heap.size + 1 + 1; omega) _).alloc _
      exact env_ret (Ext.mod hw6 m4 (fun k hk => by subst hk; omega)) (h8.base (by omega))
end Go.Proofs.Ytonnlcjkgpahoaa
