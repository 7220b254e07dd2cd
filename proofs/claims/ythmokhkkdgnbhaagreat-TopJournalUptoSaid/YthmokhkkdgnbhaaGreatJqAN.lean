/- What changes in a store's memory, step by step: plain lemmas on worlds. A region that draws its order, walked by relations (XRel), in which the blocks of a set T may change. No program in sight, no condition. A region that draws its order, walked in the order of the text: what only reads is taken under a condition C on the world, which must hold till the operation number d (the last that writes) has come up; d waits for all of them. No program in sight, no condition. Stores: table, Insert, walked. No condition. -/
import Derived.Test.YthmokhkkdgnbhaaGreatJqAM
import Derived.Deep.RegionHeldLaw
import Derived.OrdersHeld
set_option maxRecDepth 8000
set_option maxHeartbeats 16000000
namespace Go.Proofs.YthmokhkkdgnbhaaGreat
open Go.RowKit
namespace Tj
def AllT : List TypeId := [68, 3, 63, 151, 209, 118, 61, 239]
variable {S : Nat → Prop} {lo hi : Nat} {w w' : World} {V : SV} {vs ms : List Value} {F : FP} {C : Cfg} {fs : Nat → Nat × (Int → Option Nat)}
theorem RwsO.mod {B : Nat} {v : Value} {rs : List Rw} {T : Nat → Prop} (h : RwsO B w v rs) (hm : Mod T w w') (hs : ∀ k, v.ownBlock = some k → ¬ T k) (hl : Kp Leaf w w') : RwsO B w' v rs := by
 obtain ⟨css, h1, h2, h3, h4, h5⟩ := h
 exact ⟨css, h1, h2, h3, own_mod h4 hm hs, fun i cs d a b => (h5 i cs d a b).kp hl⟩
/-- blocks that are not the store's are changed, or new ones made -/
theorem StO.kept (h : StO S lo hi w V vs ms F C fs) {T : Nat → Prop} (hm : Mod T w w') (hT : ∀ k, T k → ¬ S k ∧ (k < lo ∨ hi ≤ k)) (hl : Kp [209, 118, 61] w w') : StO S lo hi w' V vs ms F C fs := by
 have hn : ∀ {k : Nat}, S k → ¬ T k := fun hk ht => (hT _ ht).1 hk
 have hlf : Kp Leaf w w' := hl.sub (by decide)
 obtain ⟨⟨⟨r0, rl, r1, rj, ro⟩, nx, df, rg⟩, pr, sp, ix, mm, mj, s0, s1, s2, si, sr, sm, inv, sz⟩ := h
 refine ⟨⟨⟨own_mod r0 hm (fun k hk => hn (s0 k hk)), rl, fun i v rs a b => (r1 i v rs a b).mod hm (fun k hk => hn (sr i v k a hk)) hlf, rj, ro⟩, ⟨own_mod nx.1 hm (fun k hk => hn (s1 k hk)), nx.2⟩, ?_, rg.kp hl (by decide) (by decide)⟩, pr.mod hm (fun k hk => (hT k hk).2), sp, own_mod ix hm (fun k hk => hn (si k hk)), fun i hi => ?_, mj, s0, s1, s2, si, sr, sm, inv, sz⟩
 ·obtain ⟨css, h1, h2, h3, h4, h5⟩ := df
  exact ⟨css, h1, h2, h3, own_mod h4 hm (fun k hk => hn (s2 k hk)), fun i cs d a b => (h5 i cs d a b).kp hlf⟩
 ·obtain ⟨b, h1, h2⟩ := mm i hi
  exact ⟨b, h1, h2.mod hm (hn (sm i b h1))⟩
theorem StO.ext (h : StO S lo hi w V vs ms F C fs) (hx : Ext w w') : StO S lo hi w' V vs ms F C fs := h.kept (T := fun _ => False) (Mod.of_ext hx) (fun _ h => h.elim) (Kp.ext hx)
/-- an entry of an index -/
theorem StO.putIx (h : StO S lo hi w V vs ms F C fs) {t b n : Nat} {f : Int → Option Nat} (hb : ms[t]? = some (.map (some b))) (hm : Mod (· = b) w w') (hi' : IxM w' b n f) : StO S lo hi w' V vs ms F C (fun i => if i = t then (n, f) else fs i) := by
 have ht : t < C.rows.length := by
  have h1 := h.ix.1; have h2 := (List.getElem?_eq_some_iff.1 hb).1; omega
 obtain ⟨c, hc1, hc2⟩ := h.mm t ht
 obtain ⟨es, cl, ho⟩ := hc2.obj
 rw [hb] at hc1
 simp only [Option.some.injEq, Value.map.injEq] at hc1
 subst hc1
 have hk : Kp AllT w w' := Kp.map hm ho
 obtain ⟨cfg, pr, sp, ix, mm, mj, s0, s1, s2, si, sr, sm, inv, sz⟩ := h
 refine ⟨cfg.kp (hk.sub (by decide)), pr.mod hm (fun k hk => by subst hk; exact sp _ (sm _ _ hb)), sp, own_kp ix hk (by decide), fun i hi => ?_, mj, s0, s1, s2, si, sr, sm, inv, sz⟩
 by_cases e : i = t
 ·subst e; exact ⟨b, hb, by rw [if_pos rfl]; exact hi'⟩
 ·obtain ⟨c, h1, h2⟩ := mm i hi
  refine ⟨c, h1, ?_⟩
  rw [if_neg e]
  exact h2.mod hm (fun hc => e (mj _ _ _ h1 (by rw [hc]; exact hb)))
theorem set_get {α : Type} {l : List α} {t i : Nat} {a x : α} (h : (l.set t a)[i]? = some x) : (i = t ∧ x = a) ∨ (i ≠ t ∧ l[i]? = some x) := by
 by_cases e : t = i
 ·subst e
  have hlt : t < l.length := by have := (List.getElem?_eq_some_iff.1 h).1; simpa using this
  rw [List.getElem?_set_self hlt] at h
  exact .inl ⟨rfl, by simpa using h.symm⟩
 ·rw [List.getElem?_set_ne e] at h; exact .inr ⟨fun h => e h.symm, h⟩
/-- the rows of table t are laid anew: in the block g that held them, or in a new one; the slice of them is stored -/
theorem StO.setRow (h : StO S lo hi w V vs ms F C fs) {t g0 n c : Nat} {v v' : Value} {rs rs' : List Rw} {w1 : World} (hrs : C.rows[t]? = some rs) (hv : vs[t]? = some v) (h0 : V.v0 = .slice (some ⟨g0, 0, none⟩) n c)
 (hm : Mod (fun k => v.ownBlock = some k) w w1) (hn : RwsO 0 w1 v' rs') (hv' : ∀ k, v'.ownBlock = some k → v.ownBlock = some k ∨ w.heap.size ≤ k) (hinv : Inv F { C with rows := C.rows.set t rs' }) :
 StO (fun k => S k ∨ (w.heap.size ≤ k ∧ k < w1.heap.size)) lo hi (w1.setCell ⟨g0, t, none⟩ v') V (vs.set t v') ms F { C with rows := C.rows.set t rs' } fs ∧ Mod S w (w1.setCell ⟨g0, t, none⟩ v') := by
 have hSt : ∀ k, v.ownBlock = some k → S k := fun k hk => h.sr t v k hv hk
 obtain ⟨⟨⟨r0, rl, r1, rj, ro⟩, nx, df, rg⟩, pr, sp, ix, mm, mj, s0, s1, s2, si, sr, sm, inv, sz⟩ := h
 have htl : t < C.rows.length := (List.getElem?_eq_some_iff.1 hrs).1
 have hvt := r1 t v rs hv hrs
 rw [h0] at r0
 have hnn : n = C.rows.length := by
  rcases r0.2 with ⟨h1, _⟩ | ⟨_, _, _, h1, _⟩
  ·cases h1
  ·simp only [Value.slice.injEq] at h1; exact h1.2.1
 subst hnn
 obtain ⟨oc, hoc⟩ := own_obj r0
 have hty : ∀ k, v.ownBlock = some k → ∃ cur, w.heap[k]? = some (.cells cur 151 (0, 0)) := fun k hk => by
  obtain ⟨css, _, _, _, h4, _⟩ := hvt; exact row_heap h4 hk
 have k1 : Kp [68, 3, 63, 209, 118, 61, 239] w w1 := Kp.mod hm (fun k cur ty f hk hc => by
  obtain ⟨cu, h2⟩ := hty k hk
  rw [hc] at h2; simp only [Option.some.injEq, Obj.cells.injEq] at h2
  rw [h2.2.1]; decide)
 have q1 : MapsKept w w1 := fun k es cl hk => hm.heap hk (fun e => by obtain ⟨cu, h2⟩ := hty k e; rw [hk] at h2; cases h2)
 have hoc1 : w1.heap[g0]? = some (.cells oc 68 (0, 0)) := k1 _ _ _ _ (by decide) hoc
 have k2 : Kp [3, 63, 151, 209, 118, 61, 239] w1 (w1.setCell ⟨g0, t, none⟩ v') := Kp.setCell hoc1 (by decide)
 have m2 : Mod (· = g0) w1 (w1.setCell ⟨g0, t, none⟩ v') := Mod.setCell (S := fun k => k = g0) (p := ⟨g0, t, none⟩) (Mod.refl _ _) (.inl rfl) _
 have q2 : MapsKept w1 (w1.setCell ⟨g0, t, none⟩ v') := MapsKept.box m2 hoc1
 have hg0 : S g0 := s0 g0 (by rw [h0]; rfl)
 have mS : Mod S w (w1.setCell ⟨g0, t, none⟩ v') := (hm.mono (fun k _ hk => hSt k hk)).comp m2 (fun i _ hi => by subst hi; exact hg0)
 have hgt : g0 < w.heap.size := lt_of_block hoc
 refine ⟨⟨⟨⟨?_, by rw [List.length_set, rl, List.length_set], fun i u r hu hr => ?_, fun i j u u' q hu hu' hq hq' => ?_, fun i u hu => ?_⟩, ⟨own_kp nx.1 ((k1.sub (by decide)).trans (k2.sub (by decide)) : Kp [3] w _) (by decide), nx.2⟩, ClsO.kp (Ts := 63 :: Leaf) df ((k1.sub (by decide)).trans (k2.sub (by decide))) (by decide) (by decide), RgsO.kp (Ts := 61 :: Leaf) rg ((k1.sub (by decide)).trans (k2.sub (by decide))) (by decide) (by decide)⟩, pr.mod mS (fun k hk => sp k hk), fun k hk => ?_, ?_, fun i hi => ?_, mj, fun k hk => .inl (s0 k hk), fun k hk => .inl (s1 k hk), fun k hk => .inl (s2 k hk), fun k hk => .inl (si k hk), fun i u k hu hk => ?_, fun i b hb => .inl (sm i b hb), hinv, sz⟩, mS⟩
 ·rw [h0, List.length_set]
  refine own_put (own_kp (Ts := [68]) r0 (k1.sub (by decide)) (by decide)) (by rw [rl]; exact htl)
 ·rcases set_get hu with ⟨rfl, rfl⟩ | ⟨hne, hu⟩
  ·rcases set_get hr with ⟨_, rfl⟩ | ⟨hne, _⟩
   ·exact hn.kp (k2.sub (by decide))
   ·exact absurd rfl hne
  ·rcases set_get hr with ⟨e, _⟩ | ⟨_, hr⟩
   ·exact absurd e hne
   ·refine RwsO.kp ((r1 i u r hu hr).mod hm (fun k hk hk2 => hne (rj i t u v k hu hv hk hk2)) (k1.sub (by decide))) (k2.sub (by decide))
 ·have old : ∀ {i : Nat} {u : Value} {q : Nat}, vs[i]? = some u → u.ownBlock = some q → q < w.heap.size := fun hi hq => by
   obtain ⟨rs, hr⟩ := ro _ _ hi
   exact ((r1 _ _ rs hi hr).block hq).2
  rcases set_get hu with ⟨e0, e1⟩ | ⟨_, g1⟩ <;> rcases set_get hu' with ⟨e2, e3⟩ | ⟨_, g2⟩
  ·rw [e0, e2]
  ·rw [e1] at hq
   rcases hv' q hq with h3 | h3
   ·rw [e0]; exact rj _ _ _ _ _ hv g2 h3 hq'
   ·have := old g2 hq'; omega
  ·rw [e3] at hq'
   rcases hv' q hq' with h3 | h3
   ·rw [e2]; exact rj _ _ _ _ _ g1 hv hq h3
   ·have := old g1 hq; omega
  ·exact rj i j u u' q g1 g2 hq hq'
 ·rcases set_get hu with ⟨rfl, rfl⟩ | ⟨hne, hu⟩
  ·exact ⟨rs', List.getElem?_set_self htl⟩
  ·obtain ⟨r, hr⟩ := ro i u hu
   exact ⟨r, by rw [List.getElem?_set_ne (fun e => hne e.symm)]; exact hr⟩
 ·rcases hk with hk | ⟨hk, _⟩
  ·exact sp k hk
  ·have := pr.1; exact .inr (by omega)
 ·show World.ownsRow _ 0 _ 1 _ (C.rows.set t rs').length ms
  rw [List.length_set]
  exact own_kp (Ts := [239]) ix ((k1.sub (by decide)).trans (k2.sub (by decide))) (by decide)
 ·obtain ⟨b, h1, h2⟩ := mm i (by simpa using hi)
  exact ⟨b, h1, (h2.kept q1).kept q2⟩
 ·rcases set_get hu with ⟨rfl, rfl⟩ | ⟨hne, hu⟩
  ·rcases hv' k hk with h3 | h3
   ·exact .inl (hSt k h3)
   ·exact .inr ⟨h3, (hn.block hk).2⟩
  ·exact .inl (sr i u k hu hk)
/-- a place of the next numbers -/
theorem StO.setNx (h : StO S lo hi w V vs ms F C fs) {t g n c : Nat} {x : Int} (h1 : V.v1 = .slice (some ⟨g, 0, none⟩) n c) (ht : t < C.nx.length) (hx : B64 x) :
 StO S lo hi (w.setCell ⟨g, t, none⟩ (.int .i64 x)) V vs ms F { C with nx := C.nx.set t x } fs ∧ Mod S w (w.setCell ⟨g, t, none⟩ (.int .i64 x)) := by
 obtain ⟨⟨rows, nx, df, rg⟩, pr, sp, ix, mm, mj, s0, s1, s2, si, sr, sm, inv, sz⟩ := h
 have nx0 := nx.1
 rw [h1] at nx0
 have hnn : n = C.nx.length := by
  rcases nx0.2 with ⟨h1, _⟩ | ⟨_, _, _, h1, _⟩
  ·cases h1
  ·simp only [Value.slice.injEq] at h1; exact h1.2.1
 subst hnn
 obtain ⟨oc, hoc⟩ := own_obj nx0
 have k2 : Kp [68, 63, 151, 209, 118, 61, 239] w (w.setCell ⟨g, t, none⟩ (.int .i64 x)) := Kp.setCell hoc (by decide)
 have m2 : Mod (· = g) w (w.setCell ⟨g, t, none⟩ (.int .i64 x)) := Mod.setCell (S := fun k => k = g) (p := ⟨g, t, none⟩) (Mod.refl _ _) (.inl rfl) _
 have q2 : MapsKept w (w.setCell ⟨g, t, none⟩ (.int .i64 x)) := MapsKept.box m2 hoc
 have hg : S g := s1 g (by rw [h1]; rfl)
 have mS : Mod S w (w.setCell ⟨g, t, none⟩ (.int .i64 x)) := m2.mono (fun i _ hi => by subst hi; exact hg)
 refine ⟨⟨⟨rows.kpx k2 (by decide) (by decide), ⟨?_, fun y hy => ?_⟩, df.kp k2 (by decide) (by decide), rg.kp k2 (by decide) (by decide)⟩, pr.mod mS (fun k hk => sp k hk), sp, own_kp ix k2 (by decide), fun i hi => ?_, mj, s0, s1, s2, si, sr, sm, ?_, sz⟩, mS⟩
 ·rw [h1]
  show World.ownsRow _ 0 _ 1 _ (C.nx.set t x).length ((C.nx.set t x).map (.int .i64))
  rw [List.length_set, List.map_set]
  exact own_put nx0 (by simpa using ht)
 ·rcases List.mem_or_eq_of_mem_set hy with h | rfl
  ·exact nx.2 y h
  ·exact hx
 ·obtain ⟨b, h1, h2⟩ := mm i hi
  exact ⟨b, h1, h2.kept q2⟩
 ·obtain ⟨a1, a2, a3, b0, b1, b2, b3, b4, b5, b6⟩ := inv
  exact ⟨a1, by simpa using a2, a3, ⟨b0, b1, by simpa using b2, b3, b4, b5, b6⟩⟩
/-- a default call -/
theorem StO.setDf (h : StO S lo hi w V vs ms F C fs) {t g n c : Nat} {d : Call} {ga : Option Addr} {gc : Nat} (h2 : V.v2 = .slice (some ⟨g, 0, none⟩) n c) (ht : t < C.df.length) (ha : B64 d.a) (hu : UOwn 0 w (.slice ga d.ar.length gc) d.ar) (hl : d.ar.length ≤ 1073741824) :
 StO S lo hi ((w.setCell ⟨g, t * 2, none⟩ (.int .i64 d.a)).setCell ⟨g, t * 2 + 1, none⟩ (.slice ga d.ar.length gc)) V vs ms F { C with df := C.df.set t d } fs ∧ Mod S w ((w.setCell ⟨g, t * 2, none⟩ (.int .i64 d.a)).setCell ⟨g, t * 2 + 1, none⟩ (.slice ga d.ar.length gc)) := by
 obtain ⟨⟨rows, nx, ⟨css, d1, d2, d3, d4, d5⟩, rg⟩, pr, sp, ix, mm, mj, s0, s1, s2, si, sr, sm, inv, sz⟩ := h
 have d0 := d4
 rw [h2] at d0
 have hnn : n = C.df.length := by
  rcases d0.2 with ⟨h1, _⟩ | ⟨_, _, _, h1, _⟩
  ·cases h1
  ·simp only [Value.slice.injEq] at h1; exact h1.2.1
 subst hnn
 obtain ⟨oc, hoc⟩ := own_obj d0
 obtain ⟨wb, hwb⟩ : ∃ z, z = w.setCell ⟨g, t * 2, none⟩ (.int .i64 d.a) := ⟨_, rfl⟩
 rw [← hwb]
 have hob : wb.heap[g]? = some (.cells (oc.setIfInBounds (t * 2) (.int .i64 d.a)) 63 (0, 0)) := by rw [hwb]; exact setCell_heap hoc
 have m1 : Mod (· = g) w wb := by rw [hwb]; exact Mod.setCell (S := fun k => k = g) (p := ⟨g, t * 2, none⟩) (Mod.refl _ _) (.inl rfl) _
 have m2 : Mod (· = g) w (wb.setCell ⟨g, t * 2 + 1, none⟩ (.slice ga d.ar.length gc)) := m1.setCell (.inl rfl) _
 have k2 : Kp [68, 3, 151, 209, 118, 61, 239] w (wb.setCell ⟨g, t * 2 + 1, none⟩ (.slice ga d.ar.length gc)) := Kp.box m2 hoc (by decide)
 have q2 : MapsKept w (wb.setCell ⟨g, t * 2 + 1, none⟩ (.slice ga d.ar.length gc)) := MapsKept.box m2 hoc
 have hg : S g := s2 g (by rw [h2]; rfl)
 have mS : Mod S w (wb.setCell ⟨g, t * 2 + 1, none⟩ (.slice ga d.ar.length gc)) := m2.mono (fun i _ hi => by subst hi; exact hg)
 have hcl : t < css.length := by omega
 obtain ⟨c0, hc0⟩ : ∃ x, css[t]? = some x := ⟨_, gE hcl⟩
 have hc0l := d2 c0 (List.mem_of_getElem? hc0)
 have hnew : (c0.set 0 (.int .i64 d.a)).set 1 (.slice ga d.ar.length gc) = [.int .i64 d.a, .slice ga d.ar.length gc] := by
  match c0, hc0l with
  | [a, b], _ => rfl
 refine ⟨⟨⟨rows.kpx k2 (by decide) (by decide), ⟨own_kp nx.1 k2 (by decide), nx.2⟩, ?_, rg.kp k2 (by decide) (by decide)⟩, pr.mod mS (fun k hk => sp k hk), sp, own_kp ix k2 (by decide), fun i hi => ?_, mj, s0, s1, s2, si, sr, sm, ?_, sz⟩, mS⟩
 ·rw [h2]
  refine ⟨css.set t [.int .i64 d.a, .slice ga d.ar.length gc], by simp [d1], fun x hx => ?_, fun x hx => ?_, ?_, fun i cs e hi he => ?_⟩
  ·rcases List.mem_or_eq_of_mem_set hx with h | rfl
   ·exact d2 x h
   ·rfl
  ·rcases List.mem_or_eq_of_mem_set hx with h | rfl
   ·exact d3 x h
   ·simp [Value.oneCell']
  ·show World.ownsRow _ 0 _ 2 _ (C.df.set t d).length _
   rw [List.length_set]
   have hfl : css.flatten.length = C.df.length * 2 := d0.1
   have o1 : wb.ownsRow 0 63 2 (.slice (some ⟨g, 0, none⟩) C.df.length c) C.df.length (css.set t (c0.set 0 (.int .i64 d.a))).flatten := by
    rw [← flatten_set (j := 0) d2 hc0 (by decide), Nat.add_zero, hwb]
    exact own_put d0 (by rw [hfl]; omega)
   have hl2 : ∀ x ∈ css.set t (c0.set 0 (.int .i64 d.a)), x.length = 2 := fun x hx => by
    rcases List.mem_or_eq_of_mem_set hx with h | rfl
    ·exact d2 x h
    ·rw [List.length_set]; exact hc0l
   have hg2 : (css.set t (c0.set 0 (.int .i64 d.a)))[t]? = some (c0.set 0 (.int .i64 d.a)) := List.getElem?_set_self hcl
   have o2 := own_put (j := t * 2 + 1) (u := .slice ga d.ar.length gc) o1 (by have := o1.1; omega)
   rw [flatten_set hl2 hg2 (by decide), List.set_set, hnew] at o2
   exact o2
  ·rcases set_get hi with ⟨rfl, rfl⟩ | ⟨hne, hi⟩
   ·rcases set_get he with ⟨_, rfl⟩ | ⟨hne, _⟩
    ·exact ⟨ga, gc, rfl, ha, hu.kp (k2.sub (by decide))⟩
    ·exact absurd rfl hne
   ·rcases set_get he with ⟨e1, _⟩ | ⟨_, he⟩
    ·exact absurd e1 hne
    ·exact (d5 i cs e hi he).kp (k2.sub (by decide))
 ·obtain ⟨b, h1, h2⟩ := mm i hi
  exact ⟨b, h1, h2.kept q2⟩
 ·obtain ⟨a1, a2, a3, b0, b1, b2, b3, b4, b5, b6⟩ := inv
  refine ⟨a1, a2, by simpa using a3, ⟨b0, b1, b2, by simpa using b3, fun c' hc' => ?_, b5, b6⟩⟩
  rcases List.mem_or_eq_of_mem_set hc' with h | rfl
  ·exact b4 c' h
  ·exact hl
/-- an index made anew -/
theorem StO.reix (h : StO S lo hi w V vs ms F C fs) {t : Nat} {rs : List Rw} (ht : t < C.rows.length) {e : Ending} (hp : RixP w V.ix C.rows.length t ms rs e w') :
 e = .returned (.tuple #[]) ∧ Mod S w w' ∧ ∃ ms', StO (fun k => S k ∨ (w.heap.size ≤ k ∧ k < w'.heap.size)) lo hi w' V vs ms' F C (fun i => if i = t then (rs.length, pos rs) else fs i) := by
 obtain ⟨he, hm, b, hb, ho, hi'⟩ := hp
 obtain ⟨cfg, pr, sp, ix, mm, mj, s0, s1, s2, si, sr, sm, inv, sz⟩ := h
 have mS : Mod S w w' := hm.mono (fun k _ hk => si k hk)
 have k2 : Kp CfT w w' := Kp.mod hm (fun k cur ty f hk hc => by
  obtain ⟨cu, h2⟩ := row_heap ix hk
  rw [hc] at h2; simp only [Option.some.injEq, Obj.cells.injEq] at h2
  rw [h2.2.1]; decide)
 have q2 : MapsKept w w' := fun k es cl hk => hm.heap hk (fun e => by obtain ⟨cu, h2⟩ := row_heap ix e; rw [hk] at h2; cases h2)
 have hml : ms.length = C.rows.length := by have := ix.1; omega
 have old : ∀ {i c : Nat}, ms[i]? = some (.map (some c)) → c < w.heap.size := fun {i c} hi => by
  obtain ⟨c', h1, h2⟩ := mm i (by have := (List.getElem?_eq_some_iff.1 hi).1; omega)
  rw [hi] at h1; simp only [Option.some.injEq, Value.map.injEq] at h1; subst h1
  exact h2.lt
 refine ⟨he, mS, ms.set t (.map (some b)), cfg.kp k2, pr.mod mS (fun k hk => sp k hk), fun k hk => ?_, ho, fun i hi => ?_, fun i j c hi' hj' => ?_, fun k hk => .inl (s0 k hk), fun k hk => .inl (s1 k hk), fun k hk => .inl (s2 k hk), fun k hk => .inl (si k hk), fun i u k hu hk => .inl (sr i u k hu hk), fun i c hi => ?_, inv, sz⟩
 ·rcases hk with hk | ⟨hk, _⟩
  ·exact sp k hk
  ·have := pr.1; exact .inr (by omega)
 ·by_cases e : i = t
  ·subst e
   exact ⟨b, List.getElem?_set_self (by omega), by rw [if_pos rfl]; exact hi'⟩
  ·obtain ⟨c, h1, h2⟩ := mm i hi
   refine ⟨c, by rw [List.getElem?_set_ne (fun h => e h.symm)]; exact h1, ?_⟩
   rw [if_neg e]; exact h2.kept q2
 ·rcases set_get hi' with ⟨rfl, h1⟩ | ⟨hne, h1⟩ <;> rcases set_get hj' with ⟨h2, h3⟩ | ⟨hne', h3⟩
  ·exact h2.symm
  ·simp only [Value.map.injEq, Option.some.injEq] at h1
   have := old h3; omega
  ·simp only [Value.map.injEq, Option.some.injEq] at h3
   have := old h1; omega
  ·exact mj i j c h1 h3
 ·rcases set_get hi with ⟨rfl, h1⟩ | ⟨hne, h1⟩
  ·simp only [Value.map.injEq, Option.some.injEq] at h1
   subst h1; exact .inr ⟨hb, hi'.lt⟩
  ·exact .inl (sm i c h1)
theorem StO.fsEq (h : StO S lo hi w V vs ms F C fs) {fs' : Nat → Nat × (Int → Option Nat)} (he : ∀ i, i < C.rows.length → fs' i = fs i) : StO S lo hi w V vs ms F C fs' := by
 obtain ⟨cfg, pr, sp, ix, mm, mj, s0, s1, s2, si, sr, sm, inv, sz⟩ := h
 exact ⟨cfg, pr, sp, ix, fun i hi => by rw [he i hi]; exact mm i hi, mj, s0, s1, s2, si, sr, sm, inv, sz⟩
/-- what a call leaves that changes a store -/
def StM (S : Nat → Prop) (lo hi sp : Nat) (V : SV) (w : World) (F : FP) (C : Cfg) (w' : World) : Prop := Mod S w w' ∧ ∃ S', (∀ k, S' k → S k ∨ (w.heap.size ≤ k ∧ k < w'.heap.size)) ∧ St S' lo hi sp V w' F C
/-- what a call leaves that changes a store, or fails with the error c -/
def ChP (S : Nat → Prop) (lo hi sp : Nat) (V : SV) (w : World) (F : FP) (c : Int) (C' : Cfg) (w' : World) : Prop := (c ≠ 0 → Ext w w') ∧ (c = 0 → StM S lo hi sp V w F C' w')
theorem ChP.bad {sp : Nat} {c : Int} {C' : Cfg} (hc : c ≠ 0) (hx : Ext w w') : ChP S lo hi sp V w F c C' w' := ⟨fun _ => hx, fun h => absurd h hc⟩
theorem ChP.good {sp : Nat} {c : Int} {C' : Cfg} (hc : c = 0) (hm : StM S lo hi sp V w F C' w') : ChP S lo hi sp V w F c C' w' := ⟨fun h => absurd hc h, fun _ => hm⟩
theorem St.ext {sp : Nat} (h : St S lo hi sp V w F C) (hx : Ext w w') : St S lo hi sp V w' F C := by
 obtain ⟨h1, h2, vs, ms, h3⟩ := h
 exact ⟨hx.heap h1, fun k hk => ⟨Nat.lt_of_lt_of_le (h2 k hk).1 hx.le, (h2 k hk).2⟩, vs, ms, h3.ext hx⟩
end Tj
/-- a later world, in which blocks of T may have changed -/
structure LaterM (T : Nat → Prop) (W : World) where
 val : World
 ext : Mod T W val
instance (T : Nat → Prop) (W : World) : Nonempty (LaterM T W) := ⟨⟨W, Mod.refl T W⟩⟩
theorem LaterM.cell {T : Nat → Prop} {W : World} {p : Addr} {v : Value} (h : W.cell? p = some v) (hT : ¬ T p.block) (x : LaterM T W) : x.val.cell? p = some v := by
 have hlt := World.block_lt_of_cell? W p h
 have e := x.ext.block p.block hlt hT
 unfold World.cell? at h ⊢
 rw [e]; exact h
namespace RelM
section
variable {T : Nat → Prop} {P : Program} {ops : Array Oper} {md : Region.Mode} {W0 : World} {R : Nat → Option (Value → World → Prop)}
end
section
variable {T : Nat → Prop} {P : Program} {ops : Array Oper} {md : Region.Mode} {W0 : World} {R : Nat → Option (Value → World → Prop)}
end
section
variable {T : Nat → Prop} {P : Program} {ops : Array Oper} {md : Region.Mode} {W0 : World} {R : Nat → Option (Value → World → Prop)}
end
end RelM
/-- the worlds that meet C -/
structure Wh (C : World → Prop) where
 val : World
 out : C val
namespace RelD
section
variable {P : Program} {ops : Array Oper} {Q : Exit → Act → World → Prop} {md : Region.Mode} {C : World → Prop} {d : Nat}
/-- o leaves v and does nothing else, in every world that meets C -/
def YD (P : Program) (ops : Array Oper) (C : World → Prop) (o : Oper) (v : Value) (a : Act) : Prop :=
 (Region.wanted o (yielded ops a.tmps) = true ∧ ∀ w, C w → (execOp a.eval o).run P w = .ok (.value v) w ∨ ((execOp a.eval o).run P w = .ok .skip w ∧ v = undef)) ∨
 (Region.wanted o (yielded ops a.tmps) = false ∧ v = undef)
theorem YD.wpOp {i : Nat} {o : Oper} {v : Value} {a : Act} (hi : ops[i]? = some o) (hy : YD P ops C o v a) {K : Act → World → Prop} {w : World} (hC : C w) (h : K (a.put o.dst v) w) : wpOp P ops Q i K a w := by
 unfold Go.wpOp
 simp only [hi]
 rcases hy with ⟨hw, hv⟩ | ⟨hw, rfl⟩
 ·rw [if_pos hw]
  left
  unfold Oper.wp
  rcases hv w hC with h1 | ⟨h1, rfl⟩
  ·rw [h1]; exact h
  ·rw [h1]; exact h
 ·simp only [hw, Bool.false_eq_true, if_false]; exact h
theorem YD.of_same {o : Oper} {v : Value} {a a' : Act} (hy : YD P ops C o v a) (he : execOp a'.eval o = execOp a.eval o) (hw : Region.wanted o (yielded ops a'.tmps) = Region.wanted o (yielded ops a.tmps)) : YD P ops C o v a' := by
 unfold YD at *
 rw [he, hw]
 exact hy
theorem wpOp_putD {j : Nat} {oi oj : Oper} {v : Value} (hj : ops[j]? = some oj) (hap : oi.apart ops oj = true)
 (hsi : ∀ cs b, oi.op ≠ .select cs b) (hsj : ∀ cs b, oj.op ≠ .select cs b)
 (hQ : ∀ c a w, Q (.panic c) (a.put oi.dst v) w → Q (.panic c) a w) {K : Act → World → Prop} {a : Act} {w : World}
 (hy : YD P ops C oi v a) (h : wpOp P ops Q j K (a.put oi.dst v) w) :
 wpOp P ops Q j (fun a' w' => YD P ops C oi v a' ∧ K (a'.put oi.dst v) w') a w := by
 obtain ⟨h1, h2, h3⟩ := Oper.apart_spec hap
 have keep : ∀ (a : Act), YD P ops C oi v a → ∀ u, YD P ops C oi v (a.put oj.dst u) := fun a hy u =>
  hy.of_same (execOp_put oi hsi a oj.dst u h3) (wanted_put oi a oj.dst u h3)
 have keepD : ∀ d, YD P ops C oi v { a with defers := d :: a.defers } := fun d => hy.of_same rfl rfl
 unfold wpOp at *
 simp only [hj] at *
 rw [wanted_put oj a oi.dst v h1] at h
 split
 ·rename_i hw
  simp only [hw, if_true] at h
  rcases h with h | ⟨hasks, hlets⟩
  case inr => exact .inr ⟨by unfold Oper.asks at *; rw [execOp_put oj hsj a oi.dst v h1] at hasks; exact hasks, hlets⟩
  refine .inl ?_
  unfold Oper.wp at *
  rw [execOp_put oj hsj a oi.dst v h1] at h
  generalize (execOp a.eval oj).run P w = r at *
  cases r with
  | ok n w' =>
   cases n <;> simp only [Oper.upon] at h ⊢
   case value u => exact ⟨keep a hy u, by rw [← Act.put_comm a v u h2]; exact h⟩
   case skip => exact ⟨keep a hy _, by rw [← Act.put_comm a v undef h2]; exact h⟩
   case defer d =>
    refine ⟨keep _ (keepD d) _, ?_⟩
    rw [← Act.put_comm _ v undef h2, ← Act.put_defers]
    exact h
   case enter f args =>
    refine Calls.mono h fun e w'' he => ?_
    cases e with
    | returned u => exact ⟨keep a hy u, by rw [← Act.put_comm a v u h2]; exact he⟩
    | panicked c => exact hQ _ _ _ he
    | outgrown => exact he
   case row row args => exact Rows.mono h fun u w'' he => ⟨keep a hy u, by rw [← Act.put_comm a v u h2]; exact he⟩
  | halt x w' =>
   cases x <;> simp only [Oper.upon] at h ⊢
   case panic u => exact hQ _ _ _ h
 ·rename_i hw
  simp only [hw] at h
  exact ⟨keep a hy _, by rw [← Act.put_comm a v undef h2]; exact h⟩
/-- whatever order; behind each operation C holds, as long as number d has not come up -/
def anyD (P : Program) (md : Region.Mode) (ops : Array Oper) (Q : Exit → Act → World → Prop) (C : World → Prop) (d : Nat) : Nat → Array Bool → Act → World → Prop
 | 0, listed, a, w => Region.ready md ops listed = [] ∧ Q .normal a w
 | fuel + 1, listed, a, w =>
  (Region.ready md ops listed = [] → Q .normal a w) ∧
  ∀ i ∈ Region.ready md ops listed, wpOp P ops Q i (fun a' w' => ((listed.setIfInBounds i true).getD d true = false → C w') ∧ anyD P md ops Q C d fuel (listed.setIfInBounds i true) a' w') a w
theorem wpAny_of_D : ∀ (fuel : Nat) (listed : Array Bool) (a : Act) (w : World), anyD P md ops Q C d fuel listed a w → wpAny P md ops Q fuel listed a w
 | 0, _, _, _, h => h
 | fuel + 1, _, _, _, h => ⟨h.1, fun i hi => wpOp_mono (fun a' w' h' => wpAny_of_D fuel _ a' w' h'.2) (h.2 i hi)⟩
theorem anyD_first {i : Nat} {oi od : Oper} {v : Value} (hi : ops[i]? = some oi) (hsel : ∀ (j : Nat) (o : Oper) cs b, ops[j]? = some o → o.op ≠ .select cs b)
 (hQ : ∀ c a w, Q (.panic c) (a.put oi.dst v) w → Q (.panic c) a w) (hd : ops[d]? = some od) (hdi : ∃ e ∈ od.after, Region.binds md e = true ∧ e.on = i) :
 ∀ (fuel : Nat) (listed : Array Bool) (a : Act) (w : World),
  (∀ j oj, ops[j]? = some oj → j ≠ i → listed.getD j true = false → (∀ e ∈ oj.after, Region.binds md e = true → e.on ≠ i) → oi.apart ops oj = true) →
  i ∈ Region.ready md ops listed → listed.getD d true = false → YD P ops C oi v a → C w →
  anyD P md ops Q C d fuel (listed.setIfInBounds i true) (a.put oi.dst v) w → anyD P md ops Q C d (fuel + 1) listed a w := by
 intro fuel
 induction fuel with
 | zero =>
  intro listed a w _ hr _ hy hS H
  refine ⟨fun h => (by rw [h] at hr; cases hr), fun j hj => ?_⟩
  by_cases hji : j = i
  ·subst hji; exact hy.wpOp hi hS ⟨fun _ => hS, H⟩
  ·have := ready_mono hj hji
   rw [H.1] at this
   cases this
 | succ fuel ih =>
  intro listed a w hfree hr hdl hy hS H
  refine ⟨fun h => (by rw [h] at hr; cases hr), fun j hj => ?_⟩
  by_cases hji : j = i
  ·subst hji; exact hy.wpOp hi hS ⟨fun _ => hS, H⟩
  ·have h1 := H.2 j (ready_mono hj hji)
   obtain ⟨hjun, oj, hoj, hall⟩ := mem_ready.1 hj
   have hnl : listed.getD i false = true → False := fun h1 => by
    have h0 := (mem_ready.1 hr).1
    rcases Nat.lt_or_ge i listed.size with h' | h'
    ·simp [h'] at h0 h1; rw [h0] at h1; cases h1
    ·simp [Array.getElem?_eq_none h'] at h1
   have hnot : ∀ e ∈ oj.after, Region.binds md e = true → e.on ≠ i := fun e he hb heq => by
    have h1 := hall e he hb
    rw [heq] at h1; exact hnl h1
   have hjd : j ≠ d := fun e => by
    subst e
    rw [hoj] at hd
    obtain rfl := Option.some.inj hd
    obtain ⟨e, he, hb, he2⟩ := hdi
    exact hnot e he hb he2
   have hdl' : (listed.setIfInBounds j true).getD d true = false := by rw [getD_set_ne true hjd]; exact hdl
   have h2 := wpOp_putD hoj (hfree j oj hoj hji hjun hnot) (fun cs b => hsel i oi cs b hi) (fun cs b => hsel j oj cs b hoj) hQ hy h1
   have hfree' : ∀ k ok, ops[k]? = some ok → k ≠ i → (listed.setIfInBounds j true).getD k true = false →
    (∀ e ∈ ok.after, Region.binds md e = true → e.on ≠ i) → oi.apart ops ok = true := fun k ok hk hki hun hno => by
    refine hfree k ok hk hki ?_ hno
    by_cases hjk : j = k
    ·subst hjk; exact hjun
    ·rw [getD_set_ne true hjk] at hun; exact hun
   have hcm : (listed.setIfInBounds i true).setIfInBounds j true = (listed.setIfInBounds j true).setIfInBounds i true := Array.setIfInBounds_comm _ _ (fun e => hji e.symm)
   refine wpOp_mono (fun a' w' h3 => ?_) h2
   obtain ⟨h4, h5, h6⟩ := h3
   have hi' : i ≠ d := fun e => by
    subst e
    rw [hi] at hd
    obtain rfl := Option.some.inj hd
    obtain ⟨e, he, hb, he2⟩ := hdi
    obtain ⟨_, o2, ho2, hall2⟩ := mem_ready.1 hr
    rw [hi] at ho2
    obtain rfl := Option.some.inj ho2
    have := hall2 e he hb
    rw [he2] at this; exact hnl this
   have hC' : C w' := h5 (by rw [getD_set_ne true hjd, getD_set_ne true hi']; exact hdl)
   rw [hcm] at h6
   exact ⟨fun _ => hC', ih (listed.setIfInBounds j true) a' w' hfree' (ready_mono hr (Ne.symm hji)) hdl' h4 hC' h6⟩
/-- the first k of n have come up -/
def upto (n k : Nat) : Array Bool := (List.replicate k true ++ List.replicate (n - k) false).toArray
theorem upto_zero (n : Nat) : Array.replicate n false = upto n 0 := by simp [upto]
theorem upto_set {n k : Nat} (h : k < n) : (upto n k).setIfInBounds k true = upto n (k + 1) := by
 unfold upto
 rw [stA, show n - k = (n - (k + 1)) + 1 by omega, List.replicate_succ, List.set_append_right _ _ (by simp), List.length_replicate, Nat.sub_self, stZ, List.replicate_succ' (n := k), List.append_assoc]
 rfl
/-- operation k may be taken, and d waits for it -/
def takeB (md : Region.Mode) (ops : Array Oper) (d k : Nat) : Bool :=
 Region.free md ops (upto ops.size k) k && (Region.ready md ops (upto ops.size k)).contains k && Region.waitsFor md ops d k && decide (k < d) && decide (d < ops.size)
/-- no panic is borne -/
def calm (Q : Exit → Act → World → Prop) : Exit → Act → World → Prop
 | .normal, a, w => Q .normal a w
 | _, _, _ => False
theorem upto_getD {n k d : Nat} (h1 : k ≤ d) (h2 : d < n) : (upto n k).getD d true = false := by
 unfold upto
 simp only [Array.getD_eq_getD_getElem?, List.getElem?_toArray]
 rw [List.getElem?_append_right (by simpa using h1), List.getElem?_replicate, if_pos (by simp; omega)]
 rfl
theorem take1 {k : Nat} {o : Oper} {v : Value} {fuel : Nat} {a : Act} {w : World} (ho : ops[k]? = some o) (hs : Region.noSelect ops = true) (hb : takeB md ops d k = true) (hy : YD P ops C o v a) (hC : C w)
 (h : anyD P md ops (calm Q) C d fuel (upto ops.size (k + 1)) (a.put o.dst v) w) : anyD P md ops (calm Q) C d (fuel + 1) (upto ops.size k) a w := by
 simp only [takeB, Bool.and_eq_true, decide_eq_true_eq] at hb
 obtain ⟨⟨⟨⟨h1, h2⟩, h3⟩, h4⟩, h5⟩ := hb
 obtain ⟨od, hd, e, he, hbi, hon⟩ := Region.waitsFor_spec h3
 exact anyD_first (Q := calm Q) ho (Region.noSelect_spec hs) (fun c a w h => h) hd ⟨e, he, hbi, hon⟩ fuel _ a w (Region.free_spec ho h1) (by simpa using h2) (upto_getD (by omega) h5) hy hC (by rw [upto_set (by omega)]; exact h)
/-- some operations that only read -/
theorem chunk : ∀ (m : Nat) {l : List Oper} {k fuel : Nat} {a : Act} {w : World}, m ≤ l.length → (∀ j, j < l.length → l[j]? = ops[k + j]?) → Region.noSelect ops = true → ((List.range m).all fun j => takeB md ops d (k + j)) = true → (l.take m).all Rel.pureB = true → C w →
 wpQuiet P ops (fun w' => ∃ x : Wh C, w' = x.val) (fun a' => anyD P md ops (calm Q) C d fuel (upto ops.size (k + m)) a' w) (l.take m) a → anyD P md ops (calm Q) C d (fuel + m) (upto ops.size k) a w
 | 0, l, k, fuel, a, w, _, _, _, _, _, _, h => by simpa [wpQuiet] using h
 | m + 1, [], k, fuel, a, w, hm, _, _, _, _, _, _ => by simp at hm
 | m + 1, o :: l, k, fuel, a, w, hm, hl, hs, hb, hp, hC, h => by
  have h0 : ops[k]? = some o := by simpa using (hl 0 (by simp)).symm
  simp only [tkS, List.all_cons, Bool.and_eq_true] at hp
  have hl' : ∀ j, j < l.length → l[j]? = ops[k + 1 + j]? := fun j hj => by have := hl (j + 1) (by simp; omega); simpa [Nat.add_assoc, Nat.add_comm 1 j] using this
  have hb0 : takeB md ops d k = true := by have := List.all_eq_true.1 hb 0 (List.mem_range.2 (by omega)); simpa using this
  have hb' : ((List.range m).all fun j => takeB md ops d (k + 1 + j)) = true := List.all_eq_true.2 fun j hj => by
   have := List.all_eq_true.1 hb (j + 1) (List.mem_range.2 (by have := List.mem_range.1 hj; omega))
   rw [show k + 1 + j = k + (j + 1) by omega]; exact this
  have go : ∀ a', wpQuiet P ops (fun w' => ∃ x : Wh C, w' = x.val) (fun a' => anyD P md ops (calm Q) C d fuel (upto ops.size (k + (m + 1))) a' w) (l.take m) a' → anyD P md ops (calm Q) C d (fuel + m) (upto ops.size (k + 1)) a' w := fun a' h' =>
   chunk m (by simpa using hm) hl' hs hb' hp.2 hC (by rw [show k + 1 + m = k + (m + 1) by omega]; exact h')
  simp only [tkS, wpQuiet] at h
  rw [show fuel + (m + 1) = (fuel + m) + 1 by omega]
  by_cases hw : Region.wanted o (yielded ops a.tmps) = true
  ·rw [if_pos hw] at h
   obtain ⟨v0, hv, hk⟩ := h
   refine take1 (v := v0) h0 hs hb0 (.inl ⟨hw, fun w' hw' => ?_⟩) hC (go _ hk)
   have h1 := hv w' ⟨⟨w', hw'⟩, rfl⟩
   have hn := fun w'' f args => Rel.no_enter (P := P) (w := w') (w' := w'') (f := f) (args := args) hp.1 (ρ := a.eval)
   unfold Oper.quietAt at h1
   generalize (execOp a.eval o).run P w' = res at h1 hn
   cases res with
   | ok n w2 =>
    cases n <;> simp only [Oper.quietUpon] at h1
    case value x => left; rw [h1.1, h1.2]
    case skip => right; exact ⟨by rw [h1.1], h1.2⟩
    case enter f args => exact absurd rfl (hn w2 f args)
   | halt x w2 => simp only [Oper.quietUpon] at h1
  ·rw [if_neg hw] at h
   exact take1 (v := undef) h0 hs hb0 (.inr ⟨by simpa using hw, rfl⟩) hC (go _ h)
/-- what stands behind an operation that acts -/
def next (C : World → Prop) (b : Bool) (K : Act → World → Prop) : Exit → Act → World → Prop
 | .normal, a, w => (b = true → C w) ∧ K a w
 | _, _, _ => False
theorem next_mk {b : Bool} {K : Act → World → Prop} {a : Act} {w : World} (h : b = true → C w) (k : K a w) : next C b K .normal a w := ⟨h, k⟩
/-- an operation that acts: none other may come up -/
theorem real {k : Nat} {o : Oper} {fuel : Nat} {a : Act} {w : World} (ho : ops[k]? = some o) (hg : o.guard = none) (hr : Region.ready md ops (upto ops.size k) = [k]) (hk : k < ops.size)
 (h : wpList P ops (next C (decide (k < d)) (fun a' w' => anyD P md ops (calm Q) C d fuel (upto ops.size (k + 1)) a' w')) [o] a w) : anyD P md ops (calm Q) C d (fuel + 1) (upto ops.size k) a w := by
 refine ⟨fun h0 => (by rw [hr] at h0; cases h0), fun i hi => ?_⟩
 rw [hr] at hi
 obtain rfl : i = k := by simpa using hi
 unfold wpOp
 have hw : Region.wanted o (yielded ops a.tmps) = true := by simp [Region.wanted, hg]
 simp only [ho]
 rw [if_pos hw]
 simp only [wpList] at h
 rw [if_pos hw] at h
 rcases h with h | ⟨_, h⟩
 ·left
  unfold Oper.wp at *
  generalize (execOp a.eval o).run P w = r at *
  have fin : ∀ a' w', next C (decide (i < d)) (fun a' w' => anyD P md ops (calm Q) C d fuel (upto ops.size (i + 1)) a' w') .normal a' w' →
   ((((upto ops.size i).setIfInBounds i true).getD d true = false → C w') ∧ anyD P md ops (calm Q) C d fuel ((upto ops.size i).setIfInBounds i true) a' w') := fun a' w' h => by
   rw [upto_set hk]
   refine ⟨fun hd => h.1 (dTt ?_), h.2⟩
   rcases Nat.lt_or_ge i d with h1 | h1
   ·exact h1
   ·exfalso
    have : (upto ops.size (i + 1)).getD d true = true := by
     unfold upto
     simp only [Array.getD_eq_getD_getElem?, List.getElem?_toArray]
     rw [List.getElem?_append_left (by simp; omega), List.getElem?_replicate, if_pos (by omega)]
     rfl
    rw [this] at hd; cases hd
  cases r with
  | ok n w' =>
   cases n <;> simp only [Oper.upon] at h ⊢
   case value u => exact fin _ _ h
   case skip => exact fin _ _ h
   case defer d => exact fin _ _ h
   case enter f args =>
    refine Calls.mono h fun e w'' he => ?_
    cases e with
    | returned u => exact fin _ _ he
    | panicked c => exact he.elim
    | outgrown => obtain ⟨_, _, he⟩ := he; exact he.elim
   case row row args => exact Rows.mono h fun u w'' he => fin _ _ he
  | halt x w' =>
   cases x <;> simp only [Oper.upon] at h ⊢
   case panic u => exact h.elim
 ·obtain ⟨_, _, h⟩ := h; exact h.elim
theorem done {fuel : Nat} {a : Act} {w : World} (hr : Region.ready md ops (upto ops.size ops.size) = []) (h : Q .normal a w) : anyD P md ops (calm Q) C d fuel (upto ops.size ops.size) a w := by
 cases fuel with
 | zero => exact ⟨hr, h⟩
 | succ n => exact ⟨fun _ => h, by rw [hr]; simp⟩
/-- the region -/
theorem region {id : Nat} {a : Act} {w : World} {l : List Oper} (C : World → Prop) (d : Nat) (hm : P.follows .mixedOrders = true)
 (h : anyD P .any l.toArray (calm Q) C d l.toArray.size (upto l.toArray.size 0) a w.drew) : (Code.region id l.toArray true).wp P Q a w := by
 have h1 : (Code.region id l.toArray true).wp P (calm Q) a w := wp_region_any hm (wpAny_of_D _ _ _ _ (by rw [upto_zero]; exact h))
 refine wp_mono h1 (fun e a w he => ?_)
 cases e with
 | normal => exact he
 | _ => exact he.elim
/-- the checks of a piece of m operations from k on -/
def chunkB (md : Region.Mode) (L : List Oper) (d k m : Nat) : Bool :=
 Region.noSelect L.toArray && ((List.range m).all fun j => takeB md L.toArray d (k + j)) && ((L.drop k).take m).all Rel.pureB && decide (k + m ≤ L.length)
theorem chunkL {L : List Oper} (m : Nat) {k k' fuel' : Nat} (fuel : Nat) {a : Act} {w : World} (hf : fuel' = fuel + m) (hk : k' = k + m) (hb : chunkB md L d k m = true) (hC : C w)
 (h : wpQuiet P L.toArray (fun w' => ∃ x : Wh C, w' = x.val) (fun a' => anyD P md L.toArray (calm Q) C d fuel (upto L.toArray.size k') a' w) ((L.drop k).take m) a) : anyD P md L.toArray (calm Q) C d fuel' (upto L.toArray.size k) a w := by
 subst hf hk
 simp only [chunkB, Bool.and_eq_true, decide_eq_true_eq] at hb
 obtain ⟨⟨⟨h1, h2⟩, h3⟩, h4⟩ := hb
 exact chunk m (l := L.drop k) (by simp; omega) (fun j _ => by simp) h1 h2 h3 hC h
/-- the checks of an operation that acts -/
def realB (md : Region.Mode) (L : List Oper) (k : Nat) : Bool :=
 decide (k < L.length) && decide (Region.ready md L.toArray (upto L.toArray.size k) = [k]) && (match L[k]? with | some o => o.guard.isNone | none => false)
theorem realL {L : List Oper} {k k' fuel' : Nat} (fuel : Nat) {a : Act} {w : World} (hf : fuel' = fuel + 1) (hk : k' = k + 1) (hb : realB md L k = true)
 (h : wpList P L.toArray (next C (decide (k < d)) (fun a' w' => anyD P md L.toArray (calm Q) C d fuel (upto L.toArray.size k') a' w')) ((L.drop k).take 1) a w) : anyD P md L.toArray (calm Q) C d fuel' (upto L.toArray.size k) a w := by
 subst hf hk
 simp only [realB, Bool.and_eq_true, decide_eq_true_eq] at hb
 obtain ⟨⟨h1, h2⟩, h3⟩ := hb
 obtain ⟨o, ho⟩ : ∃ o, L[k]? = some o := ⟨_, gE h1⟩
 rw [ho] at h3
 have e : (L.drop k).take 1 = [o] := by
  rw [List.drop_eq_getElem_cons h1]
  have := (List.getElem?_eq_some_iff.1 ho).2
  rw [this]; rfl
 rw [e] at h
 exact real (by simpa using ho) (by simpa using h3) h2 (by simpa using h1) h
theorem doneL {L : List Oper} {k fuel : Nat} {a : Act} {w : World} (hk : k = L.toArray.size) (hr : Region.ready md L.toArray (upto L.toArray.size k) = []) (h : Q .normal a w) : anyD P md L.toArray (calm Q) C d fuel (upto L.toArray.size k) a w := by
 subst hk; exact done hr h
end
end RelD
open Go.Maps
open Go.WideMaps
theorem stab_any {w : World} {sp n : Nat} {r0 : Option Addr} {c0 : Nat} (h : w.cell? ⟨sp, 0, none⟩ = some (.slice r0 n c0)) (t : Int) : Calls Tryz.prog 177 #[.pointer (some ⟨sp, 0, none⟩), .int .i64 t] w (Rets w (.bool (decide (0 ≤ t) && decide (t < n)))) := by
 have k0 := alw h
 clear h
 by_cases h1 : 0 ≤ t
 ·have d1 : decide (0 ≤ t) = true := dTt h1
  rw [d1]
  by_cases h2 : t < n
  ·have d2 : decide (t < (n : Int)) = true := dTt h2
   rw [d2]
   clear h1 h2
   go_enter Tryz.func177, Tryz.ntmps177
   go_wp2_with fail
   go_ret
   exact ⟨rfl, grows⟩
  ·have d2 : decide (t < (n : Int)) = false := dF h2
   rw [d2]
   clear h1 h2
   go_enter Tryz.func177, Tryz.ntmps177
   go_wp2_with fail
   go_ret
   exact ⟨rfl, grows⟩
 ·have d1 : decide (0 ≤ t) = false := dF h1
  rw [d1]
  clear h1
  go_enter Tryz.func177, Tryz.ntmps177
  go_wp2_with fail
  go_ret
  exact ⟨rfl, grows⟩
theorem ChP_bad {S : Nat → Prop} {lo hi sp : Nat} {V : Tj.SV} {w w' : World} {F : Tj.FP} {c : Int} {C' : Tj.Cfg} (hc : c ≠ 0) (hx : Ext w w') : Tj.ChP S lo hi sp V w F c C' w' := Tj.ChP.bad hc hx
/-- what an insertion leaves -/
def InsP (S : Nat → Prop) (lo hi sp : Nat) (V : Tj.SV) (w : World) (F : Tj.FP) (c : Int) (C' : Tj.Cfg) (e : Ending) (w' : World) : Prop := ∃ id : Int, e = .returned (.tuple #[.int .i64 id, .int .i64 c]) ∧ Tj.ChP S lo hi sp V w F c C' w'
namespace Tj
theorem insE_t {F : FP} {C : Cfg} {t : Int} {x : Ent} (h : noT C t) : insE F C t x = 8 := by unfold insE; rw [if_pos h]
theorem insE_n {F : FP} {C : Cfg} {t : Int} {x : Ent} (h : ¬ noT C t) : insE F C t x = if entE F t x ≠ 0 then entE F t x else if (rowsAt C t).any (fun r => sameK r.e x) then 7
 else if (tabAt F t).sz ≤ (rowsAt C t).length ∨ 1073741824 ≤ nxAt C t then 13 else 0 := by unfold insE; rw [if_neg h]
end Tj
abbrev Yq25 (xa : Option Addr) (xc : Nat) (x : Tj.Ent) (ya : Option Addr) (yc : Nat) : Array Value := #[.slice xa x.ks.length xc, .int .i64 x.pr, .int .i64 x.cl.a, .slice ya x.cl.ar.length yc]
theorem sinsert_any {S : Nat → Prop} {lo hi sp : Nat} {V : Tj.SV} {w : World} {F : Tj.FP} {C : Tj.Cfg} (h : Tj.St S lo hi sp V w F C) (t : Int) {xv : Value} {x : Tj.Ent} (hx : ∀ w', Mod S w w' → Tj.EntV w' xv x) :
 Calls Tryz.prog 148 #[.pointer (some ⟨sp, 0, none⟩), .int .i64 t, xv] w (InsP S lo hi sp V w F (Tj.insE F C t x) (Tj.insC C t x)) := by
 obtain ⟨v0, v1, v2, v3, ixv, q0, q1, q2, q3, q4, q5, q6, q7, q8⟩ := V
 obtain ⟨hbx, hsl, vs, ms, hst⟩ := h
 have HST := Lh hst
 have HSL := Lh hsl
 have HBX := Lh hbx
 obtain ⟨r0, c0, r1, c1, r2, c2, r3, c3, rfl, rfl, rfl, rfl⟩ := hst.cfg.form
 obtain ⟨ia, ic, rfl, _⟩ := own_form hst.ix
 have hwsp : sp < w.heap.size := lt_of_block hbx
 have k0 := alw (cQ 0 hbx)
 have k1 := alw (cQ 1 hbx)
 have k2 := alw (cQ 2 hbx)
 have k3 := alw (cQ 3 hbx)
 have k4 := alw (cQ 4 hbx)
 have k5 := alw (cQ 5 hbx)
 have k6 := alw (cQ 6 hbx)
 have k7 := alw (cQ 7 hbx)
 have k8 := alw (cQ 8 hbx)
 have k9 := alw (cQ 9 hbx)
 have k10 := alw (cQ 10 hbx)
 have k11 := alw (cQ 11 hbx)
 have k12 := alw (cQ 12 hbx)
 have k13 := alw (cQ 13 hbx)
 have k14 := alw (cQ 14 hbx)
 clear hst hsl hbx
 have hx0 := hx w (Mod.refl _ _)
 obtain ⟨_, rfl, xa, xc, ya, yc, rfl, _, _, _⟩ := hx0
 have HX := Lh hx
 have HTB : Hid (∀ w', Ext w w' → Calls Tryz.prog 177 #[.pointer (some ⟨sp, 0, none⟩), .int .i64 t] w' (Rets w' (.bool (decide (0 ≤ t) && decide (t < C.rows.length))))) := Lh (fun w' hw => stab_any (hw.cell (k0 w)) t)
 have HEN : Hid (∀ w', Ext w w' → Calls Tryz.prog 141 #[.agg #[q0, q1, q2, q3, q4, q5, q6, q7, q8], .int .i64 t, .agg (Yq25 xa xc x ya yc)] w' (Rets w' (.int .i64 (Tj.entE F t x)))) := Lh (fun w' hw => echeck_any (p := ⟨q0, q1, q2, q3, q4, q5, q6, q7, q8⟩) ((HST.out.pr.now).1.ext hw) t (hx w' (Mod.of_ext hw)))
 obtain ⟨R, hR⟩ : ∃ z, z = Tj.insE F C t x := ⟨_, rfl⟩
 rw [← hR]
 have e0 : ∀ w', (binOp .eql 76 (.pointer (some ⟨sp, 0, none⟩)) (.pointer none)).run Tryz.prog w' = .ok (.bool false) w' := fun _ => rfl
 have bx := aH w (.cells (Yq25 xa xc x ya yc) 65)
 have b0 := alw (cQ 0 bx)
 have b1 := alw (cQ 1 bx)
 have b2 := alw (cQ 2 bx)
 have b3 := alw (cQ 3 bx)
 clear bx
 clear hx
 by_cases hT : Tj.noT C t
 ·have HE : Hid (R = 8) := Lh (by rw [hR, Tj.insE_t hT])
  have d1 : (decide (0 ≤ t) && decide (t < (C.rows.length : Int))) = false := by
   rcases hT with h | h
   ·rw [dF (by omega)]; rfl
   ·rw [dF (p := t < (C.rows.length : Int)) (by omega), Bool.and_false]
  rw [d1] at HTB
  clear hR hT d1
  go_enter Tryz.func148, Tryz.ntmps148
  go_wp2_with fail
  refine via (HTB.out _ grows) fun w3 xw3 sw3 => ?_
  go_wp2_with fail
  exact bodyPost_ret (v := .tuple #[.int .i64 0, .int .i64 (R)]) (by simp [results, Tryz.results148, go_sem, HE.out]) rfl ⟨_, rfl, ChP_bad (by rw [HE.out]; decide) grows⟩
 ·rw [Tj.insE_n hT] at hR
  obtain ⟨t, rfl⟩ : ∃ n : Nat, t = n := ⟨t.toNat, by unfold Tj.noT at hT; omega⟩
  have htl : t < C.rows.length := by unfold Tj.noT at hT; omega
  have d1 : (decide (0 ≤ (t : Int)) && decide ((t : Int) < (C.rows.length : Int))) = true := by
   rw [dTt (by omega), dTt (by omega)]; rfl
  rw [d1] at HTB
  clear hT d1
  obtain ⟨ee, hee⟩ : ∃ z, z = Tj.entE F t x := ⟨_, rfl⟩
  rw [← hee] at HEN hR
  obtain ⟨rs, hrs⟩ : ∃ z, C.rows[t]? = some z := ⟨_, gE htl⟩
  have hra : Tj.rowsAt C t = rs := by unfold Tj.rowsAt; rw [Int.toNat_natCast, List.getD_eq_getElem?_getD, hrs]; rfl
  rw [hra] at hR
  have HEE := Lh hee
  clear hee hra
  by_cases hz : ee = 0
  ·subst hz
   rw [if_neg (by simp)] at hR
   -- the places
   have hvl : vs.length = C.rows.length := HST.out.cfg.rows.rl
   obtain ⟨rv, hrv⟩ : ∃ z, vs[t]? = some z := ⟨_, gE (by omega)⟩
   have hrw := HST.out.cfg.rows.r1 t rv rs hrv hrs
   obtain ⟨ra, rc, rfl, _, _⟩ := Tj.OL.one hrw
   obtain ⟨g0, c0', hg0, _⟩ := own_cons HST.out.cfg.rows.r0 (by omega)
   simp only [Value.slice.injEq] at hg0
   obtain ⟨rfl, _, rfl⟩ := hg0
   have gr := alw (own_get HST.out.cfg.rows.r0 hrv)
   have HRV := Lh hrv
   have HRS := Lh hrs
   have hXE : Tj.EntV w (.agg (Yq25 xa xc x ya yc)) x := HX.out w (Mod.refl _ _)
   have HCT : Hid (∀ w', Ext (w.alloc (.cells (Yq25 xa xc x ya yc) 65)) w' → Calls Tryz.prog 142 #[.slice ra rs.length rc, .func (.func 178) #[] #[.pointer (some ⟨w.heap.size, 0, none⟩)]] w' (Rets w' (.bool (rs.any (fun r => Tj.sameK r.e x))))) := Lh (fun w' hw => by
    have hxw : Ext w w' := (grows (a := w) (b := w.alloc (.cells (Yq25 xa xc x ya yc) 65))).trans hw
    exact contR0_any (W := w') (hrw.rws.ext hxw) (hXE.ext hxw) w.heap.size (hw.cell (b0 _)) (hw.cell (b1 _)) (hw.cell (b2 _)) (hw.cell (b3 _)))
   obtain ⟨an, han⟩ : ∃ z, z = rs.any (fun r => Tj.sameK r.e x) := ⟨_, rfl⟩
   rw [← han] at HCT hR
   have hmf : ∀ (fn : Fn) (first cap : Array Value) (w : World), (Instr.makeFunc fn first cap).run Tryz.prog w = .ok (.func fn first cap) w := fun _ _ _ _ => rfl
   have ql0 : ¬ ((C.rows.length : Int) ≤ t) := by omega
   clear han hrv hrs hrw hXE
   cases an with
   | true =>
    have HE : Hid (R = 7) := Lh (by rw [hR]; rfl)
    clear hR
    go_enter Tryz.func148, Tryz.ntmps148
    go_wp2_with fail
    refine via (HTB.out _ grows) fun w3 xw3 sw3 => ?_
    go_wp2_with fail
    refine wp_region_later (W := w3) (by kernel_rfl) (by kernel_rfl) (eR _) ?_
    repeat (go_big_quiet_step (first | (go_at_call 141; exact Rets.later_at (HEN.out _ grows)) | fail))
    refine wpQuiet_nil ?_
    intro w4 x4
    have s4 := Sm x4
    go_wp2_with fail
    refine via (HCT.out _ grows) fun w5 xw5 sw5 => ?_
    go_wp2_with fail
    exact bodyPost_ret (v := .tuple #[.int .i64 0, .int .i64 (R)]) (by simp [results, Tryz.results148, go_sem, HE.out]) rfl ⟨_, rfl, ChP_bad (by rw [HE.out]; decide) grows⟩
   | false =>
    rw [if_neg (by simp)] at hR
    have hnl : t < C.nx.length := by have := HST.out.inv; have h1 := this.nn; have h2 := this.nt; omega
    obtain ⟨nx, hnx⟩ : ∃ z, C.nx[t]? = some z := ⟨_, gE (by omega)⟩
    have hna : Tj.nxAt C t = nx := by unfold Tj.nxAt; rw [Int.toNat_natCast, List.getD_eq_getElem?_getD, hnx]; rfl
    obtain ⟨g1, c1', hg1, _⟩ := own_cons HST.out.cfg.nx.1 (by omega)
    simp only [Value.slice.injEq] at hg1
    obtain ⟨rfl, _, rfl⟩ := hg1
    have gn := alw (own_get (u := .int .i64 nx) HST.out.cfg.nx.1 (by rw [List.getElem?_map, hnx]; rfl))
    have HNX : Hid (Tj.B64 nx) := Lh (HST.out.cfg.nx.2 nx (List.mem_of_getElem? hnx))
    -- the table
    have htt : t < F.ts.length := by have := HST.out.inv.nt; omega
    obtain ⟨tb, htb⟩ : ∃ z, F.ts[t]? = some z := ⟨_, gE htt⟩
    have hta : Tj.tabAt F (t : Int) = tb := by unfold Tj.tabAt Tj.at?; rw [if_pos (by omega), Int.toNat_natCast, htb]; rfl
    have h256 : tb.sz ≤ 256 := by
     have h1 := (Tj.tabI_sz (Tj.entE_sz HST.out.sz HEE.out.symm).1).1
     rw [hta] at h1; exact h1
    obtain ⟨a1, a2, a3, a4, a5, a6, a7, a8, m1, m2, m3, m4, m5, m6, n7, m7, m8, hf⟩ := HST.out.pr.now.1.form
    obtain ⟨hqe, hnm, hhs, hmd, hregs, has, hts, hss, hct, hdp, l1, l2, l3, l4, l5, l6, l7, l8⟩ := hf
    simp only [Pg.PV.mk.injEq] at hqe
    obtain ⟨z0, z1, z2, z3, z4, rfl, z6, z7, z8⟩ := hqe
    clear z0 z1 z2 z3 z4 z6 z7 z8
    obtain ⟨tq, tof, rfl, _, _⟩ := Rows.at hts (by omega)
    obtain ⟨ka0, kc0, aa, cc, va, vc, _, ⟨_, hsz⟩, _, _, _, g0', g1', g2', g3', g4', g5⟩ := tabs_at hts t tb htb rfl
    have ysz := alw g5
    obtain ⟨sz, hsz2⟩ : ∃ z, z = tb.sz := ⟨_, rfl⟩
    rw [hta, hna, ← hsz2] at hR
    rw [← hsz2] at ysz h256
    have ql1 : ¬ ((C.nx.length : Int) ≤ t) := by omega
    have ql2 : ¬ ((F.ts.length : Int) ≤ t) := by omega
    clear hnm hhs hmd hregs has hts hss hct hdp l1 l2 l3 l4 l5 l6 l7 l8 hsz g0' g1' g2' g3' g4' g5 hta hna htb hsz2
    have HNXG := Lh hnx
    clear hnx
    by_cases hd1 : sz ≤ rs.length
    ·have HE : Hid (R = 13) := Lh (by rw [hR, if_pos (.inl hd1)])
     have dd1 : decide (sz ≤ (rs.length : Int)) = true := dTt (by omega)
     clear hR hd1
     go_enter Tryz.func148, Tryz.ntmps148
     go_wp2_with fail
     refine via (HTB.out _ grows) fun w3 xw3 sw3 => ?_
     go_wp2_with fail
     refine wp_region_later (W := w3) (by kernel_rfl) (by kernel_rfl) (eR _) ?_
     repeat (go_big_quiet_step (first | (go_at_call 141; exact Rets.later_at (HEN.out _ grows)) | fail))
     refine wpQuiet_nil ?_
     intro w4 x4
     have s4 := Sm x4
     go_wp2_with fail
     refine via (HCT.out _ grows) fun w5 xw5 sw5 => ?_
     go_wp2_with fail
     refine wp_region_later (by kernel_rfl) (by kernel_rfl) (eR _) ?_
     repeat (go_big_quiet_step (fail))
     refine wpQuiet_nil ?_
     intro w5b x5b
     have s5b := Sm x5b
     go_wp2_with fail
     exact bodyPost_ret (v := .tuple #[.int .i64 0, .int .i64 (R)]) (by simp [results, Tryz.results148, go_sem, HE.out]) rfl ⟨_, rfl, ChP_bad (by rw [HE.out]; decide) grows⟩
    ·have dd1 : decide (sz ≤ (rs.length : Int)) = false := dF (by omega)
     by_cases hd2 : 1073741824 ≤ nx
     ·have HE : Hid (R = 13) := Lh (by rw [hR, if_pos (.inr hd2)])
      have dd2 : decide (1073741824 ≤ nx) = true := dTt (by omega)
      clear hR hd1 hd2
      go_enter Tryz.func148, Tryz.ntmps148
      go_wp2_with fail
      refine via (HTB.out _ grows) fun w3 xw3 sw3 => ?_
      go_wp2_with fail
      refine wp_region_later (W := w3) (by kernel_rfl) (by kernel_rfl) (eR _) ?_
      repeat (go_big_quiet_step (first | (go_at_call 141; exact Rets.later_at (HEN.out _ grows)) | fail))
      refine wpQuiet_nil ?_
      intro w4 x4
      have s4 := Sm x4
      go_wp2_with fail
      refine via (HCT.out _ grows) fun w5 xw5 sw5 => ?_
      go_wp2_with fail
      refine wp_region_later (by kernel_rfl) (by kernel_rfl) (eR _) ?_
      repeat (go_big_quiet_step (fail))
      refine wpQuiet_nil ?_
      intro w5b x5b
      have s5b := Sm x5b
      go_wp2_with fail
      exact bodyPost_ret (v := .tuple #[.int .i64 0, .int .i64 (R)]) (by simp [results, Tryz.results148, go_sem, HE.out]) rfl ⟨_, rfl, ChP_bad (by rw [HE.out]; decide) grows⟩
     ·have dd2 : decide (1073741824 ≤ nx) = false := dF (by omega)
      have HE : Hid (R = 0) := Lh (by rw [hR, if_neg (by omega)])
      have hrl : rs.length < 256 := by omega
      have hnlo : -9223372036854775808 ≤ nx := HNX.out.1
      have hnhi : nx < 1073741824 := by omega
      clear hR hd1 hd2
      obtain ⟨b, hmb, him⟩ := HST.out.mm t htl
      rw [Tj.ixs_at HRS.out] at him
      obtain ⟨gi, ci', hgi, _⟩ := own_cons HST.out.ix (by omega)
      simp only [Value.slice.injEq] at hgi
      obtain ⟨rfl, _, rfl⟩ := hgi
      have gm := alw (own_get HST.out.ix hmb)
      have HMB := Lh hmb
      have HIM := Lh him
      have HKY := Lh (keyOf_int_mk Tryz.underlying3 (wf_b64 HNX.out))
      clear hmb him
      go_enter Tryz.func148, Tryz.ntmps148
      go_wp2_with fail
      refine via (HTB.out _ grows) fun w3 xw3 sw3 => ?_
      go_wp2_with fail
      refine wp_region_later (W := w3) (by kernel_rfl) (by kernel_rfl) (eR _) ?_
      repeat (go_big_quiet_step (first | (go_at_call 141; exact Rets.later_at (HEN.out _ grows)) | fail))
      refine wpQuiet_nil ?_
      intro w4 x4
      have s4 := Sm x4
      go_wp2_with fail
      refine via (HCT.out _ grows) fun w5 xw5 sw5 => ?_
      go_wp2_with fail
      refine wp_region_later (by kernel_rfl) (by kernel_rfl) (eR _) ?_
      repeat (go_big_quiet_step (fail))
      refine wpQuiet_nil ?_
      intro w5b x5b
      have s5b := Sm x5b
      go_wp2_with fail
      refine wp_region_later_tail 17 (by kernel_rfl) (by kernel_rfl) (eR _) ?_
      simp only [tkS, tkZ, dpS, dpZ]
      repeat (go_big_quiet_step (fail))
      refine wpQuiet_nil ?_
      intro w6 x6
      have X6 := Lh ((grows (a := w) (b := w5b)).trans x6)
      have hle6 := X6.out.le
      have HB6 := Lh (x6.heap ((grows (a := w.alloc (.cells (Yq25 xa xc x ya yc) 65)) (b := w5b)).heap (aH w (.cells (Yq25 xa xc x ya yc) 65))))
      obtain ⟨D, hD0, hD1, hD2⟩ := HIM.out.kept (MapsKept.ext X6.out)
      have HD0 := Lh hD0
      have HD1 := Lh hD1
      have HD2 := Lh hD2
      clear x6 hD0 hD1 hD2
      go_wp2_with (first | (at_mapUpdate; refine wpList_mapUpdate_own _ rfl _ _ _ 239 rfl 3 3 Tj.ix_law Tryz.underlying239 _ b rs.length _ rfl HD0.out (by unfold maxLen; omega) _ _ _ rfl rfl HKY.out _ [] (plainElem_int Tryz.underlying3 (wf_b64 (x := (rs.length : Int)) ⟨by omega, by omega⟩)) ?_) | fail)
      intro w7 hown7 hg7
      have HM7 : Hid (Mod (· = b) w6 w7) := Lh ((grown_mod hg7).mono (fun i _ h => by simpa using h))
      have HI7 : Hid (Tj.IxM w7 b (rs.length + 1) (fun s => if nx = s then some rs.length else Tj.pos rs s)) := Lh (Tj.IxM.put HNX.out HD2.out HD1.out hown7 (fun s => rfl))
      clear hown7 hg7
      have hSb : S b := HST.out.sm t b HMB.out
      have hbl := (HSL.out b hSb).1
      have HM67 : Hid (Mod S w w7) := Lh ((Mod.of_ext X6.out).comp HM7.out (fun i _ hi => by subst hi; exact hSb))
      have HS7 := Lh ((HST.out.ext X6.out).putIx HMB.out HM7.out HI7.out)
      have hbx7 := HM7.out.heap (X6.out.heap HBX.out) (fun e => (HSL.out b hSb).2 e.symm)
      have HB7 := Lh (HM7.out.heap HB6.out (by omega))
      have hle7 := HM7.out.size
      clear k0 k1 k2 k3 k4 k5 k6 k7 k8 k9 k10 k11 k12 k13 k14 b0 b1 b2 b3 gr gn gm ysz
      have k0 := alw (cQ 0 hbx7)
      have k1 := alw (cQ 1 hbx7)
      have k2 := alw (cQ 2 hbx7)
      have k3 := alw (cQ 3 hbx7)
      have k4 := alw (cQ 4 hbx7)
      have k5 := alw (cQ 5 hbx7)
      have k6 := alw (cQ 6 hbx7)
      have k7 := alw (cQ 7 hbx7)
      have k8 := alw (cQ 8 hbx7)
      have k9 := alw (cQ 9 hbx7)
      have k10 := alw (cQ 10 hbx7)
      have k11 := alw (cQ 11 hbx7)
      have k12 := alw (cQ 12 hbx7)
      have k13 := alw (cQ 13 hbx7)
      have k14 := alw (cQ 14 hbx7)
      have HBX7 := Lh hbx7
      clear hbx7
      have b0 := alw (cQ 0 HB7.out)
      have b1 := alw (cQ 1 HB7.out)
      have b2 := alw (cQ 2 HB7.out)
      have b3 := alw (cQ 3 HB7.out)
      have gr := alw (own_get HS7.out.cfg.rows.r0 HRV.out)
      have HCE : Hid (∀ w', Ext w7 w' → Calls Tryz.prog 146 #[.agg (Yq25 xa xc x ya yc)] w' (Tj.OwnP w' Tj.EntO x)) := Lh (fun w' hw => by
       obtain ⟨cs, hcs, hR⟩ := HX.out w' (HM67.out.trans (Mod.of_ext hw))
       have h := centry_own hR (by have := Tj.entE_sz HST.out.sz HEE.out.symm; exact ⟨by omega, this.2.2⟩)
       rw [← hcs] at h; exact h)
      go_wp2_with fail
      have hrw7 := HS7.out.cfg.rows.r1 t _ rs HRV.out HRS.out
      obtain ⟨css, hol⟩ := hrw7
      have HOL := Lh hol
      obtain ⟨cu0, hcu0⟩ := row_heap HS7.out.cfg.rows.r0 (k := g0) rfl
      have HCU := Lh hcu0
      have hng1 : sp ≠ g0 := fun e => (HSL.out g0 (HST.out.s0 g0 rfl)).2 e.symm
      have hng2 : g0 ≠ sp := fun e => hng1 e.symm
      have hg0l := (HSL.out g0 (HST.out.s0 g0 rfl)).1
      have hng3 : w.heap.size ≠ g0 := by omega
      have hng4 : g0 ≠ w.heap.size := by omega
      have p0 : w7.cell? ⟨sp, 0, none⟩ = some (.slice (some ⟨g0, 0, none⟩) C.rows.length c0) := k0 w7
      have p1 : w7.cell? ⟨w.heap.size, 0, none⟩ = some (.slice xa x.ks.length xc) := b0 w7
      have p2 : w7.cell? ⟨w.heap.size, 1, none⟩ = some (.int .i64 x.pr) := b1 w7
      have p3 : w7.cell? ⟨w.heap.size, 2, none⟩ = some (.int .i64 x.cl.a) := b2 w7
      have p4 : w7.cell? ⟨w.heap.size, 3, none⟩ = some (.slice ya x.cl.ar.length yc) := b3 w7
      have p5 : w7.cell? ⟨g0, t, none⟩ = some (.slice ra rs.length rc) := gr w7
      have P0 := Lh p0
      have P1 := Lh p1
      have P2 := Lh p2
      have P3 := Lh p3
      have P4 := Lh p4
      have P5 := Lh p5
      clear hol hcu0 k0 k1 k2 k3 k4 k5 k6 k7 k8 k9 k10 k11 k12 k13 k14 b0 b1 b2 b3 gr
      obtain ⟨CC, hCC⟩ : ∃ z : World → Prop, z = (fun w' => w'.cell? ⟨sp, 0, none⟩ = some (.slice (some ⟨g0, 0, none⟩) C.rows.length c0) ∧ w'.cell? ⟨w.heap.size, 0, none⟩ = some (.slice xa x.ks.length xc) ∧ w'.cell? ⟨w.heap.size, 1, none⟩ = some (.int .i64 x.pr) ∧ w'.cell? ⟨w.heap.size, 2, none⟩ = some (.int .i64 x.cl.a) ∧ w'.cell? ⟨w.heap.size, 3, none⟩ = some (.slice ya x.cl.ar.length yc) ∧ w'.cell? ⟨g0, t, none⟩ = some (.slice ra rs.length rc)) := ⟨_, rfl⟩
      have HCC := Lh hCC
      clear hCC
      refine RelD.region CC 21 (by kernel_rfl) ?_
      have cq0 : ∀ y : Wh CC, y.val.cell? ⟨sp, 0, none⟩ = some (.slice (some ⟨g0, 0, none⟩) C.rows.length c0) := fun y => by have h := Eq.mp (congrFun HCC.out y.val) y.out; exact h.1
      have cq1 : ∀ y : Wh CC, y.val.cell? ⟨w.heap.size, 0, none⟩ = some (.slice xa x.ks.length xc) := fun y => by have h := Eq.mp (congrFun HCC.out y.val) y.out; exact h.2.1
      have cq2 : ∀ y : Wh CC, y.val.cell? ⟨w.heap.size, 1, none⟩ = some (.int .i64 x.pr) := fun y => by have h := Eq.mp (congrFun HCC.out y.val) y.out; exact h.2.2.1
      have cq3 : ∀ y : Wh CC, y.val.cell? ⟨w.heap.size, 2, none⟩ = some (.int .i64 x.cl.a) := fun y => by have h := Eq.mp (congrFun HCC.out y.val) y.out; exact h.2.2.2.1
      have cq4 : ∀ y : Wh CC, y.val.cell? ⟨w.heap.size, 3, none⟩ = some (.slice ya x.cl.ar.length yc) := fun y => by have h := Eq.mp (congrFun HCC.out y.val) y.out; exact h.2.2.2.2.1
      have cq5 : ∀ y : Wh CC, y.val.cell? ⟨g0, t, none⟩ = some (.slice ra rs.length rc) := fun y => by have h := Eq.mp (congrFun HCC.out y.val) y.out; exact h.2.2.2.2.2
      have HC7 : Hid (CC w7.drew) := Lh (by rw [HCC.out]; exact ⟨p0, p1, p2, p3, p4, p5⟩)
      have hNE : Nonempty (Wh CC) := ⟨⟨_, HC7.out⟩⟩
      clear p0 p1 p2 p3 p4 p5
      refine RelD.chunkL (k' := 16) 16 6 (by kernel_rfl) rfl (by kernel_rfl) HC7.out ?_
      simp only [dpZ, tkS, tkZ]
      repeat (go_big_quiet_step (fail))
      refine wpQuiet_nil ?_
      refine RelD.realL (k' := 17) 5 (by kernel_rfl) rfl (by kernel_rfl) ?_
      simp only [dpZ, dpS, tkS, tkZ]
      go_wp2_with fail
      refine (HCE.out _ ((eR w7).drew)).mono ?_
      rintro e w8 ⟨cs3, rfl, x8, r3⟩
      have X8 : Hid (Ext w7 w8) := Lh (((eR w7).drew).trans x8)
      have R3 := Lh (r3.low (C := 0) (Nat.zero_le _))
      obtain ⟨pa, pc, qa, qc, rfl, _, _, _⟩ := r3
      have HC8 : Hid (CC w8) := Lh (by rw [HCC.out]; exact ⟨X8.out.cell P0.out, X8.out.cell P1.out, X8.out.cell P2.out, X8.out.cell P3.out, X8.out.cell P4.out, X8.out.cell P5.out⟩)
      have HC8A : Hid (CC (w8.alloc (.cells #[.int .i64 nx, .slice pa x.ks.length pc, .int .i64 x.pr, .int .i64 x.cl.a, .slice qa x.cl.ar.length qc] 151))) := Lh (by have h := X8.out.alloc (.cells #[.int .i64 nx, .slice pa x.ks.length pc, .int .i64 x.pr, .int .i64 x.cl.a, .slice qa x.cl.ar.length qc] 151); rw [HCC.out]; exact ⟨h.cell P0.out, h.cell P1.out, h.cell P2.out, h.cell P3.out, h.cell P4.out, h.cell P5.out⟩)
      clear x8
      go_wp2_with fail
      refine RelD.next_mk (fun _ => HC8.out) ?_
      refine RelD.chunkL (k' := 18) 1 4 (by kernel_rfl) rfl (by kernel_rfl) HC8.out ?_
      simp only [dpZ, dpS, tkS, tkZ]
      repeat (go_big_quiet_step (fail))
      refine wpQuiet_nil ?_
      refine RelD.realL (k' := 19) 3 (by kernel_rfl) rfl (by kernel_rfl) ?_
      simp only [dpZ, dpS, tkS, tkZ]
      go_wp2_with fail
      refine RelD.next_mk (fun _ => HC8A.out) ?_
      refine RelD.realL (k' := 20) 2 (by kernel_rfl) rfl (by kernel_rfl) ?_
      simp only [dpZ, dpS, tkS, tkZ]
      have HO9 := Lh (own_ext HOL.out.2.2.2.1 (X8.out.alloc (.cells #[.int .i64 nx, .slice pa x.ks.length pc, .int .i64 x.pr, .int .i64 x.cl.a, .slice qa x.cl.ar.length qc] 151)))
      have HS9 := Lh (src_agg w8 [.int .i64 nx, .slice pa x.ks.length pc, .int .i64 x.pr, .int .i64 x.cl.a, .slice qa x.cl.ar.length qc] 151 (by simp [Value.oneCell']))
      go_wp2_with (at_builtin; refine wpList_append_fresh rfl (.tmp 106) (.tmp 111) 68 rfl 0 151 (.agg (Yq18 )) 5 72 Tryz.underlying68 cinf_Row rfl (by decide) (.slice ra rs.length rc) (rs.length) (css.flatten) rfl HO9.out _ 1 [.int .i64 nx, .slice pa x.ks.length pc, .int .i64 x.pr, .int .i64 x.cl.a, .slice qa x.cl.ar.length qc] rfl HS9.out ?d1 ?d2 ?d3 ?_)
      case d1 => unfold maxLen; omega
      case d2 => omega
      case d3 => exact Nat.zero_le _
      intro v' w9 hown hgr hfr
      obtain ⟨o3, c3, rfl⟩ := own_slice hown
      have hk9 : Kp Tj.Leaf w7 w9 := (Kp.ext (X8.out.alloc _)).trans (Kp.grown hgr HO9.out (by decide))
      have HN9 : Hid (Tj.RwsO 0 w9 (.slice o3 (rs.length + 1) c3) (rs ++ [⟨nx, x⟩])) := Lh ⟨_, Tj.OLc.push HOL.out (fun _ _ h => h.kp hk9) hown ⟨_, rfl, HNX.out, (R3.out.kp (Kp.ext ((eR w8).alloc _))).kp (Kp.grown hgr HO9.out (by decide))⟩ rfl (by simp [Value.oneCell'])⟩
      have HF9 : Hid (∀ k, (Value.slice o3 (rs.length + 1) c3).ownBlock = some k → (Value.slice ra rs.length rc).ownBlock = some k ∨ w8.heap.size ≤ k) := Lh (fun k hk => by
       rcases hfr with h | h
       ·left; rw [← h]; exact hk
       ·right; have := h k hk; (try simp only [szA] at this); omega)
      have HM9 : Hid (Mod (fun k => (Value.slice ra rs.length rc).ownBlock = some k) w8 w9) := Lh (((Mod.refl _ w8).alloc _).trans ((grown_mod hgr).mono (fun i _ h => h.symm)))
      have nb : ∀ k, (Value.slice ra rs.length rc).ownBlock = some k → k ≠ sp ∧ k ≠ w.heap.size ∧ k ≠ g0 := fun k hk => ⟨(HSL.out k (HST.out.sr t _ k HRV.out hk)).2, by have := (HSL.out k (HST.out.sr t _ k HRV.out hk)).1; omega, fun e => by
       subst e
       obtain ⟨cu2, h2⟩ := row_heap HOL.out.2.2.2.1 hk
       rw [HCU.out] at h2; simp only [Option.some.injEq, Obj.cells.injEq] at h2; exact absurd h2.2.1 (by decide)⟩
      have cm : ∀ (p : Addr) (v : Value), w8.cell? p = some v → (Value.slice ra rs.length rc).ownBlock ≠ some p.block → w9.cell? p = some v := fun p v h hn => LaterM.cell h hn ⟨w9, HM9.out⟩
      have HC9 : Hid (CC w9) := Lh (by
       rw [HCC.out]
       exact ⟨cm _ _ (X8.out.cell P0.out) (fun e => (nb _ e).1 rfl), cm _ _ (X8.out.cell P1.out) (fun e => (nb _ e).2.1 rfl), cm _ _ (X8.out.cell P2.out) (fun e => (nb _ e).2.1 rfl), cm _ _ (X8.out.cell P3.out) (fun e => (nb _ e).2.1 rfl), cm _ _ (X8.out.cell P4.out) (fun e => (nb _ e).2.1 rfl), cm _ _ (X8.out.cell P5.out) (fun e => (nb _ e).2.2 rfl)⟩)
      have z5 : w9.cell? ⟨g0, t, none⟩ = some (.slice ra rs.length rc) := cm _ _ (X8.out.cell P5.out) (fun e => (nb _ e).2.2 rfl)
      have zf : w9.frozen? ⟨g0, t, none⟩ = false := free_of (HM9.out.heap (X8.out.heap HCU.out) (fun e => (nb _ e).2.2 rfl))
      clear hown hgr hfr hk9 nb cm
      go_wp2_with fail
      refine RelD.next_mk (fun _ => HC9.out) ?_
      refine RelD.chunkL (k' := 21) 1 1 (by kernel_rfl) rfl (by kernel_rfl) HC9.out ?_
      simp only [dpZ, dpS, tkS, tkZ]
      repeat (go_big_quiet_step (fail))
      refine wpQuiet_nil ?_
      refine RelD.realL (k' := 22) 0 (by kernel_rfl) rfl (by kernel_rfl) ?_
      simp only [dpZ, dpS, tkS, tkZ]
      go_wp2_with fail
      refine RelD.next_mk (fun h => absurd h (by decide)) ?_
      refine RelD.doneL (by kernel_rfl) (by kernel_rfl) ?_
      have hbx9 := HM9.out.heap (X8.out.heap HBX7.out) (fun e => (HSL.out sp (HS7.out.sr t _ sp HRV.out e)).2 rfl)
      have hle9 := HM9.out.size
      have hle8 := X8.out.le
      obtain ⟨w10, hw10⟩ : ∃ z, z = w9.setCell ⟨g0, t, none⟩ (.slice o3 (rs.length + 1) c3) := ⟨_, rfl⟩
      rw [← hw10]
      have hset := (HS7.out.ext X8.out).setRow (t := t) (g0 := g0) HRS.out HRV.out rfl HM9.out HN9.out HF9.out (by
       have h := Tj.insC_inv (t := t) (x := x) HST.out.inv (by have := Tj.entE_sz HST.out.sz HEE.out.symm; exact ⟨by omega, this.2.2⟩) (by unfold Tj.rowsAt; rw [Int.toNat_natCast, List.getD_eq_getElem?_getD, HRS.out]; show rs.length < _; omega)
       obtain ⟨i1, i2, i3, j0, j1, j2, j3, j4, j5, j6⟩ := h
       unfold Tj.insC Tj.rowsAt Tj.nxAt at i1 j0 j1
       rw [Int.toNat_natCast, List.getD_eq_getElem?_getD, HRS.out, List.getD_eq_getElem?_getD, HNXG.out] at i1 j0 j1
       exact ⟨i1, HST.out.inv.nn, i3, j0, j1, HST.out.inv.cb.nx, j3, j4, j5, j6⟩)
      rw [← hw10] at hset
      have HS10 := Lh hset.1
      have HM10 := Lh hset.2
      have hle10 : w10.heap.size = w9.heap.size := by rw [hw10]; simp
      have hbx10 := Tj.heap_set (g := g0) (o := t) (v := .slice o3 (rs.length + 1) c3) hbx9 (fun e => (HSL.out g0 (HST.out.s0 g0 rfl)).2 e.symm)
      rw [← hw10] at hbx10
      clear hset hw10 hbx9
      have k0 := alw (cQ 0 hbx10)
      have k1 := alw (cQ 1 hbx10)
      have k2 := alw (cQ 2 hbx10)
      have k3 := alw (cQ 3 hbx10)
      have k4 := alw (cQ 4 hbx10)
      have k5 := alw (cQ 5 hbx10)
      have k6 := alw (cQ 6 hbx10)
      have k7 := alw (cQ 7 hbx10)
      have k8 := alw (cQ 8 hbx10)
      have k9 := alw (cQ 9 hbx10)
      have k10 := alw (cQ 10 hbx10)
      have k11 := alw (cQ 11 hbx10)
      have k12 := alw (cQ 12 hbx10)
      have k13 := alw (cQ 13 hbx10)
      have k14 := alw (cQ 14 hbx10)
      have HBX10 := Lh hbx10
      clear hbx10
      have gn := alw (own_get (u := .int .i64 nx) HS10.out.cfg.nx.1 (by
       show (C.nx.map (Value.int .i64))[t]? = _
       rw [List.getElem?_map, HNXG.out]; rfl))
      have fn10 : w10.frozen? ⟨g1, t, none⟩ = false := by
       obtain ⟨cu, hcu⟩ := row_heap HS10.out.cfg.nx.1 (k := g1) rfl
       exact free_of hcu
      go_wp2_with fail
      obtain ⟨w11, hw11⟩ : ∃ z, z = w10.setCell ⟨g1, t, none⟩ (.int .i64 (nx + 1)) := ⟨_, rfl⟩
      rw [← hw11]
      have hset := HS10.out.setNx (t := t) (g := g1) (x := nx + 1) rfl (show t < C.nx.length by omega) ⟨by omega, by omega⟩
      rw [← hw11] at hset
      have HS11 := Lh hset.1
      have HM11 := Lh hset.2
      have hle11 : w11.heap.size = w10.heap.size := by rw [hw11]; simp
      have hbx11 := Tj.heap_set (g := g1) (o := t) (v := .int .i64 (nx + 1)) HBX10.out (fun e => (HSL.out g1 (HST.out.s1 g1 rfl)).2 e.symm)
      rw [← hw11] at hbx11
      have HBX11 := Lh hbx11
      clear hset hw11 hbx11 gn fn10 k0 k1 k2 k3 k4 k5 k6 k7 k8 k9 k10 k11 k12 k13 k14
      refine bodyPost_ret (v := .tuple #[.int .i64 nx, .int .i64 R]) (by simp [results, Tryz.results148, go_sem, HE.out]) rfl ?_
      refine ⟨_, rfl, Tj.ChP.good HE.out ⟨?_, fun k => S k ∨ (w8.heap.size ≤ k ∧ k < w9.heap.size), ?_, HBX11.out, ?_, vs.set t (.slice o3 (rs.length + 1) c3), ms, ?_⟩⟩
      ·have ha : Mod S w w8 := HM67.out.trans (Mod.of_ext X8.out)
       have hb : Mod S w w10 := ha.trans HM10.out
       exact hb.comp HM11.out (fun i hi h => by
        rcases h with h | ⟨h, _⟩
        ·exact h
        ·omega)
      ·intro k hk
       rcases hk with hk | ⟨h1, h2⟩
       ·exact .inl hk
       ·exact .inr ⟨by omega, by omega⟩
      ·intro k hk
       rcases hk with hk | ⟨h1, h2⟩
       ·have := HSL.out k hk; exact ⟨by omega, this.2⟩
       ·exact ⟨by omega, by omega⟩
      ·have hC : Tj.insC C t x = { C with rows := C.rows.set t (rs ++ [⟨nx, x⟩]), nx := C.nx.set t (nx + 1) } := by
        unfold Tj.insC Tj.rowsAt Tj.nxAt
        rw [Int.toNat_natCast, List.getD_eq_getElem?_getD, HRS.out, List.getD_eq_getElem?_getD, HNXG.out]; rfl
       rw [hC]
       refine HS11.out.fsEq (fun i hi => ?_)
       by_cases e : i = t
       ·subst e
        rw [if_pos rfl, Tj.ixs_at (rs := rs ++ [⟨nx, x⟩]) (by show (C.rows.set i _)[i]? = _; rw [List.getElem?_set_self htl])]
        rw [List.length_append]
        simp only [Prod.mk.injEq]
        exact ⟨rfl, funext fun s => Tj.pos_snoc rs ⟨nx, x⟩ s⟩
       ·rw [if_neg e]
        unfold Tj.ixs
        show ((List.getD (C.rows.set t _) i []).length, _) = _
        rw [List.getD_eq_getElem?_getD, List.getD_eq_getElem?_getD, List.getElem?_set_ne (fun h => e h.symm)]
  ·have z1 : (ee != 0) = true := nT hz
   rw [if_pos hz] at hR
   have HE : Hid (R = ee) := Lh hR
   have HZ := Lh hz
   clear hR hz
   go_enter Tryz.func148, Tryz.ntmps148
   go_wp2_with fail
   refine via (HTB.out _ grows) fun w3 xw3 sw3 => ?_
   go_wp2_with fail
   refine wp_region_later (W := w3) (by kernel_rfl) (by kernel_rfl) (eR _) ?_
   repeat (go_big_quiet_step (first | (go_at_call 141; exact Rets.later_at (HEN.out _ grows)) | fail))
   refine wpQuiet_nil ?_
   intro w4 x4
   have s4 := Sm x4
   go_wp2_with fail
   exact bodyPost_ret (v := .tuple #[.int .i64 0, .int .i64 (R)]) (by simp [results, Tryz.results148, go_sem, HE.out]) rfl ⟨_, rfl, ChP_bad (by rw [HE.out]; exact HZ.out) grows⟩
end Go.Proofs.YthmokhkkdgnbhaaGreat
