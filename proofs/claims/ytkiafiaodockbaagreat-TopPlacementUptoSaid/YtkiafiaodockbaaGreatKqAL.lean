/- The units of a program: the visit of a list of nodes, walked. Units that exclude each other: units.Exclusive; deps.guarded, walked. No condition. -/
import Derived.Test.YtkiafiaodockbaaGreatKqAK
import Derived.BigQuiet
import Derived.Laws.StructEq
set_option maxRecDepth 8000
set_option maxHeartbeats 16000000
namespace Go.Proofs.YtkiafiaodockbaaGreat
open Go.RowKit
theorem cinf_unit : (Tryz.prog.info? 111).map (fun i => (i.zero, i.size, i.bytes)) = some (some (.agg #[.int .i64 0, .slice none 0 0, .slice none 0 0]), 3, 56) := by kernel_rfl
namespace Pl
open Tj
/-- the variables of Build while it goes through the nodes: the units so far; the visit itself -/
structure VisS (W : World) (bl bv : Nat) (us : List Un) (w : World) : Prop where
 x : Ext W w
 hl : ∃ lv css, w.heap[bl]? = some (.cells #[lv] 67 (0, 0)) ∧ OLc (bl + 1) 111 3 (UnO (bl + 1)) w lv us css
 hv : w.heap[bv]? = some (.cells #[.func (.func 56) #[] #[.pointer (some ⟨bl, 0, none⟩), .pointer (some ⟨bv, 0, none⟩)]] 143 (0, 0))
 o : W.heap.size ≤ bl ∧ bl < bv
theorem olc_ext {α : Type} {B : Nat} {T : TypeId} {sz : Nat} {R : World → List Value → α → Prop} {w w' : World} {v : Value} {l : List α} {css : List (List Value)} (h : OLc B T sz R w v l css) (hx : Ext w w') (hR : ∀ cs d, R w cs d → R w' cs d) : OLc B T sz R w' v l css := by
 obtain ⟨h1, h2, h3, h4, h5⟩ := h
 exact ⟨h1, h2, h3, own_ext h4 hx, fun i cs d a b => hR _ _ (h5 i cs d a b)⟩
theorem VisS.ext {W w w' : World} {bl bv : Nat} {us : List Un} (h : VisS W bl bv us w) (hx : Ext w w') : VisS W bl bv us w' := by
 obtain ⟨lv, css, h1, h2⟩ := h.hl
 exact ⟨h.x.trans hx, ⟨lv, css, hx.heap h1, olc_ext h2 hx (fun _ _ h => h.kp (Kp.ext hx))⟩, hx.heap h.hv, h.o⟩
/-- what a visit leaves -/
def VisP (W : World) (bl bv : Nat) (us : List Un) (w : World) (e : Ending) (w' : World) : Prop := e = .returned (.tuple #[]) ∧ VisS W bl bv us w' ∧ Kp KV w w'
theorem uns_next {ns : List NT} (hw : ∀ x ∈ ns, WF x.d.th x.tl ∧ WF x.d.el x.el) {k : Nat} {x : NT} (hk : ns[k]? = some x) (gs : Gs) (i : Int) :
 uns (k + 1) (flat (ns.take (k + 1))) gs i = uns k (flat (ns.take k)) gs i ++ (un x.d gs :: (uns x.d.th x.tl (gs ++ [(i + (flat (ns.take k)).length, true)]) (i + (flat (ns.take k)).length + 1) ++ uns x.d.el x.el (gs ++ [(i + (flat (ns.take k)).length, false)]) (i + (flat (ns.take k)).length + 1 + x.tl.length))) := by
 have hlt := (List.getElem?_eq_some_iff.1 hk).1
 have h1 : WF k (flat (ns.take k)) := by
  have h := flat_wf (ns.take k) (fun y hy => hw y (List.mem_of_mem_take hy))
  rwa [List.length_take, Nat.min_eq_left (Nat.le_of_lt hlt)] at h
 obtain ⟨h2, h3⟩ := hw x (List.mem_of_getElem? hk)
 rw [flat_take hk, uns_app h1 (.one h2 h3), uns_one h2 h3]
theorem uns_len {ns : List NT} (hw : ∀ x ∈ ns, WF x.d.th x.tl ∧ WF x.d.el x.el) {k : Nat} (hk : k ≤ ns.length) (gs : Gs) (i : Int) : (uns k (flat (ns.take k)) gs i).length = (flat (ns.take k)).length := by
 have h := flat_wf (ns.take k) (fun y hy => hw y (List.mem_of_mem_take hy))
 rw [List.length_take, Nat.min_eq_left hk] at h
 exact (uns_vis h gs i).1
theorem nodes_wf {n : Nat} {w : World} {v : Value} {ns : List NT} (h : Rows w 5 (NodeR n) v ns) : ∀ x ∈ ns, WF x.d.th x.tl ∧ WF x.d.el x.el := fun x hx => by
 obtain ⟨i, hi⟩ := List.getElem?_of_mem hx
 rcases h with ⟨_, rfl⟩ | ⟨ad, c, _, _, _, _, h4⟩
 ·simp at hi
 ·obtain ⟨_, _, ⟨cv, tv, ev, _, _, _, g4, g5⟩, _⟩ := h4 i x hi
  exact ⟨ctl_wf g4, ctl_wf g5⟩
/-- a unit is put at the list's end -/
theorem VisS.push {W w w1 wE : World} {bl bv : Nat} {us : List Un} {lv v' : Value} {css : List (List Value)} {cs : List Value} {u : Un} (h : VisS W bl bv us w) (hb : w.heap[bl]? = some (.cells #[lv] 67 (0, 0))) (hO : OLc (bl + 1) 111 3 (UnO (bl + 1)) w lv us css) (hx : Ext w w1) (hown : wE.ownsRow (bl + 1) 111 3 v' (us.length + 1) (css.flatten ++ cs)) (hgr : w1.grownBy wE lv.ownBlock)
 (hu : UnO (bl + 1) w1 cs u) (hl : cs.length = 3) (hc : ∀ u ∈ cs, u.oneCell' = true) : VisS W bl bv (us ++ [u]) (wE.setCell ⟨bl, 0, none⟩ v') ∧ Kp KV w (wE.setCell ⟨bl, 0, none⟩ v') := by
 have ho1 := own_ext hO.2.2.2.1 hx
 have hbE := (grown_mod hgr).heap (hx.heap hb) (fun hk => by have := (ho1.lt bl hk.symm).1; omega)
 have hkE : Kp KV w1 wE := Kp.grown hgr ho1 (by decide)
 have hm5 : Mod (fun k => k = bl) wE (wE.setCell ⟨bl, 0, none⟩ v') := Mod.setCell (S := fun k => k = bl) (p := ⟨bl, 0, none⟩) (Mod.refl _ _) (.inl rfl) _
 have hk5 : Kp KV wE (wE.setCell ⟨bl, 0, none⟩ v') := Kp.box hm5 hbE (by decide)
 have hkk : Kp KV w (wE.setCell ⟨bl, 0, none⟩ v') := (Kp.ext hx).trans (hkE.trans hk5)
 have hoo := h.o
 refine ⟨⟨?_, ⟨v', css ++ [cs], setCell_heap hbE, OLc.push hO (fun _ _ g => g.kp hkk) (own_mod hown hm5 (fun k hk e => by have := (hown.lt k hk).1; omega)) (hu.kp (hkE.trans hk5)) hl hc⟩, ?_, h.o⟩, hkk⟩
 ·have hmm : Mod (fun k => bl ≤ k) w (wE.setCell ⟨bl, 0, none⟩ v') := ((Mod.of_ext hx).trans ((grown_mod hgr).mono (fun k _ hk => by have := (ho1.lt k hk.symm).1; omega))).trans (hm5.mono (fun k _ hk => by omega))
  exact mod_low h.x hmm (fun k hk => by omega)
 ·refine hm5.heap ((grown_mod hgr).heap (hx.heap h.hv) (fun hk => ?_)) (by omega)
  obtain ⟨cur, hcur⟩ := row_heap ho1 hk.symm
  rw [hx.heap h.hv] at hcur
  simp at hcur
end Pl
theorem visit_any {W : World} {bl bv : Nat} : ∀ (n : Nat) (v : Value) (l : List Tj.CN) (d m : Nat), Tj.Ctl n W v l d m → (∀ x ∈ l, x.k = 2 → x.c.length ≤ 24) → ∀ (gs : Pl.Gs) (gv : Value) (us : List Pl.Un) (w : World), Pl.VisS W bl bv us w → w.ownsRow 0 146 2 gv gs.length (gs.flatMap Pl.guC) → us.length + l.length ≤ 1000 → gs.length + l.length ≤ 1000 →
 Calls Tryz.prog 56 #[v, gv, .pointer (some ⟨bl, 0, none⟩), .pointer (some ⟨bv, 0, none⟩)] w (Pl.VisP W bl bv (us ++ Pl.uns m l gs us.length) w) := by
 intro n
 induction n with
 | zero => intro v l d m h; exact h.elim
 | succ n ih =>
  intro v l d m h hcl gs gv us w hs hgo hlu hlg
  rw [Tj.ctl_succ] at h
  obtain ⟨ns, hns, rfl, rfl, rfl⟩ := h
  obtain ⟨oa, c, rfl, hlc, hcm⟩ := hns.slice
  obtain ⟨gva, gvc, rfl⟩ := own_slice hgo
  unfold maxLen at hcm
  have hwf := Pl.nodes_wf hns
  have HWF := Lh hwf
  have HNS := Lh hns
  have HIH := Lh ih
  have HCL := Lh hcl
  have HI0 : Hid (Pl.VisS W bl bv (us ++ Pl.uns 0 (Tj.flat (ns.take 0)) gs us.length) (w.alloc (.cells #[.slice gva gs.length gvc] 109)) ∧ Kp Pl.KV (w.alloc (.cells #[.slice gva gs.length gvc] 109)) (w.alloc (.cells #[.slice gva gs.length gvc] 109))) := Lh ⟨by
   rw [show Tj.flat (ns.take 0) = [] from rfl, Pl.uns_nil, List.append_nil]
   exact hs.ext grows, Kp.refl _ _⟩
  have HGO := Lh (own_ext hgo (grows (a := w) (b := (w.alloc (.cells #[.slice gva gs.length gvc] 109)))))
  have hbo := hs.o
  clear hns ih hs hgo hcl hwf
  unfold Pl.VisP
  go_enter Tryz.func56, Tryz.ntmps56
  go_wp2_with fail
  go_loopw [13] (fun q wr => ∃ k : Nat, k ≤ ns.length ∧ q = .int .i64 k ∧ Hid (Pl.VisS W bl bv (us ++ Pl.uns k (Tj.flat (ns.take k)) gs us.length) wr ∧ Kp Pl.KV (w.alloc (.cells #[.slice gva gs.length gvc] 109)) wr)) (fun q _ => ns.length - (intOf q).toNat)
  case atStart => exact ⟨0, Nat.zero_le _, rfl, HI0⟩
  case round =>
   obtain ⟨k, hk1, rfl, HZ⟩ := hrel
   by_cases hlt : k < ns.length
   ·have sx : Step W wr := ⟨HZ.out.1.x⟩
    obtain ⟨x, hk⟩ : ∃ x, ns[k]? = some x := ⟨_, gE hlt⟩
    obtain ⟨b, o, rfl, _, _⟩ := Rows.at HNS.out (by omega)
    obtain ⟨ca, cc, ta, tn, tc, ea, en, ec, _, hcx, htl, hel, ⟨rfl, rfl⟩, g0, g1, g2, g3, g4⟩ := Tj.nodes_at HNS.out k x hk rfl
    have y0 := alw g0
    have y1 := alw g1
    have y2 := alw g2
    have y3 := alw g3
    have y4 := alw g4
    have hsp := Tj.flat_split hk
    have hlen : (Tj.flat (ns.take k)).length + (1 + (x.tl.length + x.el.length)) ≤ (Tj.flat ns).length := by
     rw [hsp]; simp only [List.length_append, List.length_cons]; omega
    have hul := Pl.uns_len HWF.out (Nat.le_of_lt hlt) gs us.length
    have hnx := Pl.uns_next HWF.out hk gs us.length
    obtain ⟨U0, hU0⟩ : ∃ z, z = us ++ Pl.uns k (Tj.flat (ns.take k)) gs us.length := ⟨_, rfl⟩
    have hU0l : U0.length = us.length + (Tj.flat (ns.take k)).length := by rw [hU0, List.length_append, hul]
    have hcast : (us.length : Int) + (Tj.flat (ns.take k)).length = (U0.length : Int) := by rw [hU0l]; rfl
    rw [hcast] at hnx
    have hmem : ∀ y ∈ x.d :: (x.tl ++ x.el), y ∈ Tj.flat ns := fun y hy => by
     rw [hsp]; exact List.mem_append_left _ (List.mem_append_right _ hy)
    have hcd : x.d.k = 2 → x.d.c.length ≤ 24 := HCL.out x.d (hmem _ List.mem_cons_self)
    have HTL : Hid (∀ (gs' : Pl.Gs) (u : Pl.Un), ∀ {gv' : Value} {w' : World}, Pl.VisS W bl bv (U0 ++ [u]) w' → w'.ownsRow 0 146 2 gv' gs'.length (gs'.flatMap Pl.guC) → U0.length + 1 + x.tl.length ≤ 1000 → gs'.length + x.tl.length ≤ 1000 → Calls Tryz.prog 56 #[.slice ta x.d.th tc, gv', .pointer (some ⟨bl, 0, none⟩), .pointer (some ⟨bv, 0, none⟩)] w' (Pl.VisP W bl bv (U0 ++ [u] ++ Pl.uns x.d.th x.tl gs' (U0.length + 1)) w')) := Lh (fun gs' u gv' w' h1 h2 h3 h4 => by
     have h := HIH.out _ _ _ _ htl (fun y hy => HCL.out y (hmem _ (List.mem_cons_of_mem _ (List.mem_append_left _ hy)))) gs' gv' (U0 ++ [u]) w' h1 h2 (by rw [List.length_append]; exact h3) h4
     rw [show ((U0 ++ [u]).length : Int) = (U0.length : Int) + 1 by rw [List.length_append]; rfl] at h
     exact h)
    have hutl : ∀ gs', (Pl.uns x.d.th x.tl gs' (U0.length + 1)).length = x.tl.length := fun gs' => (Pl.uns_vis (HWF.out x (List.mem_of_getElem? hk)).1 gs' _).1
    have HEL : Hid (∀ (gs' gs'' : Pl.Gs) (u : Pl.Un), ∀ {gv' : Value} {w' : World}, Pl.VisS W bl bv (U0 ++ [u] ++ Pl.uns x.d.th x.tl gs' (U0.length + 1)) w' → w'.ownsRow 0 146 2 gv' gs''.length (gs''.flatMap Pl.guC) → U0.length + 1 + x.tl.length + x.el.length ≤ 1000 → gs''.length + x.el.length ≤ 1000 → Calls Tryz.prog 56 #[.slice ea x.d.el ec, gv', .pointer (some ⟨bl, 0, none⟩), .pointer (some ⟨bv, 0, none⟩)] w' (Pl.VisP W bl bv (U0 ++ [u] ++ Pl.uns x.d.th x.tl gs' (U0.length + 1) ++ Pl.uns x.d.el x.el gs'' (U0.length + 1 + x.tl.length)) w')) := Lh (fun gs' gs'' u gv' w' h1 h2 h3 h4 => by
     have hl9 : (U0 ++ [u] ++ Pl.uns x.d.th x.tl gs' (U0.length + 1)).length = U0.length + 1 + x.tl.length := by rw [List.length_append, hutl, List.length_append]; rfl
     have h := HIH.out _ _ _ _ hel (fun y hy => HCL.out y (hmem _ (List.mem_cons_of_mem _ (List.mem_append_right _ hy)))) gs'' gv' _ w' h1 h2 (by rw [hl9]; exact h3) h4
     rw [show ((U0 ++ [u] ++ Pl.uns x.d.th x.tl gs' (U0.length + 1)).length : Int) = (U0.length : Int) + 1 + x.tl.length by rw [hl9]; rfl] at h
     exact h)
    have HNX : Hid (∀ u, Pl.un x.d gs = u → us ++ Pl.uns (k + 1) (Tj.flat (ns.take (k + 1))) gs us.length = U0 ++ [u] ++ Pl.uns x.d.th x.tl (gs ++ [((U0.length : Int), true)]) (U0.length + 1) ++ Pl.uns x.d.el x.el (gs ++ [((U0.length : Int), false)]) (U0.length + 1 + x.tl.length)) := Lh (fun u hu => by
     rw [hnx, ← List.append_assoc, ← hU0, hu]; simp)
    have HVR : Hid (Pl.VisS W bl bv U0 wr) := Lh (by rw [hU0]; exact HZ.out.1)
    have HKR := Lh HZ.out.2
    have HGR : Hid (wr.heap[w.heap.size]? = some (.cells #[.slice gva gs.length gvc] 109 (0, 0))) := Lh (HZ.out.2 _ _ _ _ (by decide) (aH w _))
    have HOR := Lh (own_kp HGO.out HZ.out.2 (by decide))
    have HCG : Hid (∀ w', Ext wr w' → Calls Tryz.prog 57 #[.slice gva gs.length gvc] w' (RowP w' 146 2 gs.length (gs.flatMap Pl.guC))) := Lh (fun w' hx => clone_grd ((own_src HOR.out (Pl.guC_all gs)).ext hx) (by omega))
    have HCX := Lh hcx
    have gr0 := alw (cQ 0 HGR.out)
    have bx := aH wr (.cells (Yq4 x ca cc ta tc ea ec) 101)
    have nd0 := alw (cQ 0 bx)
    have nd1 := alw (cQ 1 bx)
    have nd2 := alw (cQ 2 bx)
    have nd3 := alw (cQ 3 bx)
    have nd4 := alw (cQ 4 bx)
    clear bx
    have hblt : bl < wr.heap.size := by obtain ⟨_, _, h, _⟩ := HVR.out.hl; exact lt_of_block h
    have hUb : U0.length + 1 + x.tl.length + x.el.length ≤ 1000 := by omega
    have hGb : gs.length + 1 + x.tl.length ≤ 1000 ∧ gs.length + 1 + x.el.length ≤ 1000 := by omega
    obtain ⟨hGb1, hGb2⟩ := hGb
    clear hk hcx htl hel g0 g1 g2 g3 g4 hsp hlen hul hnx hU0 hU0l hcast hmem hutl HZ hlu hlg
    go_upto_region 4 with (fail)
    refine Rel.region_tail (W := (wr.alloc (.cells (Yq4 x ca cc ta tc ea ec) 101))) 6 (Rel.tab [(3, fun v w => w.ownsRow (wr.alloc (.cells (Yq4 x ca cc ta tc ea ec) 101)).heap.size 146 2 v gs.length (gs.flatMap Pl.guC)), (5, fun v w => ∃ g, v = .pointer (some ⟨g, 0, none⟩) ∧ Rel.Fresh (wr.alloc (.cells (Yq4 x ca cc ta tc ea ec) 101)) g (.cells #[.int .i64 0, .slice none 0 0, .slice none 0 0] 111 (0, 0)) w)]) (Rel.tab_lasts (by intro p hp v w w' hr hx; simp only [List.mem_cons, List.not_mem_nil, or_false] at hp; rcases hp with rfl | rfl; (· exact own_ext hr hx); (· obtain ⟨g, h1, h2⟩ := hr; exact ⟨g, h1, h2.ext hx⟩))) (by kernel_rfl) (by kernel_rfl) (eR _) ?_
    simp only [tkS, tkZ]
    refine Rel.chunkT 3 rfl rfl rfl ?_
    simp only [tkS, tkZ, dpS, dpZ, Nat.reduceAdd]
    repeat (go_big_quiet_step (fail))
    refine wpQuiet_nil ?_
    refine Rel.callG _ rfl rfl rfl Tryz.func57 (by nofun) (by decide) #[.slice gva gs.length gvc] rfl (fun w hx _ => by refine (HCG.out w ((grows (a := wr) (b := (wr.alloc (.cells (Yq4 x ca cc ta tc ea ec) 101)))).trans hx)).mono ?_; rintro e w9 ⟨v9, h1, h2, h3⟩; exact ⟨_, h1, h2, own_base h3 hx.le⟩) ?_
    intro u1 v1 _ _ r1
    obtain ⟨ga1, gc1, rfl⟩ := own_slice r1
    clear r1
    simp only [Act.put, stA, stS, stZ]
    refine Rel.chunkT 1 rfl rfl rfl ?_
    simp only [tkS, tkZ, dpS, dpZ, Nat.reduceAdd]
    repeat (go_big_quiet_step (fail))
    refine wpQuiet_nil ?_
    refine Rel.fresh (fun g => .pointer (some ⟨g, 0, none⟩)) (.cells #[.int .i64 0, .slice none 0 0, .slice none 0 0] 111 (0, 0)) rfl rfl rfl (fun w hx => by kernel_rfl) ?_
    intro g5 y5 _ _ h5
    clear h5
    simp only [Act.put, stA, stS, stZ]
    refine Rel.fin ?_
    intro w7 x7 hf7
    have ho7 := (hf7 3).1.2 rfl
    obtain ⟨g7, e7, hg7⟩ := (hf7 5).2 rfl
    simp only [Value.pointer.injEq, Option.some.injEq, Addr.mk.injEq, and_true] at e7
    subst e7
    have s7 := Sm x7
    have HO7 := Lh ho7
    have HX7 := Lh x7
    have HG7 := Lh hg7
    have hg5 : wr.heap.size + 1 ≤ g5 := by have := hg7.1; rw [szA] at this; exact this
    clear hf7 ho7 hg7 x7
    go_wp2_with (refine wpList_store_box rfl 111 (.tmp 8) (.tmp 21) rfl g5 #[.int .i64 x.d.t, .slice none 0 0, .slice ga1 gs.length gc1] rfl rfl 111 #[.int .i64 0, .slice none 0 0, .slice none 0 0] HG7.out.2 (by kernel_rfl) rfl (by simp [Value.oneCell']) ?_)
    intro w8 hm8 hb8
    have HX8 : Hid (Ext (wr.alloc (.cells (Yq4 x ca cc ta tc ea ec) 101)) w8) := Lh (((Mod.of_ext HX7.out).trans hm8).ext (fun q hq => by rw [szA]; omega))
    have HO8 := Lh (own_mod HO7.out hm8 (fun q hq e => by
     subst e
     obtain ⟨cu, hcu⟩ := row_heap HO7.out hq
     rw [HG7.out.2] at hcu
     simp at hcu))
    have HB8 := Lh hb8
    have s8 : Step (wr.alloc (.cells (Yq4 x ca cc ta tc ea ec) 101)) w8 := ⟨HX8.out⟩
    clear hm8 hb8
    by_cases hkd : x.d.k = 2
    ·have z1 : (x.d.k == 2) = true := bT hkd
     have hcd2 := hcd hkd
     have HKD := Lh hkd
     have b80 : w8.cell? ⟨g5, 0, none⟩ = some (.int .i64 x.d.t) := cQ 0 HB8.out
     have f80 : w8.frozen? ⟨g5, 0, none⟩ = false := free_of HB8.out
     clear hcd hkd
     go_wp2_with (refine wpList_store_cellK rfl 3 (.tmp 25) (.const (.int .i64 (-1))) rfl g5 0 (.int .i64 x.d.t) (.int .i64 (-1)) rfl rfl (by kernel_rfl) rfl b80 f80 ?_)
     intro w9 hw9
     have hm9 : Mod (· = g5) w8 w9 := by rw [hw9.out]; exact Mod.setCell (S := fun k => k = g5) (p := ⟨g5, 0, none⟩) (Mod.refl _ _) (.inl rfl) _
     have HB9 : Hid (w9.heap[g5]? = some (.cells #[.int .i64 (-1), .slice none 0 0, .slice ga1 gs.length gc1] 111 (0, 0))) := Lh (by rw [hw9.out]; exact setCell_heap HB8.out)
     have HX9 : Hid (Ext (wr.alloc (.cells (Yq4 x ca cc ta tc ea ec) 101)) w9) := Lh (((Mod.of_ext HX8.out).trans hm9).ext (fun q hq => by rw [szA]; omega))
     have HO9 := Lh (own_mod HO8.out hm9 (fun q hq e => by
      subst e
      obtain ⟨cu, hcu⟩ := row_heap HO8.out hq
      rw [HB8.out] at hcu
      simp at hcu))
     have s9 : Step (wr.alloc (.cells (Yq4 x ca cc ta tc ea ec) 101)) w9 := ⟨HX9.out⟩
     clear hw9 hm9 b80 f80
     go_wp2_with fail
     refine (clone_exn (rows_src Pl.enC (by decide) (fun _ => rfl) (fun d u hu => by simp only [Pl.enC, List.mem_cons, List.not_mem_nil, or_false] at hu; rcases hu with rfl | rfl | rfl <;> rfl) (fun cs d h => h.1) (HCX.out.ext (grows (a := W) (b := w9)))) (by omega)).mono ?_
     rintro e wA ⟨vA, rfl, xA, oA⟩
     obtain ⟨ea1, ec1, rfl⟩ := own_slice oA
     have sA := Sm xA
     have HXA := Lh xA
     have HOA := Lh oA
     have bA1 : wA.cell? ⟨g5, 1, none⟩ = some (.slice none 0 0) := HXA.out.cell (cQ 1 HB9.out)
     have fA1 : wA.frozen? ⟨g5, 1, none⟩ = false := free_of (HXA.out.heap HB9.out)
     clear xA oA
     go_wp2_with (refine wpList_store_cellK rfl 86 (.tmp 29) (.tmp 28) rfl g5 1 (.slice none 0 0) (.slice ea1 x.d.c.length ec1) rfl rfl (by kernel_rfl) rfl bA1 fA1 ?_)
     intro wB hwB
     have hmB : Mod (· = g5) wA wB := by rw [hwB.out]; exact Mod.setCell (S := fun k => k = g5) (p := ⟨g5, 1, none⟩) (Mod.refl _ _) (.inl rfl) _
     have HUB : Hid (wB.heap[g5]? = some (.cells #[.int .i64 (-1), .slice ea1 x.d.c.length ec1, .slice ga1 gs.length gc1] 111 (0, 0))) := Lh (by rw [hwB.out]; exact setCell_heap (HXA.out.heap HB9.out))
     have HXB : Hid (Ext (wr.alloc (.cells (Yq4 x ca cc ta tc ea ec) 101)) wB) := Lh (((Mod.of_ext (HX9.out.trans HXA.out)).trans hmB).ext (fun q hq => by rw [szA]; omega))
     have HCV0 := Lh (own_mod HOA.out hmB (fun q hq e => by
      subst e
      obtain ⟨cu, hcu⟩ := row_heap HOA.out hq
      rw [HXA.out.heap HB9.out] at hcu
      simp at hcu))
     have HGV0 := Lh (own_mod (own_ext HO9.out HXA.out) hmB (fun q hq e => by
      subst e
      obtain ⟨cu, hcu⟩ := row_heap (own_ext HO9.out HXA.out) hq
      rw [HXA.out.heap HB9.out] at hcu
      simp at hcu))
     have hle9 := HX9.out.size
     rw [szA] at hle9
     have HCVO : Hid ((∀ {wz : World} [Grows wB wz], wz.ownsRow (bl + 1) 85 3 (.slice ea1 x.d.c.length ec1) x.d.c.length (x.d.c.flatMap Pl.enC)) ∧ ∀ y ∈ x.d.c, Tj.B64 y.op ∧ Tj.B64 y.n ∧ Tj.B64 y.w) := Lh ⟨fun {wz} _ => own_ext (own_base HCV0.out (by omega)) grows, fun y hy => by
      obtain ⟨i, hi⟩ := List.getElem?_of_mem hy
      rcases HCX.out with ⟨_, h0⟩ | ⟨ad, c', _, _, _, _, h4⟩
      ·rw [h0] at hi; simp at hi
      ·obtain ⟨cs, _, h5, _⟩ := h4 i y hi
       exact h5.2⟩
     have HGVO := Lh (own_base HGV0.out (show bl + 1 ≤ (wr.alloc (.cells (Yq4 x ca cc ta tc ea ec) 101)).heap.size by rw [szA]; omega))
     have sB : Step (wr.alloc (.cells (Yq4 x ca cc ta tc ea ec) 101)) wB := ⟨HXB.out⟩
     clear hwB hmB bA1 fA1 HCV0 HGV0
     have HVB : Hid (Pl.VisS W bl bv U0 wB) := Lh (HVR.out.ext ((grows (a := wr) (b := (wr.alloc (.cells (Yq4 x ca cc ta tc ea ec) 101)))).trans HXB.out))
     obtain ⟨lv, css, hlb, hol⟩ := HVB.out.hl
     obtain ⟨la, lc, rfl⟩ := own_slice hol.2.2.2.1
     have HLB := Lh hlb
     have HOL := Lh hol
     have lb0 := alw (cQ 0 hlb)
     have lf0 : ((wB.alloc (.cells #[.int .i64 U0.length] 3)).alloc (.cells #[.int .i64 (-1), .slice ea1 x.d.c.length ec1, .slice ga1 gs.length gc1] 111)).frozen? ⟨bl, 0, none⟩ = false := free_of ((grows (a := wB) (b := ((wB.alloc (.cells #[.int .i64 U0.length] 3)).alloc (.cells #[.int .i64 (-1), .slice ea1 x.d.c.length ec1, .slice ga1 gs.length gc1] 111)))).heap hlb)
     have ub0 := alw (cQ 0 HUB.out)
     have ub1 := alw (cQ 1 HUB.out)
     have ub2 := alw (cQ 2 HUB.out)
     have HIC := Lh (aH wB (.cells #[.int .i64 U0.length] 3))
     have HSRC : Hid (Src ((wB.alloc (.cells #[.int .i64 U0.length] 3)).alloc (.cells #[.int .i64 (-1), .slice ea1 x.d.c.length ec1, .slice ga1 gs.length gc1] 111)) (.slice (some ⟨wB.heap.size + 1, 0, none⟩) 1 1) 3 1 [.int .i64 (-1), .slice ea1 x.d.c.length ec1, .slice ga1 gs.length gc1]) := Lh ⟨rfl, by intro u hu; simp only [List.mem_cons, List.not_mem_nil, or_false] at hu; rcases hu with rfl | rfl | rfl <;> rfl, .inr ⟨_, 1, rfl, fun j u hj => by
      have hd := aH (wB.alloc (.cells #[.int .i64 U0.length] 3)) (.cells #[.int .i64 (-1), .slice ea1 x.d.c.length ec1, .slice ga1 gs.length gc1] 111)
      rw [szA] at hd
      rw [add_mk, Nat.zero_add, cell_of hd]
      simpa using hj⟩⟩
     clear hlb hol
     go_wp2_with (at_builtin; refine wpList_append_fresh rfl (.tmp 32) (.tmp 34) 67 rfl (bl + 1) 111 (.agg #[.int .i64 0, .slice none 0 0, .slice none 0 0]) 3 56 Tryz.underlying67 cinf_unit rfl (by decide) (.slice la U0.length lc) U0.length _ rfl (own_ext HOL.out.2.2.2.1 (grows (a := wB) (b := ((wB.alloc (.cells #[.int .i64 U0.length] 3)).alloc (.cells #[.int .i64 (-1), .slice ea1 x.d.c.length ec1, .slice ga1 gs.length gc1] 111))))) _ 1 _ rfl HSRC.out ?d1 ?d2 ?d3 ?_)
     case d1 => unfold maxLen; omega
     case d2 => omega
     case d3 => (have := lt_of_block HLB.out; simp only [szA]; omega)
     intro v' wE hown hgr hfr
     obtain ⟨le, lce, rfl⟩ := own_slice hown
     have HPU := Lh (Pl.VisS.push (u := ⟨-1, x.d.c, gs⟩) HVB.out HLB.out HOL.out (grows (a := wB) (b := ((wB.alloc (.cells #[.int .i64 U0.length] 3)).alloc (.cells #[.int .i64 (-1), .slice ea1 x.d.c.length ec1, .slice ga1 gs.length gc1] 111)))) hown hgr ⟨_, _, rfl, ⟨HCVO.out.1, HCVO.out.2⟩, own_ext HGVO.out grows⟩ rfl (by intro u hu; simp only [List.mem_cons, List.not_mem_nil, or_false] at hu; rcases hu with rfl | rfl | rfl <;> rfl))
     have hbE := (grown_mod hgr).heap ((grows (a := wB) (b := ((wB.alloc (.cells #[.int .i64 U0.length] 3)).alloc (.cells #[.int .i64 (-1), .slice ea1 x.d.c.length ec1, .slice ga1 gs.length gc1] 111)))).heap HLB.out) (fun hk => by have := ((own_ext HOL.out.2.2.2.1 (grows (a := wB) (b := ((wB.alloc (.cells #[.int .i64 U0.length] 3)).alloc (.cells #[.int .i64 (-1), .slice ea1 x.d.c.length ec1, .slice ga1 gs.length gc1] 111))))).lt bl hk.symm).1; omega)
     have zE : wE.cell? ⟨bl, 0, none⟩ = some (.slice la U0.length lc) := cQ 0 hbE
     have zF : wE.frozen? ⟨bl, 0, none⟩ = false := free_of hbE
     have HKE : Hid (Kp Pl.KV ((wB.alloc (.cells #[.int .i64 U0.length] 3)).alloc (.cells #[.int .i64 (-1), .slice ea1 x.d.c.length ec1, .slice ga1 gs.length gc1] 111)) wE) := Lh (Kp.grown hgr (own_ext HOL.out.2.2.2.1 (grows (a := wB) (b := ((wB.alloc (.cells #[.int .i64 U0.length] 3)).alloc (.cells #[.int .i64 (-1), .slice ea1 x.d.c.length ec1, .slice ga1 gs.length gc1] 111))))) (by decide))
     have HBE := Lh hbE
     clear hown hgr hfr hbE lb0 lf0 ub0 ub1 ub2
     go_wp2_with (refine wpList_store_cellK rfl 67 (.tmp 2) (.tmp 35) rfl bl 0 (.slice la U0.length lc) (.slice le (U0.length + 1) lce) rfl rfl (by kernel_rfl) rfl zE zF ?_)
     intro wF hwF
     have hk5 : Kp Pl.KV wE wF := by rw [hwF.out]; exact Kp.box (g := bl) (Mod.setCell (S := fun k => k = bl) (p := ⟨bl, 0, none⟩) (Mod.refl _ _) (.inl rfl) _) HBE.out (by decide)
     rw [← hwF.out] at HPU
     have HKF : Hid (Kp Pl.KV ((wB.alloc (.cells #[.int .i64 U0.length] 3)).alloc (.cells #[.int .i64 (-1), .slice ea1 x.d.c.length ec1, .slice ga1 gs.length gc1] 111)) wF) := Lh (HKE.out.trans hk5)
     have HKW : Hid (Kp Pl.KV wr wF) := Lh ((Kp.ext ((grows (a := wr) (b := (wr.alloc (.cells (Yq4 x ca cc ta tc ea ec) 101)))).trans HXB.out)).trans HPU.out.2)
     have HVF := Lh HPU.out.1
     have HIt : Hid (wF.heap[wB.heap.size]? = some (.cells #[.int .i64 U0.length] 3 (0, 0))) := Lh (HKF.out _ _ _ _ (by decide) ((grows (a := (wB.alloc (.cells #[.int .i64 U0.length] 3))) (b := ((wB.alloc (.cells #[.int .i64 U0.length] 3)).alloc (.cells #[.int .i64 (-1), .slice ea1 x.d.c.length ec1, .slice ga1 gs.length gc1] 111)))).heap HIC.out))
     have HNt : Hid (wF.heap[wr.heap.size]? = some (.cells (Yq4 x ca cc ta tc ea ec) 101 (0, 0))) := Lh (HPU.out.2 _ _ _ _ (by decide) (HXB.out.heap (aH wr _)))
     have HGt := Lh (HKW.out _ _ _ _ (by decide) HGR.out)
     have HOt := Lh (own_kp HOR.out HKW.out (by decide))
     clear hwF hk5 zE zF HPU HBE HKE
     have fvt := alw (cQ 0 HVF.out.hv)
     have fnt := alw (cQ 3 HNt.out)
     go_wp2_with fail
     obtain ⟨CCt, hCCt⟩ : ∃ z : World → Prop, z = (fun w' => w'.cell? ⟨bv, 0, none⟩ = some (.func (.func 56) #[] #[.pointer (some ⟨bl, 0, none⟩), .pointer (some ⟨bv, 0, none⟩)]) ∧ w'.cell? ⟨wr.heap.size, 3, none⟩ = some (.slice ta x.d.th tc)) := ⟨_, rfl⟩
     have HCCt := Lh hCCt
     clear hCCt
     refine RelD.region CCt 5 (by kernel_rfl) ?_
     have cqat : ∀ y : Wh CCt, y.val.cell? ⟨bv, 0, none⟩ = some (.func (.func 56) #[] #[.pointer (some ⟨bl, 0, none⟩), .pointer (some ⟨bv, 0, none⟩)]) := fun y => by have h := Eq.mp (congrFun HCCt.out y.val) y.out; exact h.1
     have cqbt : ∀ y : Wh CCt, y.val.cell? ⟨wr.heap.size, 3, none⟩ = some (.slice ta x.d.th tc) := fun y => by have h := Eq.mp (congrFun HCCt.out y.val) y.out; exact h.2
     have HAt : Hid (CCt wF.drew) := Lh (by rw [HCCt.out]; exact ⟨fvt _, fnt _⟩)
     have hNEt : Nonempty (Wh CCt) := ⟨⟨_, HAt.out⟩⟩
     have hNTt : Nonempty (Wh (fun _ : World => True)) := ⟨⟨wF, trivial⟩⟩
     refine RelD.oneL 0 5 rfl (by kernel_rfl) HAt.out ?_
     simp only [dpZ, tkS, tkZ]
     repeat (go_big_quiet_step (fail))
     refine wpQuiet_nil ?_
     refine RelD.oneT 1 4 rfl (by kernel_rfl) (fun _ => HAt.out) ?_
     simp only [dpZ, dpS, tkS, tkZ]
     repeat (go_big_quiet_step (fail))
     refine wpQuiet_nil ?_
     refine RelD.oneL 2 3 rfl (by kernel_rfl) HAt.out ?_
     simp only [dpZ, dpS, tkS, tkZ]
     repeat (go_big_quiet_step (fail))
     refine wpQuiet_nil ?_
     refine RelD.oneT 3 2 rfl (by kernel_rfl) (fun _ => HAt.out) ?_
     simp only [dpZ, dpS, tkS, tkZ]
     repeat (go_big_quiet_step (fail))
     refine wpQuiet_nil ?_
     refine RelD.actL 4 1 rfl (by kernel_rfl) ?_
     simp only [dpZ, dpS, tkS, tkZ]
     go_wp2_with fail
     refine (branch_any (gv := .slice gva gs.length gvc) ((eR wF).drew.heap HGt.out) ((eR wF).drew.heap HIt.out) (own_ext HOt.out ((eR wF).drew)) (by omega) true).mono ?_
     rintro e wbt ⟨vbt, rfl, xbt, obt⟩
     obtain ⟨bat, bct, rfl⟩ := own_slice obt
     have HOBt : Hid (wbt.ownsRow 0 146 2 (.slice bat (gs.length + 1) bct) (gs ++ [((U0.length : Int), true)]).length ((gs ++ [((U0.length : Int), true)]).flatMap Pl.guC)) := Lh (own_base (by rw [List.length_append]; exact obt) (Nat.zero_le _))
     have HXBt : Hid (Ext wF wbt) := Lh ((eR wF).drew.trans xbt)
     have HBt : Hid (CCt wbt) := Lh (by rw [HCCt.out]; exact ⟨HXBt.out.cell (fvt wF), HXBt.out.cell (fnt wF)⟩)
     clear xbt obt
     go_wp2_with fail
     refine RelD.next_mk (fun _ => HBt.out) ?_
     refine RelD.actL 5 0 rfl (by kernel_rfl) ?_
     simp only [dpZ, dpS, tkS, tkZ]
     go_wp2_with fail
     have HCVt := Lh (HTL.out _ _ (HVF.out.ext HXBt.out) HOBt.out)
     have hglt : (gs ++ [((U0.length : Int), true)]).length = gs.length + 1 := by rw [List.length_append]; rfl
     refine (HCVt.out ?c1 ?c2).mono ?_
     case c1 => omega
     case c2 => omega
     rintro e w12 ⟨rfl, hst, hkt⟩
     clear HCVt HOBt
     go_wp2_with fail
     refine RelD.next_mk (fun h => absurd h (by decide)) ?_
     refine RelD.endL (by kernel_rfl) ?_
     have HVT := Lh hst
     have HKT := Lh (((Kp.ext HXBt.out).trans hkt))
     have HNe : Hid (w12.heap[wr.heap.size]? = some (.cells (Yq4 x ca cc ta tc ea ec) 101 (0, 0))) := Lh (HKT.out _ _ _ _ (by decide) HNt.out)
     have HIe := Lh (HKT.out _ _ _ _ (by decide) HIt.out)
     have HGe := Lh (HKT.out _ _ _ _ (by decide) HGt.out)
     have HOe := Lh (own_kp HOt.out HKT.out (by decide))
     clear hst hkt
     have fve := alw (cQ 0 HVT.out.hv)
     have fne := alw (cQ 4 HNe.out)
     go_wp2_with fail
     obtain ⟨CCe, hCCe⟩ : ∃ z : World → Prop, z = (fun w' => w'.cell? ⟨bv, 0, none⟩ = some (.func (.func 56) #[] #[.pointer (some ⟨bl, 0, none⟩), .pointer (some ⟨bv, 0, none⟩)]) ∧ w'.cell? ⟨wr.heap.size, 4, none⟩ = some (.slice ea x.d.el ec)) := ⟨_, rfl⟩
     have HCCe := Lh hCCe
     clear hCCe
     refine RelD.region CCe 5 (by kernel_rfl) ?_
     have cqae : ∀ y : Wh CCe, y.val.cell? ⟨bv, 0, none⟩ = some (.func (.func 56) #[] #[.pointer (some ⟨bl, 0, none⟩), .pointer (some ⟨bv, 0, none⟩)]) := fun y => by have h := Eq.mp (congrFun HCCe.out y.val) y.out; exact h.1
     have cqbe : ∀ y : Wh CCe, y.val.cell? ⟨wr.heap.size, 4, none⟩ = some (.slice ea x.d.el ec) := fun y => by have h := Eq.mp (congrFun HCCe.out y.val) y.out; exact h.2
     have HAe : Hid (CCe w12.drew) := Lh (by rw [HCCe.out]; exact ⟨fve _, fne _⟩)
     have hNEe : Nonempty (Wh CCe) := ⟨⟨_, HAe.out⟩⟩
     have hNTe : Nonempty (Wh (fun _ : World => True)) := ⟨⟨w12, trivial⟩⟩
     refine RelD.oneL 0 5 rfl (by kernel_rfl) HAe.out ?_
     simp only [dpZ, tkS, tkZ]
     repeat (go_big_quiet_step (fail))
     refine wpQuiet_nil ?_
     refine RelD.oneT 1 4 rfl (by kernel_rfl) (fun _ => HAe.out) ?_
     simp only [dpZ, dpS, tkS, tkZ]
     repeat (go_big_quiet_step (fail))
     refine wpQuiet_nil ?_
     refine RelD.oneL 2 3 rfl (by kernel_rfl) HAe.out ?_
     simp only [dpZ, dpS, tkS, tkZ]
     repeat (go_big_quiet_step (fail))
     refine wpQuiet_nil ?_
     refine RelD.oneT 3 2 rfl (by kernel_rfl) (fun _ => HAe.out) ?_
     simp only [dpZ, dpS, tkS, tkZ]
     repeat (go_big_quiet_step (fail))
     refine wpQuiet_nil ?_
     refine RelD.actL 4 1 rfl (by kernel_rfl) ?_
     simp only [dpZ, dpS, tkS, tkZ]
     go_wp2_with fail
     refine (branch_any (gv := .slice gva gs.length gvc) ((eR w12).drew.heap HGe.out) ((eR w12).drew.heap HIe.out) (own_ext HOe.out ((eR w12).drew)) (by omega) false).mono ?_
     rintro e wbe ⟨vbe, rfl, xbe, obe⟩
     obtain ⟨bae, bce, rfl⟩ := own_slice obe
     have HOBe : Hid (wbe.ownsRow 0 146 2 (.slice bae (gs.length + 1) bce) (gs ++ [((U0.length : Int), false)]).length ((gs ++ [((U0.length : Int), false)]).flatMap Pl.guC)) := Lh (own_base (by rw [List.length_append]; exact obe) (Nat.zero_le _))
     have HXBe : Hid (Ext w12 wbe) := Lh ((eR w12).drew.trans xbe)
     have HBe : Hid (CCe wbe) := Lh (by rw [HCCe.out]; exact ⟨HXBe.out.cell (fve w12), HXBe.out.cell (fne w12)⟩)
     clear xbe obe
     go_wp2_with fail
     refine RelD.next_mk (fun _ => HBe.out) ?_
     refine RelD.actL 5 0 rfl (by kernel_rfl) ?_
     simp only [dpZ, dpS, tkS, tkZ]
     go_wp2_with fail
     have HCVe := Lh (HEL.out _ _ _ (HVT.out.ext HXBe.out) HOBe.out)
     have hgle : (gs ++ [((U0.length : Int), false)]).length = gs.length + 1 := by rw [List.length_append]; rfl
     refine (HCVe.out ?c1 ?c2).mono ?_
     case c1 => omega
     case c2 => omega
     rintro e w14 ⟨rfl, hse, hke⟩
     clear HCVe HOBe
     go_wp2_with fail
     refine RelD.next_mk (fun h => absurd h (by decide)) ?_
     refine RelD.endL (by kernel_rfl) ?_
     have HFIN : Hid (Pl.VisS W bl bv (us ++ Pl.uns (k + 1) (Tj.flat (ns.take (k + 1))) gs us.length) w14) := Lh (by
      rw [HNX.out ⟨-1, x.d.c, gs⟩ (by unfold Pl.un; exact if_pos HKD.out)]
      exact hse)
     have HKA : Hid (Kp Pl.KV (w.alloc (.cells #[.slice gva gs.length gvc] 109)) w14) := Lh (((HKR.out.trans HKW.out).trans HKT.out).trans ((Kp.ext HXBe.out).trans hke))
     clear hse hke
     go_wp2_with fail
     go_roundw
     case rel => exact ⟨k + 1, by omega, by go_num, Lh ⟨HFIN.out, HKA.out⟩⟩
     case measure => simp [intOf]; omega
    ·have z1 : (x.d.k == 2) = false := bF hkd
     have HKD := Lh hkd
     clear hcd hkd
     obtain ⟨wB, rfl⟩ : ∃ wo : World, wo = w8 := ⟨_, rfl⟩
     have HUB := Lh HB8.out
     have HXB := Lh HX8.out
     have HCVO : Hid ((∀ {wz : World} [Grows wB wz], wz.ownsRow (bl + 1) 85 3 (.slice none 0 0) 0 []) ∧ ∀ y ∈ ([] : List Tj.EN), Tj.B64 y.op ∧ Tj.B64 y.n ∧ Tj.B64 y.w) := Lh ⟨fun {wz} _ => World.ownsRow_nil _ _ _ _, fun y hy => by cases hy⟩
     have HGVO := Lh (own_base HO8.out (show bl + 1 ≤ (wr.alloc (.cells (Yq4 x ca cc ta tc ea ec) 101)).heap.size by rw [szA]; omega))
     have HVB : Hid (Pl.VisS W bl bv U0 wB) := Lh (HVR.out.ext ((grows (a := wr) (b := (wr.alloc (.cells (Yq4 x ca cc ta tc ea ec) 101)))).trans HXB.out))
     obtain ⟨lv, css, hlb, hol⟩ := HVB.out.hl
     obtain ⟨la, lc, rfl⟩ := own_slice hol.2.2.2.1
     have HLB := Lh hlb
     have HOL := Lh hol
     have lb0 := alw (cQ 0 hlb)
     have lf0 : ((wB.alloc (.cells #[.int .i64 U0.length] 3)).alloc (.cells #[.int .i64 x.d.t, .slice none 0 0, .slice ga1 gs.length gc1] 111)).frozen? ⟨bl, 0, none⟩ = false := free_of ((grows (a := wB) (b := ((wB.alloc (.cells #[.int .i64 U0.length] 3)).alloc (.cells #[.int .i64 x.d.t, .slice none 0 0, .slice ga1 gs.length gc1] 111)))).heap hlb)
     have ub0 := alw (cQ 0 HUB.out)
     have ub1 := alw (cQ 1 HUB.out)
     have ub2 := alw (cQ 2 HUB.out)
     have HIC := Lh (aH wB (.cells #[.int .i64 U0.length] 3))
     have HSRC : Hid (Src ((wB.alloc (.cells #[.int .i64 U0.length] 3)).alloc (.cells #[.int .i64 x.d.t, .slice none 0 0, .slice ga1 gs.length gc1] 111)) (.slice (some ⟨wB.heap.size + 1, 0, none⟩) 1 1) 3 1 [.int .i64 x.d.t, .slice none 0 0, .slice ga1 gs.length gc1]) := Lh ⟨rfl, by intro u hu; simp only [List.mem_cons, List.not_mem_nil, or_false] at hu; rcases hu with rfl | rfl | rfl <;> rfl, .inr ⟨_, 1, rfl, fun j u hj => by
      have hd := aH (wB.alloc (.cells #[.int .i64 U0.length] 3)) (.cells #[.int .i64 x.d.t, .slice none 0 0, .slice ga1 gs.length gc1] 111)
      rw [szA] at hd
      rw [add_mk, Nat.zero_add, cell_of hd]
      simpa using hj⟩⟩
     clear hlb hol
     go_wp2_with (at_builtin; refine wpList_append_fresh rfl (.tmp 32) (.tmp 34) 67 rfl (bl + 1) 111 (.agg #[.int .i64 0, .slice none 0 0, .slice none 0 0]) 3 56 Tryz.underlying67 cinf_unit rfl (by decide) (.slice la U0.length lc) U0.length _ rfl (own_ext HOL.out.2.2.2.1 (grows (a := wB) (b := ((wB.alloc (.cells #[.int .i64 U0.length] 3)).alloc (.cells #[.int .i64 x.d.t, .slice none 0 0, .slice ga1 gs.length gc1] 111))))) _ 1 _ rfl HSRC.out ?d1 ?d2 ?d3 ?_)
     case d1 => unfold maxLen; omega
     case d2 => omega
     case d3 => (have := lt_of_block HLB.out; simp only [szA]; omega)
     intro v' wE hown hgr hfr
     obtain ⟨le, lce, rfl⟩ := own_slice hown
     have HPU := Lh (Pl.VisS.push (u := ⟨x.d.t, [], gs⟩) HVB.out HLB.out HOL.out (grows (a := wB) (b := ((wB.alloc (.cells #[.int .i64 U0.length] 3)).alloc (.cells #[.int .i64 x.d.t, .slice none 0 0, .slice ga1 gs.length gc1] 111)))) hown hgr ⟨_, _, rfl, ⟨HCVO.out.1, HCVO.out.2⟩, own_ext HGVO.out grows⟩ rfl (by intro u hu; simp only [List.mem_cons, List.not_mem_nil, or_false] at hu; rcases hu with rfl | rfl | rfl <;> rfl))
     have hbE := (grown_mod hgr).heap ((grows (a := wB) (b := ((wB.alloc (.cells #[.int .i64 U0.length] 3)).alloc (.cells #[.int .i64 x.d.t, .slice none 0 0, .slice ga1 gs.length gc1] 111)))).heap HLB.out) (fun hk => by have := ((own_ext HOL.out.2.2.2.1 (grows (a := wB) (b := ((wB.alloc (.cells #[.int .i64 U0.length] 3)).alloc (.cells #[.int .i64 x.d.t, .slice none 0 0, .slice ga1 gs.length gc1] 111))))).lt bl hk.symm).1; omega)
     have zE : wE.cell? ⟨bl, 0, none⟩ = some (.slice la U0.length lc) := cQ 0 hbE
     have zF : wE.frozen? ⟨bl, 0, none⟩ = false := free_of hbE
     have HKE : Hid (Kp Pl.KV ((wB.alloc (.cells #[.int .i64 U0.length] 3)).alloc (.cells #[.int .i64 x.d.t, .slice none 0 0, .slice ga1 gs.length gc1] 111)) wE) := Lh (Kp.grown hgr (own_ext HOL.out.2.2.2.1 (grows (a := wB) (b := ((wB.alloc (.cells #[.int .i64 U0.length] 3)).alloc (.cells #[.int .i64 x.d.t, .slice none 0 0, .slice ga1 gs.length gc1] 111))))) (by decide))
     have HBE := Lh hbE
     clear hown hgr hfr hbE lb0 lf0 ub0 ub1 ub2
     go_wp2_with (refine wpList_store_cellK rfl 67 (.tmp 2) (.tmp 35) rfl bl 0 (.slice la U0.length lc) (.slice le (U0.length + 1) lce) rfl rfl (by kernel_rfl) rfl zE zF ?_)
     intro wF hwF
     have hk5 : Kp Pl.KV wE wF := by rw [hwF.out]; exact Kp.box (g := bl) (Mod.setCell (S := fun k => k = bl) (p := ⟨bl, 0, none⟩) (Mod.refl _ _) (.inl rfl) _) HBE.out (by decide)
     rw [← hwF.out] at HPU
     have HKF : Hid (Kp Pl.KV ((wB.alloc (.cells #[.int .i64 U0.length] 3)).alloc (.cells #[.int .i64 x.d.t, .slice none 0 0, .slice ga1 gs.length gc1] 111)) wF) := Lh (HKE.out.trans hk5)
     have HKW : Hid (Kp Pl.KV wr wF) := Lh ((Kp.ext ((grows (a := wr) (b := (wr.alloc (.cells (Yq4 x ca cc ta tc ea ec) 101)))).trans HXB.out)).trans HPU.out.2)
     have HVF := Lh HPU.out.1
     have HIt : Hid (wF.heap[wB.heap.size]? = some (.cells #[.int .i64 U0.length] 3 (0, 0))) := Lh (HKF.out _ _ _ _ (by decide) ((grows (a := (wB.alloc (.cells #[.int .i64 U0.length] 3))) (b := ((wB.alloc (.cells #[.int .i64 U0.length] 3)).alloc (.cells #[.int .i64 x.d.t, .slice none 0 0, .slice ga1 gs.length gc1] 111)))).heap HIC.out))
     have HNt : Hid (wF.heap[wr.heap.size]? = some (.cells (Yq4 x ca cc ta tc ea ec) 101 (0, 0))) := Lh (HPU.out.2 _ _ _ _ (by decide) (HXB.out.heap (aH wr _)))
     have HGt := Lh (HKW.out _ _ _ _ (by decide) HGR.out)
     have HOt := Lh (own_kp HOR.out HKW.out (by decide))
     clear hwF hk5 zE zF HPU HBE HKE
     have fvt := alw (cQ 0 HVF.out.hv)
     have fnt := alw (cQ 3 HNt.out)
     go_wp2_with fail
     obtain ⟨CCt, hCCt⟩ : ∃ z : World → Prop, z = (fun w' => w'.cell? ⟨bv, 0, none⟩ = some (.func (.func 56) #[] #[.pointer (some ⟨bl, 0, none⟩), .pointer (some ⟨bv, 0, none⟩)]) ∧ w'.cell? ⟨wr.heap.size, 3, none⟩ = some (.slice ta x.d.th tc)) := ⟨_, rfl⟩
     have HCCt := Lh hCCt
     clear hCCt
     refine RelD.region CCt 5 (by kernel_rfl) ?_
     have cqat : ∀ y : Wh CCt, y.val.cell? ⟨bv, 0, none⟩ = some (.func (.func 56) #[] #[.pointer (some ⟨bl, 0, none⟩), .pointer (some ⟨bv, 0, none⟩)]) := fun y => by have h := Eq.mp (congrFun HCCt.out y.val) y.out; exact h.1
     have cqbt : ∀ y : Wh CCt, y.val.cell? ⟨wr.heap.size, 3, none⟩ = some (.slice ta x.d.th tc) := fun y => by have h := Eq.mp (congrFun HCCt.out y.val) y.out; exact h.2
     have HAt : Hid (CCt wF.drew) := Lh (by rw [HCCt.out]; exact ⟨fvt _, fnt _⟩)
     have hNEt : Nonempty (Wh CCt) := ⟨⟨_, HAt.out⟩⟩
     have hNTt : Nonempty (Wh (fun _ : World => True)) := ⟨⟨wF, trivial⟩⟩
     refine RelD.oneL 0 5 rfl (by kernel_rfl) HAt.out ?_
     simp only [dpZ, tkS, tkZ]
     repeat (go_big_quiet_step (fail))
     refine wpQuiet_nil ?_
     refine RelD.oneT 1 4 rfl (by kernel_rfl) (fun _ => HAt.out) ?_
     simp only [dpZ, dpS, tkS, tkZ]
     repeat (go_big_quiet_step (fail))
     refine wpQuiet_nil ?_
     refine RelD.oneL 2 3 rfl (by kernel_rfl) HAt.out ?_
     simp only [dpZ, dpS, tkS, tkZ]
     repeat (go_big_quiet_step (fail))
     refine wpQuiet_nil ?_
     refine RelD.oneT 3 2 rfl (by kernel_rfl) (fun _ => HAt.out) ?_
     simp only [dpZ, dpS, tkS, tkZ]
     repeat (go_big_quiet_step (fail))
     refine wpQuiet_nil ?_
     refine RelD.actL 4 1 rfl (by kernel_rfl) ?_
     simp only [dpZ, dpS, tkS, tkZ]
     go_wp2_with fail
     refine (branch_any (gv := .slice gva gs.length gvc) ((eR wF).drew.heap HGt.out) ((eR wF).drew.heap HIt.out) (own_ext HOt.out ((eR wF).drew)) (by omega) true).mono ?_
     rintro e wbt ⟨vbt, rfl, xbt, obt⟩
     obtain ⟨bat, bct, rfl⟩ := own_slice obt
     have HOBt : Hid (wbt.ownsRow 0 146 2 (.slice bat (gs.length + 1) bct) (gs ++ [((U0.length : Int), true)]).length ((gs ++ [((U0.length : Int), true)]).flatMap Pl.guC)) := Lh (own_base (by rw [List.length_append]; exact obt) (Nat.zero_le _))
     have HXBt : Hid (Ext wF wbt) := Lh ((eR wF).drew.trans xbt)
     have HBt : Hid (CCt wbt) := Lh (by rw [HCCt.out]; exact ⟨HXBt.out.cell (fvt wF), HXBt.out.cell (fnt wF)⟩)
     clear xbt obt
     go_wp2_with fail
     refine RelD.next_mk (fun _ => HBt.out) ?_
     refine RelD.actL 5 0 rfl (by kernel_rfl) ?_
     simp only [dpZ, dpS, tkS, tkZ]
     go_wp2_with fail
     have HCVt := Lh (HTL.out _ _ (HVF.out.ext HXBt.out) HOBt.out)
     have hglt : (gs ++ [((U0.length : Int), true)]).length = gs.length + 1 := by rw [List.length_append]; rfl
     refine (HCVt.out ?c1 ?c2).mono ?_
     case c1 => omega
     case c2 => omega
     rintro e w12 ⟨rfl, hst, hkt⟩
     clear HCVt HOBt
     go_wp2_with fail
     refine RelD.next_mk (fun h => absurd h (by decide)) ?_
     refine RelD.endL (by kernel_rfl) ?_
     have HVT := Lh hst
     have HKT := Lh (((Kp.ext HXBt.out).trans hkt))
     have HNe : Hid (w12.heap[wr.heap.size]? = some (.cells (Yq4 x ca cc ta tc ea ec) 101 (0, 0))) := Lh (HKT.out _ _ _ _ (by decide) HNt.out)
     have HIe := Lh (HKT.out _ _ _ _ (by decide) HIt.out)
     have HGe := Lh (HKT.out _ _ _ _ (by decide) HGt.out)
     have HOe := Lh (own_kp HOt.out HKT.out (by decide))
     clear hst hkt
     have fve := alw (cQ 0 HVT.out.hv)
     have fne := alw (cQ 4 HNe.out)
     go_wp2_with fail
     obtain ⟨CCe, hCCe⟩ : ∃ z : World → Prop, z = (fun w' => w'.cell? ⟨bv, 0, none⟩ = some (.func (.func 56) #[] #[.pointer (some ⟨bl, 0, none⟩), .pointer (some ⟨bv, 0, none⟩)]) ∧ w'.cell? ⟨wr.heap.size, 4, none⟩ = some (.slice ea x.d.el ec)) := ⟨_, rfl⟩
     have HCCe := Lh hCCe
     clear hCCe
     refine RelD.region CCe 5 (by kernel_rfl) ?_
     have cqae : ∀ y : Wh CCe, y.val.cell? ⟨bv, 0, none⟩ = some (.func (.func 56) #[] #[.pointer (some ⟨bl, 0, none⟩), .pointer (some ⟨bv, 0, none⟩)]) := fun y => by have h := Eq.mp (congrFun HCCe.out y.val) y.out; exact h.1
     have cqbe : ∀ y : Wh CCe, y.val.cell? ⟨wr.heap.size, 4, none⟩ = some (.slice ea x.d.el ec) := fun y => by have h := Eq.mp (congrFun HCCe.out y.val) y.out; exact h.2
     have HAe : Hid (CCe w12.drew) := Lh (by rw [HCCe.out]; exact ⟨fve _, fne _⟩)
     have hNEe : Nonempty (Wh CCe) := ⟨⟨_, HAe.out⟩⟩
     have hNTe : Nonempty (Wh (fun _ : World => True)) := ⟨⟨w12, trivial⟩⟩
     refine RelD.oneL 0 5 rfl (by kernel_rfl) HAe.out ?_
     simp only [dpZ, tkS, tkZ]
     repeat (go_big_quiet_step (fail))
     refine wpQuiet_nil ?_
     refine RelD.oneT 1 4 rfl (by kernel_rfl) (fun _ => HAe.out) ?_
     simp only [dpZ, dpS, tkS, tkZ]
     repeat (go_big_quiet_step (fail))
     refine wpQuiet_nil ?_
     refine RelD.oneL 2 3 rfl (by kernel_rfl) HAe.out ?_
     simp only [dpZ, dpS, tkS, tkZ]
     repeat (go_big_quiet_step (fail))
     refine wpQuiet_nil ?_
     refine RelD.oneT 3 2 rfl (by kernel_rfl) (fun _ => HAe.out) ?_
     simp only [dpZ, dpS, tkS, tkZ]
     repeat (go_big_quiet_step (fail))
     refine wpQuiet_nil ?_
     refine RelD.actL 4 1 rfl (by kernel_rfl) ?_
     simp only [dpZ, dpS, tkS, tkZ]
     go_wp2_with fail
     refine (branch_any (gv := .slice gva gs.length gvc) ((eR w12).drew.heap HGe.out) ((eR w12).drew.heap HIe.out) (own_ext HOe.out ((eR w12).drew)) (by omega) false).mono ?_
     rintro e wbe ⟨vbe, rfl, xbe, obe⟩
     obtain ⟨bae, bce, rfl⟩ := own_slice obe
     have HOBe : Hid (wbe.ownsRow 0 146 2 (.slice bae (gs.length + 1) bce) (gs ++ [((U0.length : Int), false)]).length ((gs ++ [((U0.length : Int), false)]).flatMap Pl.guC)) := Lh (own_base (by rw [List.length_append]; exact obe) (Nat.zero_le _))
     have HXBe : Hid (Ext w12 wbe) := Lh ((eR w12).drew.trans xbe)
     have HBe : Hid (CCe wbe) := Lh (by rw [HCCe.out]; exact ⟨HXBe.out.cell (fve w12), HXBe.out.cell (fne w12)⟩)
     clear xbe obe
     go_wp2_with fail
     refine RelD.next_mk (fun _ => HBe.out) ?_
     refine RelD.actL 5 0 rfl (by kernel_rfl) ?_
     simp only [dpZ, dpS, tkS, tkZ]
     go_wp2_with fail
     have HCVe := Lh (HEL.out _ _ _ (HVT.out.ext HXBe.out) HOBe.out)
     have hgle : (gs ++ [((U0.length : Int), false)]).length = gs.length + 1 := by rw [List.length_append]; rfl
     refine (HCVe.out ?c1 ?c2).mono ?_
     case c1 => omega
     case c2 => omega
     rintro e w14 ⟨rfl, hse, hke⟩
     clear HCVe HOBe
     go_wp2_with fail
     refine RelD.next_mk (fun h => absurd h (by decide)) ?_
     refine RelD.endL (by kernel_rfl) ?_
     have HFIN : Hid (Pl.VisS W bl bv (us ++ Pl.uns (k + 1) (Tj.flat (ns.take (k + 1))) gs us.length) w14) := Lh (by
      rw [HNX.out ⟨x.d.t, [], gs⟩ (by unfold Pl.un; exact if_neg HKD.out)]
      exact hse)
     have HKA : Hid (Kp Pl.KV (w.alloc (.cells #[.slice gva gs.length gvc] 109)) w14) := Lh (((HKR.out.trans HKW.out).trans HKT.out).trans ((Kp.ext HXBe.out).trans hke))
     clear hse hke
     go_wp2_with fail
     go_roundw
     case rel => exact ⟨k + 1, by omega, by go_num, Lh ⟨HFIN.out, HKA.out⟩⟩
     case measure => simp [intOf]; omega
   ·obtain rfl : k = ns.length := by omega
    have HEND : Hid (Pl.VisP W bl bv (us ++ Pl.uns ns.length (Tj.flat ns) gs us.length) w (.returned (.tuple #[])) wr) := Lh ⟨rfl, by have h := HZ.out.1; rw [List.take_length] at h; exact h, (Kp.ext (grows (a := w) (b := (w.alloc (.cells #[.slice gva gs.length gvc] 109))))).trans HZ.out.2⟩
    go_wp2_with fail
    first | go_end0 | skip
    exact HEND.out
theorem eqlG (a c : Int) (b d : Bool) (w : World) : (binOp .eql 146 (.agg #[.int .i64 a, .bool b]) (.agg #[.int .i64 c, .bool d])).run Tryz.prog w = .ok (.bool (a == c && b == d)) w := by
 rw [run_eql_struct, show (10000 : Nat) = 9999 + 1 from rfl, run_equalIn_struct w 9999 146 _ _ (by kernel_rfl) (by kernel_rfl)]
 have hf : (Tryz.prog.fieldsOf 146).toList = (Tryz.prog.fieldsOf 146).toList := rfl
 by_cases h1 : a = c <;> cases b <;> cases d <;> simp [go_sem, h1]
namespace Pl
theorem gu_at {w : World} {oa : Option Addr} {n c k : Nat} {l : List (Int × Bool)} {x : Int × Bool} (h : Rows w 2 GuR (.slice oa n c) l) (hk : l[k]? = some x) : ∃ b o, oa = some ⟨b, o, none⟩ ∧ w.cell? ⟨b, o + k * 2, none⟩ = some (.int .i64 x.1) ∧ w.cell? ⟨b, o + k * 2 + 1, none⟩ = some (.bool x.2) := by
 obtain ⟨b, o, e, _, h4⟩ := h.at (by have := (List.getElem?_eq_some_iff.1 hk).1; omega)
 obtain ⟨cs, _, rfl, hc⟩ := h4 k x hk
 exact ⟨b, o, e, hc 0 _ rfl, hc 1 _ rfl⟩
theorem gus_ext {w w' : World} {v : Value} {l : List (Int × Bool)} (h : Rows w 2 GuR v l) (hx : Ext w w') : Rows w' 2 GuR v l := Rows.ext (w' := w') h (fun _ _ h => h) hx
theorem any_hit {α : Type} {p : α → Bool} {l : List α} {k : Nat} {x : α} (hk : l[k]? = some x) (h : p x = true) : l.any p = true := List.any_eq_true.2 ⟨x, List.mem_of_getElem? hk, h⟩
theorem any_add {α : Type} {p : α → Bool} {l : List α} {k : Nat} {x : α} (hk : l[k]? = some x) (h0 : (l.take k).any p = false) (h : p x = false) : (l.take (k + 1)).any p = false := by
 rw [List.take_add_one, hk, List.any_append, h0]; simp [h]
/-- where something lies in a list, or below 0 -/
def IdxP (W : World) (b : Bool) (e : Ending) (w' : World) : Prop := ∃ r : Int, e = .returned (.int .i64 r) ∧ decide (0 ≤ r) = b ∧ Ext W w'
end Pl
theorem gindex_any {W : World} {v : Value} {l : List (Int × Bool)} (h : Rows W 2 Pl.GuR v l) (g1 : Int) (g2 : Bool) : Calls Tryz.prog 133 #[v, .agg #[.int .i64 g1, .bool g2]] W (Pl.IdxP W (l.any (fun q => q.1 == g1 && q.2 == g2))) := by
 obtain ⟨oa, c, rfl, hl1, hl2⟩ := h.slice
 unfold maxLen at hl2
 have H := Lh h
 obtain ⟨P, hP⟩ : ∃ P : Int × Bool → Bool, P = fun q => q.1 == g1 && q.2 == g2 := ⟨_, rfl⟩
 rw [← hP]
 have HP := Lh hP
 have bx := aH W (.cells #[.int .i64 g1, .bool g2] 146)
 have b0 := alw (cQ 0 bx)
 have b1 := alw (cQ 1 bx)
 clear bx
 clear h hP
 go_enter Tryz.func133, Tryz.ntmps133
 go_wp2_with fail
 go_loopw [8] (fun q wr => ∃ k : Nat, k ≤ l.length ∧ q = .int .i64 k ∧ Hid (Ext (W.alloc (.cells #[.int .i64 g1, .bool g2] 146)) wr ∧ (l.take k).any P = false)) (fun q _ => l.length - (intOf q).toNat)
 case atStart => exact ⟨0, Nat.zero_le _, rfl, Lh ⟨eR _, rfl⟩⟩
 case round =>
  obtain ⟨k, hk, rfl, HZ⟩ := hrel
  have sx : Step (W.alloc (.cells #[.int .i64 g1, .bool g2] 146)) wr := ⟨HZ.out.1⟩
  by_cases hlt : k < l.length
  ·obtain ⟨⟨x1, x2⟩, hx⟩ : ∃ y, l[k]? = some y := ⟨_, gE hlt⟩
   obtain ⟨gb, go, rfl, e0, e1⟩ := Pl.gu_at H.out hx
   dsimp only at e0 e1
   have y0 := alw e0
   have y1 := alw e1
   have HX := Lh hx
   clear hx e0 e1
   obtain ⟨r, hr⟩ : ∃ r, r = (g1 == x1 && g2 == x2) := ⟨_, rfl⟩
   have hq : ∀ w, (binOp .eql 146 (.agg #[.int .i64 g1, .bool g2]) (.agg #[.int .i64 x1, .bool x2])).run Tryz.prog w = .ok (.bool r) w := fun w => by rw [hr]; exact eqlG g1 x1 g2 x2 w
   have HR : Hid (P (x1, x2) = r) := Lh (by rw [HP.out, hr]; show (x1 == g1 && x2 == g2) = _; rw [Bool.eq_iff_iff]; simp only [Bool.and_eq_true, beq_iff_eq]; exact ⟨fun h => ⟨h.1.symm, h.2.symm⟩, fun h => ⟨h.1.symm, h.2.symm⟩⟩)
   clear hr
   cases r with
   | true =>
    have HE : Hid (l.any P = true) := Lh (Pl.any_hit HX.out HR.out)
    go_wp2_with fail
    refine wp_region_later (W := wr) (by kernel_rfl) (by kernel_rfl) grows ?_
    repeat (go_big_quiet_step (fail))
    refine wpQuiet_nil ?_
    intro w9 hx9
    have s9 := Sm hx9
    go_wp2_with fail
    go_ret
    exact ⟨_, rfl, by rw [HE.out]; simp, grows⟩
   | false =>
    have HN : Hid ((l.take (k + 1)).any P = false) := Lh (Pl.any_add HX.out HZ.out.2 HR.out)
    go_wp2_with fail
    refine wp_region_later (W := wr) (by kernel_rfl) (by kernel_rfl) grows ?_
    repeat (go_big_quiet_step (fail))
    refine wpQuiet_nil ?_
    intro w9 hx9
    have s9 := Sm hx9
    go_wp2_with fail
    go_roundw
    case rel => exact ⟨k + 1, by omega, by go_num, Lh ⟨grows, HN.out⟩⟩
    case measure => simp [intOf]; omega
  ·obtain rfl : k = l.length := by omega
   have HE : Hid (l.any P = false) := Lh (by have h := HZ.out.2; rw [List.take_length] at h; exact h)
   go_wp2_with fail
   go_ret
   exact ⟨_, rfl, by rw [HE.out]; simp, grows⟩
theorem gcontains_any {W : World} {v : Value} {l : List (Int × Bool)} (h : Rows W 2 Pl.GuR v l) (g1 : Int) (g2 : Bool) : Calls Tryz.prog 95 #[v, .agg #[.int .i64 g1, .bool g2]] W (Rets W (.bool (l.any (fun q => q.1 == g1 && q.2 == g2)))) := by
 have HI := Lh (fun (w : World) (hx : Ext W w) => gindex_any (Pl.gus_ext h hx) g1 g2)
 obtain ⟨oa, c, rfl, _⟩ := h.slice
 obtain ⟨R, hR⟩ : ∃ R, R = l.any (fun q => q.1 == g1 && q.2 == g2) := ⟨_, rfl⟩
 rw [← hR] at HI ⊢
 have bx := aH W (.cells #[.int .i64 g1, .bool g2] 146)
 have b0 := alw (cQ 0 bx)
 have b1 := alw (cQ 1 bx)
 clear bx
 clear h hR
 go_enter Tryz.func95, Tryz.ntmps95
 go_wp2_with fail
 refine (HI.out _ grows).mono ?_
 rintro e w3 ⟨r, rfl, hr, x3⟩
 have s3 := Sm x3
 go_wp2_with fail
 go_ret
 exact ⟨rfl, grows⟩
theorem excl1_any {W : World} {lb jb : Nat} {ua : Option Addr} {uc j : Nat} {us : List Pl.Un} (hl : W.heap[lb]? = some (.cells #[.slice ua us.length uc] 67 (0, 0))) (hj : W.heap[jb]? = some (.cells #[.int .i64 j] 3 (0, 0))) (hu : Pl.Units W (.slice ua us.length uc) us) (hjl : j < us.length) (g1 : Int) (g2 : Bool) :
 Calls Tryz.prog 94 #[.agg #[.int .i64 g1, .bool g2], .pointer (some ⟨lb, 0, none⟩), .pointer (some ⟨jb, 0, none⟩)] W (Rets W (.bool ((us.getD j Pl.un0).gs.any (fun q => q.1 == g1 && q.2 == !g2)))) := by
 obtain ⟨x, hx⟩ : ∃ y, us[j]? = some y := ⟨_, gE hjl⟩
 have hgd : us.getD j Pl.un0 = x := by rw [List.getD_eq_getElem?_getD, hx]; rfl
 rw [hgd]
 obtain ⟨ub, uo, rfl, _, _⟩ := Rows.at hu (by omega)
 obtain ⟨ca, cc, ga, gc, _, hg, e0, e1, e2⟩ := Pl.units_at hu j x hx rfl
 have HC := Lh (fun (w : World) (hx : Ext W w) => gcontains_any (Pl.gus_ext hg hx) g1 (!g2))
 have q0 := alw (cQ 0 hl)
 have q1 := alw (cQ 0 hj)
 have y0 := alw e0
 have y1 := alw e1
 have y2 := alw e2
 have bx := aH W (.cells #[.int .i64 g1, .bool g2] 146)
 have b0 := alw (cQ 0 bx)
 have b1 := alw (cQ 1 bx)
 clear bx
 obtain ⟨R, hR⟩ : ∃ R, R = x.gs.any (fun q => q.1 == g1 && q.2 == !g2) := ⟨_, rfl⟩
 rw [← hR] at HC ⊢
 clear hl hj hu hgd hx hg e0 e1 e2 hR
 go_enter Tryz.func94, Tryz.ntmps94
 go_wp2_with fail
 refine wp_region_later (W := (W.alloc (.cells #[.int .i64 g1, .bool g2] 146))) (by kernel_rfl) (by kernel_rfl) grows ?_
 repeat (go_big_quiet_step (first | (go_at_call 95; exact Rets.later_at (HC.out _ grows)) | fail))
 refine wpQuiet_nil ?_
 intro w9 hx9
 have s9 := Sm hx9
 go_wp2_with fail
 go_ret
 exact ⟨rfl, grows⟩
theorem gifunc_any {W : World} {lb jb : Nat} {v : Value} {l : List (Int × Bool)} {P : Int × Bool → Bool} (h : Rows W 2 Pl.GuR v l) (hc : ∀ (x : Int × Bool) w, Ext W w → Calls Tryz.prog 94 #[.agg #[.int .i64 x.1, .bool x.2], .pointer (some ⟨lb, 0, none⟩), .pointer (some ⟨jb, 0, none⟩)] w (Rets w (.bool (P x)))) :
 Calls Tryz.prog 132 #[v, .func (.func 94) #[] #[.pointer (some ⟨lb, 0, none⟩), .pointer (some ⟨jb, 0, none⟩)]] W (Pl.IdxP W (l.any P)) := by
 obtain ⟨oa, c, rfl, hl1, hl2⟩ := h.slice
 unfold maxLen at hl2
 have H := Lh h
 have HC := Lh hc
 clear h hc
 go_enter Tryz.func132, Tryz.ntmps132
 go_wp2_with fail
 go_loopw [8] (fun q wr => ∃ k : Nat, k ≤ l.length ∧ q = .int .i64 k ∧ Hid (Ext W wr ∧ (l.take k).any P = false)) (fun q _ => l.length - (intOf q).toNat)
 case atStart => exact ⟨0, Nat.zero_le _, rfl, Lh ⟨eR _, rfl⟩⟩
 case round =>
  obtain ⟨k, hk, rfl, HZ⟩ := hrel
  have sx : Step W wr := ⟨HZ.out.1⟩
  by_cases hlt : k < l.length
  ·obtain ⟨⟨x1, x2⟩, hx⟩ : ∃ y, l[k]? = some y := ⟨_, gE hlt⟩
   obtain ⟨gb, go, rfl, e0, e1⟩ := Pl.gu_at H.out hx
   dsimp only at e0 e1
   have y0 := alw e0
   have y1 := alw e1
   have HX := Lh hx
   have HCX := Lh (HC.out (x1, x2))
   dsimp only at HCX
   obtain ⟨r, hr⟩ : ∃ r, r = P (x1, x2) := ⟨_, rfl⟩
   rw [← hr] at HCX
   have HR := Lh hr.symm
   clear hx e0 e1 hr
   cases r with
   | true =>
    have HE : Hid (l.any P = true) := Lh (Pl.any_hit HX.out HR.out)
    go_wp2_with fail
    refine via (HCX.out _ grows) fun w5 x5 s5 => ?_
    go_wp2_with fail
    go_ret
    exact ⟨_, rfl, by rw [HE.out]; simp, grows⟩
   | false =>
    have HN : Hid ((l.take (k + 1)).any P = false) := Lh (Pl.any_add HX.out HZ.out.2 HR.out)
    go_wp2_with fail
    refine via (HCX.out _ grows) fun w5 x5 s5 => ?_
    go_wp2_with fail
    go_roundw
    case rel => exact ⟨k + 1, by omega, by go_num, Lh ⟨grows, HN.out⟩⟩
    case measure => simp [intOf]; omega
  ·obtain rfl : k = l.length := by omega
   have HE : Hid (l.any P = false) := Lh (by have h := HZ.out.2; rw [List.take_length] at h; exact h)
   go_wp2_with fail
   go_ret
   exact ⟨_, rfl, by rw [HE.out]; simp, grows⟩
theorem gcfunc_any {W : World} {lb jb : Nat} {v : Value} {l : List (Int × Bool)} {P : Int × Bool → Bool} (h : Rows W 2 Pl.GuR v l) (hc : ∀ (x : Int × Bool) w, Ext W w → Calls Tryz.prog 94 #[.agg #[.int .i64 x.1, .bool x.2], .pointer (some ⟨lb, 0, none⟩), .pointer (some ⟨jb, 0, none⟩)] w (Rets w (.bool (P x)))) :
 Calls Tryz.prog 93 #[v, .func (.func 94) #[] #[.pointer (some ⟨lb, 0, none⟩), .pointer (some ⟨jb, 0, none⟩)]] W (Rets W (.bool (l.any P))) := by
 have HI := Lh (gifunc_any h hc)
 obtain ⟨oa, c, rfl, _⟩ := h.slice
 obtain ⟨R, hR⟩ : ∃ R, R = l.any P := ⟨_, rfl⟩
 rw [← hR] at HI ⊢
 clear h hR hc
 go_enter Tryz.func93, Tryz.ntmps93
 go_wp2_with fail
 refine HI.out.mono ?_
 rintro e w3 ⟨r, rfl, hr, x3⟩
 have s3 := Sm x3
 go_wp2_with fail
 go_ret
 exact ⟨rfl, grows⟩
theorem exclusive_any {W : World} {v : Value} {us : List Pl.Un} (hu : Pl.Units W v us) {i j : Nat} (hi : i < us.length) (hj : j < us.length) : Calls Tryz.prog 62 #[v, .int .i64 i, .int .i64 j] W (Rets W (.bool (Pl.excl (us.getD i Pl.un0) (us.getD j Pl.un0)))) := by
 obtain ⟨ua, uc, rfl, hl1, hl2⟩ := hu.slice
 unfold maxLen at hl2
 obtain ⟨x, hx⟩ : ∃ y, us[i]? = some y := ⟨_, gE hi⟩
 have hgd : us.getD i Pl.un0 = x := by rw [List.getD_eq_getElem?_getD, hx]; rfl
 have hE : Pl.excl (us.getD i Pl.un0) (us.getD j Pl.un0) = x.gs.any (fun g => (us.getD j Pl.un0).gs.any (fun q => q.1 == g.1 && q.2 == !g.2)) := by rw [hgd]; rfl
 rw [hE]
 obtain ⟨ub, uo, rfl, _, _⟩ := Rows.at hu (by omega)
 obtain ⟨ca, cc, ga, gc, _, hg, e0, e1, e2⟩ := Pl.units_at hu i x hx rfl
 have bl := aH W (.cells #[.slice (some ⟨ub, uo, none⟩) us.length uc] 67)
 have bj := aH (W.alloc (.cells #[.slice (some ⟨ub, uo, none⟩) us.length uc] 67)) (.cells #[.int .i64 j] 3)
 rw [szA] at bj
 have l0 := alw (cQ 0 bl)
 have j0 := alw (cQ 0 bj)
 have HC : Hid (∀ w, Ext ((W.alloc (.cells #[.slice (some ⟨ub, uo, none⟩) us.length uc] 67)).alloc (.cells #[.int .i64 j] 3)) w → Calls Tryz.prog 93 #[.slice ga x.gs.length gc, .func (.func 94) #[] #[.pointer (some ⟨W.heap.size, 0, none⟩), .pointer (some ⟨W.heap.size + 1, 0, none⟩)]] w (Rets w (.bool (x.gs.any (fun g => (us.getD j Pl.un0).gs.any (fun q => q.1 == g.1 && q.2 == !g.2)))))) := Lh (fun w hx => by
  have hw := (grows (a := W) (b := ((W.alloc (.cells #[.slice (some ⟨ub, uo, none⟩) us.length uc] 67)).alloc (.cells #[.int .i64 j] 3)))).trans hx
  refine gcfunc_any (P := fun g => (us.getD j Pl.un0).gs.any (fun q => q.1 == g.1 && q.2 == !g.2)) (Pl.gus_ext hg hw) (fun g w2 hx2 => ?_)
  exact excl1_any ((hx.trans hx2).heap ((grows (a := (W.alloc (.cells #[.slice (some ⟨ub, uo, none⟩) us.length uc] 67)))).heap bl)) ((hx.trans hx2).heap bj) (hu.ext (hw.trans hx2)) hj g.1 g.2)
 obtain ⟨R, hR⟩ : ∃ R, R = x.gs.any (fun g => (us.getD j Pl.un0).gs.any (fun q => q.1 == g.1 && q.2 == !g.2)) := ⟨_, rfl⟩
 rw [← hR] at HC ⊢
 have y0 := alw e0
 have y1 := alw e1
 have y2 := alw e2
 have z1 : decide ((i : Int) < 0) = false := dF (by omega)
 have z2 : decide ((us.length : Int) ≤ i) = false := dF (by omega)
 have z3 : decide (us.length ≤ i) = false := dF (by omega)
 have z4 : decide ((j : Int) < 0) = false := dF (by omega)
 have z5 : decide ((us.length : Int) ≤ j) = false := dF (by omega)
 have z6 : decide (us.length ≤ j) = false := dF (by omega)
 have hmf : ∀ (fn : Fn) (first cap : Array Value) (w : World), (Instr.makeFunc fn first cap).run Tryz.prog w = .ok (.func fn first cap) w := fun _ _ _ _ => rfl
 clear hu hgd hE hx hg e0 e1 e2 bl bj hR
 go_enter Tryz.func62, Tryz.ntmps62
 go_wp2_with fail
 refine via (HC.out _ grows) fun w3 x3 s3 => ?_
 go_wp2_with fail
 go_ret
 exact ⟨rfl, grows⟩
theorem guarded_any {W : World} {ga ca : Option Addr} {gc cn cc : Nat} {gs : List (Int × Bool)} (h : Rows W 2 Pl.GuR (.slice ga gs.length gc) gs) (tb i : Int) : Calls Tryz.prog 63 #[.agg #[.int .i64 tb, .slice ca cn cc, .slice ga gs.length gc], .int .i64 i] W (Rets W (.bool (gs.any (fun g => g.1 == i)))) := by
 obtain ⟨_, _, hf, hl1, hl2⟩ := h.slice
 cases hf
 unfold maxLen at hl2
 have H := Lh h
 obtain ⟨P, hP⟩ : ∃ P : Int × Bool → Bool, P = fun g => g.1 == i := ⟨_, rfl⟩
 rw [← hP]
 have HP := Lh hP
 have bx := aH W (.cells #[.int .i64 tb, .slice ca cn cc, .slice ga gs.length gc] 111)
 have b0 := alw (cQ 0 bx)
 have b1 := alw (cQ 1 bx)
 have b2 := alw (cQ 2 bx)
 clear bx
 clear h hP
 go_enter Tryz.func63, Tryz.ntmps63
 go_wp2_with fail
 go_loopw [10] (fun q wr => ∃ k : Nat, k ≤ gs.length ∧ q = .int .i64 k ∧ Hid (Ext W wr ∧ (gs.take k).any P = false)) (fun q _ => gs.length - (intOf q).toNat)
 case atStart => exact ⟨0, Nat.zero_le _, rfl, Lh ⟨grows, rfl⟩⟩
 case round =>
  obtain ⟨k, hk, rfl, HZ⟩ := hrel
  have sx : Step W wr := ⟨HZ.out.1⟩
  by_cases hlt : k < gs.length
  ·obtain ⟨⟨x1, x2⟩, hx⟩ : ∃ y, gs[k]? = some y := ⟨_, gE hlt⟩
   obtain ⟨gb, go, rfl, e0, e1⟩ := Pl.gu_at H.out hx
   dsimp only at e0 e1
   have y0 := alw e0
   have y1 := alw e1
   have bx := aH wr (.cells #[.int .i64 x1, .bool x2] 146)
   have c0 := alw (cQ 0 bx)
   have c1 := alw (cQ 1 bx)
   clear bx
   have HX := Lh hx
   clear hx e0 e1
   by_cases hq : x1 = i
   ·have z1 : (x1 == i) = true := bT hq
    have HE : Hid (gs.any P = true) := Lh (Pl.any_hit HX.out (by rw [HP.out]; exact z1))
    clear hq
    go_wp2_with fail
    go_ret
    exact ⟨by rw [HE.out]; rfl, grows⟩
   ·have z1 : (x1 == i) = false := bF hq
    have HN : Hid ((gs.take (k + 1)).any P = false) := Lh (Pl.any_add HX.out HZ.out.2 (by rw [HP.out]; exact z1))
    clear hq
    go_wp2_with fail
    go_roundw
    case rel => exact ⟨k + 1, by omega, by go_num, Lh ⟨grows, HN.out⟩⟩
    case measure => simp [intOf]; omega
  ·obtain rfl : k = gs.length := by omega
   have HE : Hid (gs.any P = false) := Lh (by have h := HZ.out.2; rw [List.take_length] at h; exact h)
   go_wp2_with fail
   go_ret
   exact ⟨by rw [HE.out]; rfl, grows⟩
end Go.Proofs.YtkiafiaodockbaaGreat
