/- The decoder: call, walked. The decoder: op, walked. Decode, walked on what Encode wrote. What decoding gives does the same, plainly. The log in memory; New, Len, Bytes, walked. No condition. -/
import Derived.Test.YthmokhkkdgnbhaaGreatJqAQ
import Derived.BigQuiet
set_option maxRecDepth 8000
set_option maxHeartbeats 16000000
namespace Go.Proofs.YthmokhkkdgnbhaaGreat
open Go.RowKit
theorem Mod.over {S T : Nat → Prop} {a b c : World} (h : Mod S a b) (k : Mod T b c) (ht : ∀ i, T i → a.heap.size ≤ i) : Mod S a c :=
 ⟨k.os.trans h.os, k.tape.trans h.tape, k.output.trans h.output, Nat.le_trans h.size k.size,
  fun i hi hs => (k.block i (Nat.lt_of_lt_of_le hi h.size) (fun hT => by have := ht i hT; omega)).trans (h.block i hi hs)⟩
theorem Dc.cell1 {W w : World} {g : Nat} {l : List Int} (h : Dc W w g l) : w.cell? ⟨g, 1, none⟩ = some (.int .i64 0) := by
 obtain ⟨_, _, v, h3, _⟩ := h; exact cQ 1 h3
theorem Dc.lt {W w : World} {g : Nat} {l : List Int} (h : Dc W w g l) : g < w.heap.size := by
 obtain ⟨_, _, v, h3, _⟩ := h; exact lt_of_block h3
theorem Dc.base {W w : World} {g : Nat} {l : List Int} (h : Dc W w g l) : W.heap.size ≤ g := h.2.1
/-- what a change of the decoder's block keeps -/
theorem Dc.kp {Ts : List TypeId} {W w w' : World} {g : Nat} {l : List Int} (h : Dc W w g l) (m : Mod (· = g) w w') (ht : 213 ∉ Ts) : Kp Ts w w' := by
 obtain ⟨_, _, v, h3, _⟩ := h; exact Kp.box m h3 ht
/-- a row of other cells is made longer -/
theorem Dc.grown {W w w' : World} {g sz n B : Nat} {T : TypeId} {v : Value} {xs : List Value} {l : List Int} (h : Dc W w g l) (hg : w.grownBy w' v.ownBlock) (ho : w.ownsRow B T sz v n xs) (hT : T ≠ 213) (hB : W.heap.size ≤ B) : Dc W w' g l := by
 have h' := h
 obtain ⟨h1, h2, u, h3, h4⟩ := h'
 refine h.mod (grown_mod hg) (fun k hk => Nat.le_trans hB (row_ge ho hk.symm)) (fun hk => ?_)
 obtain ⟨cur, h5⟩ := row_heap ho hk.symm
 rw [h3] at h5; simp only [Option.some.injEq, Obj.cells.injEq] at h5; exact hT h5.2.1.symm
/-- what reading a call leaves -/
def CallP (W w : World) (g : Nat) (r : List Int) (c : Tj.Call) (e : Ending) (w' : World) : Prop := ∃ va vc, e = .returned (.agg #[.int .i64 c.a, .slice va c.ar.length vc]) ∧ Mod (· = g) w w' ∧ Dc W w' g r ∧
 w'.ownsRow w.heap.size 118 1 (.slice va c.ar.length vc) c.ar.length (c.ar.map (Value.int .u32))
theorem dcall_any {W w : World} {g : Nat} {l : List Int} {c : Tj.Call} (h : Dc W w g (Jn.eCall c ++ l)) (hok : Jn.okC c) (hu : ∀ x ∈ c.ar, U32 x) : Calls Tryz.prog 152 #[.pointer (some ⟨g, 0, none⟩)] w (CallP W w g l c) := by
 obtain ⟨⟨hk0, hk1⟩, hk2⟩ := hok
 have hlt0 := h.lt
 have hbs := h.base
 have hmw : Mod (· = g) w w := Mod.refl _ _
 have hEq : Jn.eCall c ++ l = Jn.bn 2 c.a ++ ((c.ar.length : Int) :: (c.ar.flatMap (Jn.bn 4) ++ l)) := by unfold Jn.eCall; simp
 rw [hEq] at h
 have hx0 : Ext w (w.alloc (.cells #[.int .i64 0, .slice none 0 0] 63)) := grows
 have HN0 : Hid (Calls Tryz.prog 119 #[.pointer (some ⟨g, 0, none⟩), .int .i64 2] (w.alloc (.cells #[.int .i64 0, .slice none 0 0] 63)) (NumP W (w.alloc (.cells #[.int .i64 0, .slice none 0 0] 63)) g c.a ((c.ar.length : Int) :: (c.ar.flatMap (Jn.bn 4) ++ l)))) := Lh (dnum_bn (n := 2) (h.ext hx0) (Jn.nm2 ⟨hk0, hk1⟩))
 have HU := Lh hu
 have HXB := Lh hx0
 have HRB := Lh (aH w (.cells #[.int .i64 0, .slice none 0 0] 63))
 clear h hEq hu hmw hx0
 go_enter Tryz.func152, Tryz.ntmps152
 go_wp2_with fail
 refine HN0.out.mono ?_
 rintro e w1 ⟨rfl, m1, hd1⟩
 have HM1 : Hid (Mod (· = g) w w1) := Lh ((Mod.of_ext HXB.out).trans m1)
 have HR1 := Lh (m1.heap HRB.out (by omega))
 have HD1 := Lh hd1
 have hle1 := m1.size
 simp only [szA] at hle1
 clear m1 hd1
 go_wp2_with fail
 obtain ⟨gc, hgc⟩ : ∃ z, z = w1.heap.size := ⟨_, rfl⟩
 have hb1 := aH w1 (.cells #[.int .i64 c.a, .slice none 0 0] 63)
 have x1 : Ext w1 (w1.alloc (.cells #[.int .i64 c.a, .slice none 0 0] 63)) := grows
 have HN1 : Hid (Calls Tryz.prog 119 #[.pointer (some ⟨g, 0, none⟩), .int .i64 1] (w1.alloc (.cells #[.int .i64 c.a, .slice none 0 0] 63)) (NumP W (w1.alloc (.cells #[.int .i64 c.a, .slice none 0 0] 63)) g (c.ar.length : Int) (c.ar.flatMap (Jn.bn 4) ++ l))) := Lh (dnum_1 (HD1.out.ext x1) ⟨by omega, by omega⟩)
 refine HN1.out.mono ?_
 rintro e w2 ⟨rfl, m2, hd2⟩
 rw [← hgc] at hb1 ⊢
 have hgb : w.heap.size < gc := by omega
 have H2 : Hid (Mod (· = g) w w2 ∧ Dc W w2 g ((c.ar.drop 0).flatMap (Jn.bn 4) ++ l) ∧ w2.heap[gc]? = some (.cells #[.int .i64 c.a, .slice none 0 0] 63 (0, 0)) ∧ w2.heap[w.heap.size]? = some (.cells #[.int .i64 0, .slice none 0 0] 63 (0, 0)) ∧ w2.ownsRow w.heap.size 118 1 (.slice none 0 0) 0 ((c.ar.take 0).map (Value.int .u32))) := Lh ⟨(HM1.out.trans (Mod.of_ext x1)).trans m2, hd2, m2.heap hb1 (by omega), m2.heap (x1.heap HR1.out) (by omega), World.ownsRow_nil _ _ _ _⟩
 clear m2 hd2 hb1 x1 hgc
 go_wp2_with fail
 go_loopw [4] (fun q wr => ∃ k : Nat, k ≤ c.ar.length ∧ q = .int .u32 ((c.ar.length : Int) - k) ∧ ∃ va vc, Hid (Mod (· = g) w wr ∧ Dc W wr g ((c.ar.drop k).flatMap (Jn.bn 4) ++ l) ∧ wr.heap[gc]? = some (.cells #[.int .i64 c.a, .slice va k vc] 63 (0, 0)) ∧ wr.heap[w.heap.size]? = some (.cells #[.int .i64 0, .slice none 0 0] 63 (0, 0)) ∧ wr.ownsRow w.heap.size 118 1 (.slice va k vc) k ((c.ar.take k).map (Value.int .u32)))) (fun q _ => (intOf q).toNat)
 case atStart => exact ⟨0, Nat.zero_le _, by simp, none, 0, H2⟩
 case round =>
  obtain ⟨k, hk, rfl, va, vc, HQ⟩ := hrel
  have ke := alw HQ.out.2.1.cell1
  by_cases hlt : k < c.ar.length
  ·have d1 : decide (0 < (c.ar.length : Int) - k) = true := dTt (by omega)
   obtain ⟨x, hx⟩ : ∃ x, c.ar[k]? = some x := ⟨_, gE hlt⟩
   have hux := HU.out x (List.mem_of_getElem? hx)
   obtain ⟨hu0, hu1⟩ := hux
   have hfl : ((c.ar.drop k).flatMap (Jn.bn 4) ++ l) = Jn.bn 4 x ++ ((c.ar.drop (k + 1)).flatMap (Jn.bn 4) ++ l) := by
    rw [List.drop_eq_getElem_cons hlt, (List.getElem?_eq_some_iff.1 hx).2, List.flatMap_cons, List.append_assoc]
   have hDr := HQ.out.2.1
   rw [hfl] at hDr
   have HDR := Lh (hDr.ext ((eR wr).drew))
   have HTK := Lh (take_succ_get hx)
   have p0 : wr.cell? ⟨gc, 1, none⟩ = some (.slice va k vc) := cQ 1 HQ.out.2.2.1
   clear hx hfl hDr
   go_wp2_with fail
   obtain ⟨CC, hCC⟩ : ∃ z : World → Prop, z = (fun w' => w'.cell? ⟨gc, 1, none⟩ = some (.slice va k vc)) := ⟨_, rfl⟩
   have HCC := Lh hCC
   clear hCC
   refine RelD.region CC 7 (by kernel_rfl) ?_
   have cq0 : ∀ y : Wh CC, y.val.cell? ⟨gc, 1, none⟩ = some (.slice va k vc) := fun y => by have h := Eq.mp (congrFun HCC.out y.val) y.out; exact h
   have HC2 : Hid (CC wr.drew) := Lh (by rw [HCC.out]; exact p0)
   have hNE : Nonempty (Wh CC) := ⟨⟨_, HC2.out⟩⟩
   clear p0
   refine RelD.chunkL (k' := 3) 3 5 (by kernel_rfl) rfl (by kernel_rfl) HC2.out ?_
   simp only [dpZ, tkS, tkZ]
   repeat (go_big_quiet_step (fail))
   refine wpQuiet_nil ?_
   refine RelD.realL (k' := 4) 4 (by kernel_rfl) rfl (by kernel_rfl) ?_
   simp only [dpZ, dpS, tkS, tkZ]
   go_wp2_with fail
   refine (dnum_bn (n := 4) HDR.out (Jn.nm4 ⟨hu0, by omega⟩)).mono ?_
   rintro e w3 ⟨rfl, m3, hd3⟩
   have HM3 := Lh (HQ.out.1.drew.trans m3)
   have HD3 := Lh hd3
   have HB3 := Lh (m3.heap (((eR wr).drew).heap HQ.out.2.2.1) (by omega))
   have HR3 := Lh (m3.heap (((eR wr).drew).heap HQ.out.2.2.2.1) (by omega))
   have HO3 := Lh (own_kp (own_ext HQ.out.2.2.2.2 ((eR wr).drew)) (HDR.out.kp (Ts := [118]) m3 (by decide)) (by simp))
   have HC3 : Hid (CC w3) := Lh (by rw [HCC.out]; exact cQ 1 HB3.out)
   have HC3A : Hid (CC (w3.alloc (.cells #[.int .u32 x] 118))) := Lh (by rw [HCC.out]; exact cQ 1 (((eR w3).alloc _).heap HB3.out))
   have hle3 := HM3.out.size
   clear m3 hd3
   go_wp2_with fail
   refine RelD.next_mk (fun _ => HC3.out) ?_
   refine RelD.realL (k' := 5) 3 (by kernel_rfl) rfl (by kernel_rfl) ?_
   simp only [dpZ, dpS, tkS, tkZ]
   go_wp2_with fail
   refine RelD.next_mk (fun _ => HC3A.out) ?_
   refine RelD.realL (k' := 6) 2 (by kernel_rfl) rfl (by kernel_rfl) ?_
   simp only [dpZ, dpS, tkS, tkZ]
   go_wp2_with (at_builtin; refine wpList_append_fresh rfl (.tmp 23) (.tmp 26) 61 rfl w.heap.size 118 (.int .u32 0) 1 4 Tryz.underlying61 cinf_u32 rfl (by decide) (.slice va k vc) k _ rfl (own_ext HO3.out ((eR w3).alloc _)) _ 1 _ rfl (src_one w3 _ _ rfl) (by unfold maxLen; omega) (by omega) (by simp only [szA]; omega) ?_)
   intro v' w4 hown hgr hfr
   obtain ⟨va4, vc4, rfl⟩ := own_slice hown
   have hO := own_ext HO3.out ((eR w3).alloc (.cells #[.int .u32 x] 118))
   have HM4 := Lh ((HM3.out.alloc (.cells #[.int .u32 x] 118)).over (grown_mod hgr) (fun i hi => row_ge hO hi.symm))
   have HD4 := Lh ((HD3.out.ext ((eR w3).alloc (.cells #[.int .u32 x] 118))).grown hgr hO (by decide) (by omega))
   have HB4 := Lh (grown_at hgr hO (((eR w3).alloc _).heap HB3.out) (by decide))
   have HR4 := Lh (grown_at hgr hO (((eR w3).alloc _).heap HR3.out) (by decide))
   have HO4 := Lh hown
   have HC4 : Hid (CC w4) := Lh (by rw [HCC.out]; exact cQ 1 HB4.out)
   have z1 : w4.cell? ⟨gc, 1, none⟩ = some (.slice va k vc) := cQ 1 HB4.out
   have zf : w4.frozen? ⟨gc, 1, none⟩ = false := free_of HB4.out
   clear hown hgr hfr hO
   go_wp2_with fail
   refine RelD.next_mk (fun _ => HC4.out) ?_
   refine RelD.chunkL (k' := 7) 1 1 (by kernel_rfl) rfl (by kernel_rfl) HC4.out ?_
   simp only [dpZ, dpS, tkS, tkZ]
   repeat (go_big_quiet_step (fail))
   refine wpQuiet_nil ?_
   refine RelD.realL (k' := 8) 0 (by kernel_rfl) rfl (by kernel_rfl) ?_
   simp only [dpZ, dpS, tkS, tkZ]
   go_wp2_with fail
   refine RelD.next_mk (fun h => absurd h (by decide)) ?_
   refine RelD.doneL (by kernel_rfl) (by kernel_rfl) ?_
   have hm5 : Mod (· = gc) w4 (w4.setCell ⟨gc, 1, none⟩ (.slice va4 (k + 1) vc4)) := Mod.setCell (S := fun k => k = gc) (p := ⟨gc, 1, none⟩) (Mod.refl _ _) (.inl rfl) _
   have HN : Hid (Mod (· = g) w (w4.setCell ⟨gc, 1, none⟩ (.slice va4 (k + 1) vc4)) ∧ Dc W (w4.setCell ⟨gc, 1, none⟩ (.slice va4 (k + 1) vc4)) g ((c.ar.drop (k + 1)).flatMap (Jn.bn 4) ++ l) ∧ (w4.setCell ⟨gc, 1, none⟩ (.slice va4 (k + 1) vc4)).heap[gc]? = some (.cells #[.int .i64 c.a, .slice va4 (k + 1) vc4] 63 (0, 0)) ∧ (w4.setCell ⟨gc, 1, none⟩ (.slice va4 (k + 1) vc4)).heap[w.heap.size]? = some (.cells #[.int .i64 0, .slice none 0 0] 63 (0, 0)) ∧ (w4.setCell ⟨gc, 1, none⟩ (.slice va4 (k + 1) vc4)).ownsRow w.heap.size 118 1 (.slice va4 (k + 1) vc4) (k + 1) ((c.ar.take (k + 1)).map (Value.int .u32))) := Lh ⟨HM4.out.over hm5 (fun i hi => by omega), HD4.out.mod hm5 (fun i hi => by omega) (by omega), setCell_heap HB4.out, hm5.heap HR4.out (by omega), own_kp (w := w4) (by rw [HTK.out, List.map_append, List.map_take]; exact HO4.out) (Kp.box hm5 HB4.out (by decide) : Kp [118] _ _) (by simp)⟩
   have eu : ((c.ar.length : Int) - k - 1) % 4294967296 = (c.ar.length : Int) - k - 1 := by omega
   clear hm5
   go_wp2_with fail
   go_roundw
   case rel => exact ⟨k + 1, by omega, by go_num, va4, vc4, HN⟩
   case measure => simp [intOf]; omega
  ·obtain rfl : k = c.ar.length := by omega
   have k0 := alw (cQ 0 HQ.out.2.2.1)
   have k1 := alw (cQ 1 HQ.out.2.2.1)
   have hdl : ((c.ar.drop c.ar.length).flatMap (Jn.bn 4) ++ l) = l := by rw [List.drop_length]; rfl
   have hDr := HQ.out.2.1
   rw [hdl] at hDr
   have HDR := Lh hDr
   have HOF : Hid (wr.ownsRow w.heap.size 118 1 (.slice va c.ar.length vc) c.ar.length (c.ar.map (Value.int .u32))) := Lh (by have h := HQ.out.2.2.2.2; rw [List.take_length] at h; exact h)
   have HRQ := Lh HQ.out.2.2.2.1
   clear hdl hDr
   rw [show (c.ar.length : Int) - (c.ar.length : Nat) = 0 by omega]
   go_wp2_with (refine wpList_store_box rfl 63 (.tmp 2) (.tmp 29) rfl w.heap.size #[.int .i64 c.a, .slice va c.ar.length vc] rfl rfl 63 #[.int .i64 0, .slice none 0 0] HRQ.out (by kernel_rfl) rfl (by simp [Value.oneCell']) ?_)
   intro wf hmf hbf
   have q0 := cQ 0 hbf
   have q1 := cQ 1 hbf
   have HMF := Lh hmf
   clear hmf hbf
   go_wp2_with fail
   exact bodyPost_ret (v := .agg #[.int .i64 c.a, .slice va c.ar.length vc]) (by simp [results, Tryz.results152, go_sem, q0, q1]) rfl ⟨va, vc, rfl, HQ.out.1.over HMF.out (fun i hi => by omega), HDR.out.mod HMF.out (fun i hi => by omega) (by omega), own_kp HOF.out (Kp.box HMF.out HRQ.out (by decide) : Kp [118] _ _) (by simp)⟩
namespace Jn
open Tj
/-- what the encoding keeps of an operation -/
def norm (o : TOp) : TOp := if o.k = 1 then ⟨1, o.t, 0, o.e, ⟨0, []⟩⟩ else if o.k = 2 then ⟨2, o.t, o.id, ⟨[], 0, ⟨0, []⟩⟩, o.c⟩ else if o.k = 3 then ⟨3, o.t, o.id, ⟨[], 0, ⟨0, []⟩⟩, ⟨0, []⟩⟩ else ⟨4, o.t, 0, ⟨[], 0, ⟨0, []⟩⟩, o.c⟩
/-- the numbers of an operation -/
def us (o : TOp) : Prop := (∀ k ∈ o.e.ks, U32 k.v ∧ U32 k.m) ∧ (∀ x ∈ o.e.cl.ar, U32 x) ∧ ∀ x ∈ o.c.ar, U32 x
/-- an operation whose memory was made after B -/
def OpO (B : Nat) (w : World) (cs : List Value) (o : TOp) : Prop := ∃ ka kc ga gc ha hc, cs = [.int .i64 o.k, .int .i64 o.t, .int .i64 o.id, .slice ka o.e.ks.length kc, .int .i64 o.e.pr, .int .i64 o.e.cl.a, .slice ga o.e.cl.ar.length gc, .int .i64 o.c.a, .slice ha o.c.ar.length hc] ∧ (B64 o.k ∧ B64 o.t ∧ B64 o.id ∧ B64 o.e.pr ∧ B64 o.e.cl.a ∧ B64 o.c.a) ∧
 KOwn B w (.slice ka o.e.ks.length kc) o.e.ks ∧ UOwn B w (.slice ga o.e.cl.ar.length gc) o.e.cl.ar ∧ UOwn B w (.slice ha o.c.ar.length hc) o.c.ar
theorem OpO.kp {B : Nat} {w w' : World} {cs : List Value} {o : TOp} (h : OpO B w cs o) (hk : Kp Leaf w w') : OpO B w' cs o := by
 obtain ⟨ka, kc, ga, gc, ha, hc, h1, h2, h3, h4, h5⟩ := h
 exact ⟨ka, kc, ga, gc, ha, hc, h1, h2, h3.kp hk, h4.kp hk, h5.kp hk⟩
theorem OpO.opR {B : Nat} {w : World} {cs : List Value} {o : TOp} (h : OpO B w cs o) : TOpR w cs o := by
 obtain ⟨ka, kc, ga, gc, ha, hc, h1, h2, h3, h4, h5⟩ := h
 exact ⟨ka, kc, ga, gc, ha, hc, h1, h2, h3.kms, h4.us, h5.us⟩
theorem KOwn.nil {B : Nat} {w : World} : KOwn B w (.slice none 0 0) [] := ⟨World.ownsRow_nil _ _ _ _, fun k hk => by cases hk⟩
theorem UOwn.nil {B : Nat} {w : World} : UOwn B w (.slice none 0 0) [] := ⟨World.ownsRow_nil _ _ _ _, fun k hk => by cases hk⟩
end Jn
/-- what reading an operation leaves -/
def OpP (W w : World) (g : Nat) (r : List Int) (o : Tj.TOp) (e : Ending) (w' : World) : Prop := ∃ cs : List Value, e = .returned (.agg cs.toArray) ∧ Mod (· = g) w w' ∧ Dc W w' g r ∧ Jn.OpO w.heap.size w' cs o
/-- a change of a block that is not the decoder's -/
theorem Dc.set {W w w' : World} {g b : Nat} {l : List Int} (h : Dc W w g l) (m : Mod (· = b) w w') (h1 : W.heap.size ≤ b) (h2 : g ≠ b) : Dc W w' g l := h.mod m (fun _ hi => by rw [hi]; exact h1) h2
abbrev Yq31  : Array Value := #[.int .i64 1, .int .i64 0, .int .i64 0, .slice none 0 0, .int .i64 0, .int .i64 0, .slice none 0 0, .int .i64 0, .slice none 0 0]
theorem dop_any {W w : World} {g : Nat} {l : List Int} {o : Tj.TOp} (h : Dc W w g (Jn.eOp o ++ l)) (hok : Jn.ok o) (hus : Jn.us o) : Calls Tryz.prog 121 #[.pointer (some ⟨g, 0, none⟩)] w (OpP W w g l (Jn.norm o)) := by
 obtain ⟨KK, t, id, ⟨ks, pr, ⟨ca, ar⟩⟩, ⟨da, dr⟩⟩ := o
 obtain ⟨⟨ht0, ht1⟩, hcase⟩ := hok
 obtain ⟨hu1, hu2, hu3⟩ := hus
 simp only at ht0 ht1 hcase hu1 hu2 hu3
 have hlt0 := h.lt
 have hbs := h.base
 have hx0 : Ext w (w.alloc (.cells (Yq6 ) 67)) := grows
 have HRB := Lh (aH w (.cells (Yq6 ) 67))
 have HM0 : Hid (Mod (· = g) w (w.alloc (.cells (Yq6 ) 67))) := Lh (Mod.of_ext hx0)
 have hd0 := h.ext hx0
 have HU1 := Lh hu1
 have HU2 := Lh hu2
 have HU3 := Lh hu3
 clear h hu1 hu2 hu3
 rcases hcase with ⟨rfl, ⟨hp0, hp1⟩, hkl, hcl⟩ | ⟨rfl, ⟨hi0, hi1⟩, hcl⟩ | ⟨rfl, hi0, hi1⟩ | ⟨rfl, hcl⟩
 ·rw [show Jn.norm ⟨1, t, id, ⟨ks, pr, ⟨ca, ar⟩⟩, ⟨da, dr⟩⟩ = ⟨1, t, 0, ⟨ks, pr, ⟨ca, ar⟩⟩, ⟨0, []⟩⟩ by simp [Jn.norm]]
  rw [show Jn.eOp ⟨1, t, id, ⟨ks, pr, ⟨ca, ar⟩⟩, ⟨da, dr⟩⟩ ++ l = 1 :: (Jn.bn 2 t ++ (Jn.bn 2 pr ++ ((ks.length : Int) :: (ks.flatMap Jn.eKM ++ (Jn.eCall ⟨ca, ar⟩ ++ l))))) by unfold Jn.eOp; simp] at hd0
  have HD0 := Lh hd0
  clear hd0 hx0
  go_enter Tryz.func121, Tryz.ntmps121
  go_wp2_with fail
  refine (dnum_1 HD0.out ⟨by omega, by omega⟩).mono ?_
  rintro e w1 ⟨rfl, m1, d1⟩
  have HM1 := Lh (HM0.out.trans m1)
  have HR1 := Lh (m1.heap HRB.out (by omega))
  have HD1 := Lh d1
  have hle1 := m1.size
  simp only [szA] at hle1
  clear m1 d1
  go_wp2_with fail
  have hb1 := aH w1 (.cells (Yq31 ) 67)
  have x1 : Ext w1 (w1.alloc (.cells (Yq31 ) 67)) := grows
  refine (drequire_any (HD1.out.ext x1) _).mono ?_
  rintro e w2 ⟨rfl, x2⟩
  obtain ⟨gb, hgb⟩ : ∃ z, z = w1.heap.size := ⟨_, rfl⟩
  rw [← hgb] at hb1 ⊢
  have hgl : w.heap.size < gb := by omega
  have HM2 := Lh (HM1.out.trans (Mod.of_ext (x1.trans x2)))
  have HD2 := Lh (HD1.out.ext (x1.trans x2))
  have HB2 := Lh (x2.heap hb1)
  have HR2 := Lh (x2.heap (x1.heap HR1.out))
  have hle2 := HM2.out.size
  clear hb1 x1 x2 hgb
  go_wp2_with fail
  refine (dnum_bn (n := 2) HD2.out (Jn.nm2 ⟨ht0, ht1⟩)).mono ?_
  rintro e w3 ⟨rfl, m3, d3⟩
  have HM3 : Hid (Mod (· = g) w w3) := Lh (HM2.out.trans m3)
  have HD3 := Lh d3
  have HB3 := Lh (m3.heap HB2.out (by omega))
  have HR3 := Lh (m3.heap HR2.out (by omega))
  have hle3 := HM3.out.size
  have HKM3 := Lh (HD2.out.kp (Ts := Tj.Leaf) m3 (by decide))
  clear m3 d3
  have z1 : w3.cell? ⟨gb, 1, none⟩ = some (.int .i64 0) := cQ 1 HB3.out
  have zf : w3.frozen? ⟨gb, 1, none⟩ = false := free_of HB3.out
  have mj : Mod (· = gb) w3 (w3.setCell ⟨gb, 1, none⟩ (.int .i64 t)) := Mod.setCell (S := fun k => k = gb) (p := ⟨gb, 1, none⟩) (Mod.refl _ _) (.inl rfl) _
  have HM4 := Lh (HM3.out.over mj (fun i hi => by omega))
  have HD4 := Lh (HD3.out.set mj (by omega) (by omega))
  have HB4 : Hid ((w3.setCell ⟨gb, 1, none⟩ (.int .i64 t)).heap[gb]? = some (.cells #[.int .i64 1, .int .i64 t, .int .i64 0, .slice none 0 0, .int .i64 0, .int .i64 0, .slice none 0 0, .int .i64 0, .slice none 0 0] 67 (0, 0))) := Lh (setCell_heap (HB3.out))
  have HR4 := Lh (mj.heap HR3.out (by omega))
  have HKP4 : Hid (Kp Tj.Leaf w3 (w3.setCell ⟨gb, 1, none⟩ (.int .i64 t))) := Lh (Kp.box mj HB3.out (by decide))
  clear mj
  have k0 := alw (cQ 0 HB4.out)
  go_wp2_with fail
  refine (dnum_bn (n := 2) HD4.out (Jn.nm2 ⟨hp0, hp1⟩)).mono ?_
  rintro e w5 ⟨rfl, m5, d5⟩
  have HM5 : Hid (Mod (· = g) w w5) := Lh (HM4.out.trans m5)
  have HD5 := Lh d5
  have HB5 := Lh (m5.heap HB4.out (by omega))
  have HR5 := Lh (m5.heap HR4.out (by omega))
  have hle5 := HM5.out.size
  have HKM5 := Lh (HD4.out.kp (Ts := Tj.Leaf) m5 (by decide))
  clear m5 d5
  have z4 : w5.cell? ⟨gb, 4, none⟩ = some (.int .i64 0) := cQ 4 HB5.out
  have f4 : w5.frozen? ⟨gb, 4, none⟩ = false := free_of HB5.out
  have mj : Mod (· = gb) w5 (w5.setCell ⟨gb, 4, none⟩ (.int .i64 pr)) := Mod.setCell (S := fun k => k = gb) (p := ⟨gb, 4, none⟩) (Mod.refl _ _) (.inl rfl) _
  have HM6 := Lh (HM5.out.over mj (fun i hi => by omega))
  have HD6 := Lh (HD5.out.set mj (by omega) (by omega))
  have HB6 : Hid ((w5.setCell ⟨gb, 4, none⟩ (.int .i64 pr)).heap[gb]? = some (.cells #[.int .i64 1, .int .i64 t, .int .i64 0, .slice none 0 0, .int .i64 pr, .int .i64 0, .slice none 0 0, .int .i64 0, .slice none 0 0] 67 (0, 0))) := Lh (setCell_heap (HB5.out))
  have HR6 := Lh (mj.heap HR5.out (by omega))
  have HKP6 : Hid (Kp Tj.Leaf w5 (w5.setCell ⟨gb, 4, none⟩ (.int .i64 pr))) := Lh (Kp.box mj HB5.out (by decide))
  clear mj
  go_wp2_with fail
  refine (dnum_1 HD6.out ⟨by omega, by omega⟩).mono ?_
  rintro e w7 ⟨rfl, m7, d7⟩
  have HM7 : Hid (Mod (· = g) w w7) := Lh (HM6.out.trans m7)
  have HD7 := Lh d7
  have HB7 := Lh (m7.heap HB6.out (by omega))
  have HR7 := Lh (m7.heap HR6.out (by omega))
  have hle7 := HM7.out.size
  have HKM7 := Lh (HD6.out.kp (Ts := Tj.Leaf) m7 (by decide))
  clear m7 d7
  go_wp2_with fail
  go_loopw [4] (fun q wr => ∃ k : Nat, k ≤ ks.length ∧ q = .int .u32 ((ks.length : Int) - k) ∧ ∃ ka kc, Hid (Mod (· = g) w wr ∧ Dc W wr g ((ks.drop k).flatMap Jn.eKM ++ (Jn.eCall ⟨ca, ar⟩ ++ l)) ∧ wr.heap[gb]? = some (.cells #[.int .i64 1, .int .i64 t, .int .i64 0, .slice ka k kc, .int .i64 pr, .int .i64 0, .slice none 0 0, .int .i64 0, .slice none 0 0] 67 (0, 0)) ∧ wr.heap[w.heap.size]? = some (.cells (Yq6 ) 67 (0, 0)) ∧ wr.ownsRow w.heap.size 209 2 (.slice ka k kc) k ((ks.take k).flatMap Tj.kmC))) (fun q _ => (intOf q).toNat)
  case atStart => exact ⟨0, Nat.zero_le _, by simp, none, 0, Lh ⟨HM7.out, HD7.out, HB7.out, HR7.out, World.ownsRow_nil _ _ _ _⟩⟩
  case round =>
   obtain ⟨k, hk, rfl, ka, kc, HQ⟩ := hrel
   have ke := alw HQ.out.2.1.cell1
   have HM10 := Lh HQ.out.1
   have HB10 := Lh HQ.out.2.2.1
   have HR10 := Lh HQ.out.2.2.2.1
   have HO10 := Lh HQ.out.2.2.2.2
   have hle10 := HM10.out.size
   by_cases hlt : k < ks.length
   ·have d1 : decide (0 < (ks.length : Int) - k) = true := dTt (by omega)
    obtain ⟨⟨kv, km⟩, hx⟩ : ∃ x, ks[k]? = some x := ⟨_, gE hlt⟩
    obtain ⟨⟨hv0, hv1⟩, ⟨hm0, hm1⟩⟩ := HU1.out _ (List.mem_of_getElem? hx)
    simp only at hv0 hv1 hm0 hm1
    have hfl : ((ks.drop k).flatMap Jn.eKM ++ (Jn.eCall ⟨ca, ar⟩ ++ l)) = Jn.bn 4 kv ++ (Jn.bn 4 km ++ ((ks.drop (k + 1)).flatMap Jn.eKM ++ (Jn.eCall ⟨ca, ar⟩ ++ l))) := by
     rw [List.drop_eq_getElem_cons hlt, (List.getElem?_eq_some_iff.1 hx).2, List.flatMap_cons]
     simp [Jn.eKM]
    have hDr := HQ.out.2.1
    rw [hfl] at hDr
    have HD10 := Lh hDr
    have HTK := Lh (take_succ_get hx)
    clear hx hfl hDr HQ
    go_wp2_with fail
    refine (dnum_bn (n := 4) HD10.out (Jn.nm4 ⟨hv0, by omega⟩)).mono ?_
    rintro e w11 ⟨rfl, m11, d11⟩
    have HM11 : Hid (Mod (· = g) w w11) := Lh (HM10.out.trans m11)
    have HD11 := Lh d11
    have HB11 := Lh (m11.heap HB10.out (by omega))
    have HR11 := Lh (m11.heap HR10.out (by omega))
    have hle11 := HM11.out.size
    have HKM11 := Lh (HD10.out.kp (Ts := Tj.Leaf) m11 (by decide))
    clear m11 d11
    have p0 : w11.cell? ⟨gb, 3, none⟩ = some (.slice ka k kc) := cQ 3 HB11.out
    have HDd := Lh (HD11.out.ext ((eR w11).drew))
    go_wp2_with fail
    obtain ⟨CC, hCC⟩ : ∃ z : World → Prop, z = (fun w' => w'.cell? ⟨gb, 3, none⟩ = some (.slice ka k kc)) := ⟨_, rfl⟩
    have HCC := Lh hCC
    clear hCC
    refine RelD.region CC 11 (by kernel_rfl) ?_
    have cq0 : ∀ y : Wh CC, y.val.cell? ⟨gb, 3, none⟩ = some (.slice ka k kc) := fun y => by have h := Eq.mp (congrFun HCC.out y.val) y.out; exact h
    have HC11 : Hid (CC w11.drew) := Lh (by rw [HCC.out]; exact p0)
    have hNE : Nonempty (Wh CC) := ⟨⟨_, HC11.out⟩⟩
    clear p0
    refine RelD.chunkL (k' := 5) 5 7 (by kernel_rfl) rfl (by kernel_rfl) HC11.out ?_
    simp only [dpZ, tkS, tkZ]
    repeat (go_big_quiet_step (fail))
    refine wpQuiet_nil ?_
    refine RelD.realL (k' := 6) 6 (by kernel_rfl) rfl (by kernel_rfl) ?_
    simp only [dpZ, dpS, tkS, tkZ]
    go_wp2_with fail
    refine (dnum_bn (n := 4) HDd.out (Jn.nm4 ⟨hm0, by omega⟩)).mono ?_
    rintro e w12 ⟨rfl, m12, hd12⟩
    have HM12 := Lh (HM11.out.drew.trans m12)
    have HD12 := Lh hd12
    have HB12 := Lh (m12.heap (((eR w11).drew).heap HB11.out) (by omega))
    have HR12 := Lh (m12.heap (((eR w11).drew).heap HR11.out) (by omega))
    have HO12 := Lh (own_kp (Ts := Tj.Leaf) (own_kp HO10.out HKM11.out (by decide)) ((Kp.ext ((eR w11).drew)).trans (HDd.out.kp (Ts := Tj.Leaf) m12 (by decide))) (by decide))
    have HC12 : Hid (CC w12) := Lh (by rw [HCC.out]; exact cQ 3 HB12.out)
    have HC12A : Hid (CC (w12.alloc (.cells #[.int .u32 kv, .int .u32 km] 209))) := Lh (by rw [HCC.out]; exact cQ 3 (((eR w12).alloc _).heap HB12.out))
    have hle12 := HM12.out.size
    clear m12 hd12
    go_wp2_with fail
    refine RelD.next_mk (fun _ => HC12.out) ?_
    refine RelD.realL (k' := 7) 5 (by kernel_rfl) rfl (by kernel_rfl) ?_
    simp only [dpZ, dpS, tkS, tkZ]
    go_wp2_with fail
    refine RelD.next_mk (fun _ => HC12.out) ?_
    refine RelD.realL (k' := 8) 4 (by kernel_rfl) rfl (by kernel_rfl) ?_
    simp only [dpZ, dpS, tkS, tkZ]
    go_wp2_with fail
    refine RelD.next_mk (fun _ => HC12A.out) ?_
    refine RelD.realL (k' := 9) 3 (by kernel_rfl) rfl (by kernel_rfl) ?_
    simp only [dpZ, dpS, tkS, tkZ]
    go_wp2_with (at_builtin; refine wpList_append_fresh rfl (.tmp 50) (.tmp 55) 60 rfl w.heap.size 209 (.agg #[.int .u32 0, .int .u32 0]) 2 8 Tryz.underlying60 cinf_kmt rfl (by decide) (.slice ka k kc) k _ rfl (own_ext HO12.out ((eR w12).alloc _)) _ 1 _ rfl (src_agg w12 [.int .u32 kv, .int .u32 km] 209 (by simp [Value.oneCell'])) (by unfold maxLen; omega) (by omega) (by simp only [szA]; omega) ?_)
    intro v' w13 hown hgr hfr
    obtain ⟨ka4, kc4, rfl⟩ := own_slice hown
    have hO := own_ext HO12.out ((eR w12).alloc (.cells #[.int .u32 kv, .int .u32 km] 209))
    have HM13 := Lh ((HM12.out.alloc (.cells #[.int .u32 kv, .int .u32 km] 209)).over (grown_mod hgr) (fun i hi => row_ge hO hi.symm))
    have HD13 := Lh ((HD12.out.ext ((eR w12).alloc (.cells #[.int .u32 kv, .int .u32 km] 209))).grown hgr hO (by decide) (by omega))
    have HB13 := Lh (grown_at hgr hO (((eR w12).alloc _).heap HB12.out) (by decide))
    have HR13 := Lh (grown_at hgr hO (((eR w12).alloc _).heap HR12.out) (by decide))
    have HO13 := Lh hown
    have HC13 : Hid (CC w13) := Lh (by rw [HCC.out]; exact cQ 3 HB13.out)
    have z3 : w13.cell? ⟨gb, 3, none⟩ = some (.slice ka k kc) := cQ 3 HB13.out
    have f3 : w13.frozen? ⟨gb, 3, none⟩ = false := free_of HB13.out
    clear hown hgr hfr hO
    go_wp2_with fail
    refine RelD.next_mk (fun _ => HC13.out) ?_
    refine RelD.realL (k' := 10) 2 (by kernel_rfl) rfl (by kernel_rfl) ?_
    simp only [dpZ, dpS, tkS, tkZ]
    go_wp2_with fail
    refine RelD.next_mk (fun _ => HC13.out) ?_
    refine RelD.realL (k' := 11) 1 (by kernel_rfl) rfl (by kernel_rfl) ?_
    simp only [dpZ, dpS, tkS, tkZ]
    go_wp2_with fail
    refine RelD.next_mk (fun _ => HC13.out) ?_
    refine RelD.realL (k' := 12) 0 (by kernel_rfl) rfl (by kernel_rfl) ?_
    simp only [dpZ, dpS, tkS, tkZ]
    go_wp2_with fail
    refine RelD.next_mk (fun h => absurd h (by decide)) ?_
    refine RelD.doneL (by kernel_rfl) (by kernel_rfl) ?_
    have hm5 : Mod (· = gb) w13 (w13.setCell ⟨gb, 3, none⟩ (.slice ka4 (k + 1) kc4)) := Mod.setCell (S := fun k => k = gb) (p := ⟨gb, 3, none⟩) (Mod.refl _ _) (.inl rfl) _
    have HN : Hid (Mod (· = g) w (w13.setCell ⟨gb, 3, none⟩ (.slice ka4 (k + 1) kc4)) ∧ Dc W (w13.setCell ⟨gb, 3, none⟩ (.slice ka4 (k + 1) kc4)) g ((ks.drop (k + 1)).flatMap Jn.eKM ++ (Jn.eCall ⟨ca, ar⟩ ++ l)) ∧ (w13.setCell ⟨gb, 3, none⟩ (.slice ka4 (k + 1) kc4)).heap[gb]? = some (.cells #[.int .i64 1, .int .i64 t, .int .i64 0, .slice ka4 (k + 1) kc4, .int .i64 pr, .int .i64 0, .slice none 0 0, .int .i64 0, .slice none 0 0] 67 (0, 0)) ∧ (w13.setCell ⟨gb, 3, none⟩ (.slice ka4 (k + 1) kc4)).heap[w.heap.size]? = some (.cells (Yq6 ) 67 (0, 0)) ∧ (w13.setCell ⟨gb, 3, none⟩ (.slice ka4 (k + 1) kc4)).ownsRow w.heap.size 209 2 (.slice ka4 (k + 1) kc4) (k + 1) ((ks.take (k + 1)).flatMap Tj.kmC)) := Lh ⟨HM13.out.over hm5 (fun i hi => by omega), HD13.out.set hm5 (by omega) (by omega), setCell_heap HB13.out, hm5.heap HR13.out (by omega), own_kp (w := w13) (by rw [HTK.out, List.flatMap_append]; exact HO13.out) (Kp.box hm5 HB13.out (by decide) : Kp Tj.Leaf _ _) (by decide)⟩
    have eu : ((ks.length : Int) - k - 1) % 4294967296 = (ks.length : Int) - k - 1 := by omega
    clear hm5
    go_wp2_with fail
    go_roundw
    case rel => exact ⟨k + 1, by omega, by go_num, ka4, kc4, HN⟩
    case measure => simp [intOf]; omega
   ·obtain rfl : k = ks.length := by omega
    have hdl : ((ks.drop ks.length).flatMap Jn.eKM ++ (Jn.eCall ⟨ca, ar⟩ ++ l)) = Jn.eCall ⟨ca, ar⟩ ++ l := by rw [List.drop_length]; rfl
    have hDr := HQ.out.2.1
    rw [hdl] at hDr
    have HD10 := Lh hDr
    have HKO : Hid (Tj.KOwn w.heap.size wr (.slice ka ks.length kc) ks) := Lh ⟨by have h := HO10.out; rw [List.take_length] at h; exact h, HU1.out⟩
    clear hdl hDr HQ
    rw [show (ks.length : Int) - (ks.length : Nat) = 0 by omega]
    go_wp2_with fail
    refine (dcall_any (c := ⟨ca, ar⟩) HD10.out hcl HU2.out).mono ?_
    rintro e w11 ⟨va, vc, rfl, m11, d11, o11⟩
    have HU11 : Hid (Tj.UOwn w.heap.size w11 (.slice va _ vc) _) := Lh ⟨own_base o11 HM10.out.size, HU2.out⟩
    clear o11
    have HM11 : Hid (Mod (· = g) w w11) := Lh (HM10.out.trans m11)
    have HD11 := Lh d11
    have HB11 := Lh (m11.heap HB10.out (by omega))
    have HR11 := Lh (m11.heap HR10.out (by omega))
    have hle11 := HM11.out.size
    have HKM11 := Lh (HD10.out.kp (Ts := Tj.Leaf) m11 (by decide))
    clear m11 d11
    have z5 : w11.cell? ⟨gb, 5, none⟩ = some (.int .i64 0) := cQ 5 HB11.out
    have f5 : w11.frozen? ⟨gb, 5, none⟩ = false := free_of HB11.out
    have z6 : w11.cell? ⟨gb, 6, none⟩ = some (.slice none 0 0) := cQ 6 HB11.out
    have f6 : w11.frozen? ⟨gb, 6, none⟩ = false := free_of HB11.out
    have mj : Mod (· = gb) w11 ((w11.setCell ⟨gb, 5, none⟩ (.int .i64 ca)).setCell ⟨gb, 6, none⟩ (.slice va ar.length vc)) := Mod.setCell (S := fun k => k = gb) (p := ⟨gb, 6, none⟩) (Mod.setCell (S := fun k => k = gb) (p := ⟨gb, 5, none⟩) (Mod.refl _ _) (.inl rfl) _) (.inl rfl) _
    have HM12 := Lh (HM11.out.over mj (fun i hi => by omega))
    have HD12 := Lh (HD11.out.set mj (by omega) (by omega))
    have HB12 : Hid (((w11.setCell ⟨gb, 5, none⟩ (.int .i64 ca)).setCell ⟨gb, 6, none⟩ (.slice va ar.length vc)).heap[gb]? = some (.cells #[.int .i64 1, .int .i64 t, .int .i64 0, .slice ka ks.length kc, .int .i64 pr, .int .i64 ca, .slice va ar.length vc, .int .i64 0, .slice none 0 0] 67 (0, 0))) := Lh (setCell_heap (setCell_heap (HB11.out)))
    have HR12 := Lh (mj.heap HR11.out (by omega))
    have HKP12 : Hid (Kp Tj.Leaf w11 ((w11.setCell ⟨gb, 5, none⟩ (.int .i64 ca)).setCell ⟨gb, 6, none⟩ (.slice va ar.length vc))) := Lh (Kp.box mj HB11.out (by decide))
    clear mj
    have k0 := alw (cQ 0 HB12.out)
    have k1 := alw (cQ 1 HB12.out)
    have k2 := alw (cQ 2 HB12.out)
    have k3 := alw (cQ 3 HB12.out)
    have k4 := alw (cQ 4 HB12.out)
    have k5 := alw (cQ 5 HB12.out)
    have k6 := alw (cQ 6 HB12.out)
    have k7 := alw (cQ 7 HB12.out)
    have k8 := alw (cQ 8 HB12.out)
    go_wp2_with (refine wpList_store_box rfl 67 (.tmp 2) (.tmp 81) rfl w.heap.size #[.int .i64 1, .int .i64 t, .int .i64 0, .slice ka ks.length kc, .int .i64 pr, .int .i64 ca, .slice va ar.length vc, .int .i64 0, .slice none 0 0] rfl rfl 67 (Yq6 ) HR12.out (by kernel_rfl) rfl (by simp [Value.oneCell']) ?_)
    intro wf hmf hbf
    have q0 := cQ 0 hbf
    have q1 := cQ 1 hbf
    have q2 := cQ 2 hbf
    have q3 := cQ 3 hbf
    have q4 := cQ 4 hbf
    have q5 := cQ 5 hbf
    have q6 := cQ 6 hbf
    have q7 := cQ 7 hbf
    have q8 := cQ 8 hbf
    have HMF := Lh hmf
    have HKF : Hid (Kp Tj.Leaf _ wf) := Lh (Kp.box hmf HR12.out (by decide))
    clear hmf hbf
    go_wp2_with fail
    refine bodyPost_ret (v := .agg #[.int .i64 1, .int .i64 t, .int .i64 0, .slice ka ks.length kc, .int .i64 pr, .int .i64 ca, .slice va ar.length vc, .int .i64 0, .slice none 0 0]) (by simp [results, Tryz.results121, go_sem, q0, q1, q2, q3, q4, q5, q6, q7, q8]) rfl ⟨[.int .i64 1, .int .i64 t, .int .i64 0, .slice ka ks.length kc, .int .i64 pr, .int .i64 ca, .slice va ar.length vc, .int .i64 0, .slice none 0 0], rfl, HM12.out.over HMF.out (fun i hi => by omega), HD12.out.set HMF.out (by omega) (by omega), ?_⟩
    have bz : Tj.B64 0 := ⟨by omega, by omega⟩
    have bk : Tj.B64 1 := ⟨by omega, by omega⟩
    have bt : Tj.B64 t := ⟨by omega, by omega⟩
    have bc : Tj.B64 ca := by have h := hcl.1; simp only [Jn.sh] at h; exact ⟨by omega, by omega⟩
    have bp : Tj.B64 pr := ⟨by omega, by omega⟩
    exact ⟨_, _, _, _, _, _, rfl, ⟨bk, bt, bz, bp, bc, bz⟩, ((HKO.out.kp HKM11.out).kp HKP12.out).kp HKF.out, (HU11.out.kp HKP12.out).kp HKF.out, Jn.UOwn.nil⟩
 ·rw [show Jn.norm ⟨2, t, id, ⟨ks, pr, ⟨ca, ar⟩⟩, ⟨da, dr⟩⟩ = ⟨2, t, id, ⟨[], 0, ⟨0, []⟩⟩, ⟨da, dr⟩⟩ by simp [Jn.norm]]
  rw [show Jn.eOp ⟨2, t, id, ⟨ks, pr, ⟨ca, ar⟩⟩, ⟨da, dr⟩⟩ ++ l = 2 :: (Jn.bn 2 t ++ (Jn.bn 4 id ++ (Jn.eCall ⟨da, dr⟩ ++ l))) by unfold Jn.eOp; simp] at hd0
  have HD0 := Lh hd0
  clear hd0 hx0
  go_enter Tryz.func121, Tryz.ntmps121
  go_wp2_with fail
  refine (dnum_1 HD0.out ⟨by omega, by omega⟩).mono ?_
  rintro e w1 ⟨rfl, m1, d1⟩
  have HM1 := Lh (HM0.out.trans m1)
  have HR1 := Lh (m1.heap HRB.out (by omega))
  have HD1 := Lh d1
  have hle1 := m1.size
  simp only [szA] at hle1
  clear m1 d1
  go_wp2_with fail
  have hb1 := aH w1 (.cells #[.int .i64 2, .int .i64 0, .int .i64 0, .slice none 0 0, .int .i64 0, .int .i64 0, .slice none 0 0, .int .i64 0, .slice none 0 0] 67)
  have x1 : Ext w1 (w1.alloc (.cells #[.int .i64 2, .int .i64 0, .int .i64 0, .slice none 0 0, .int .i64 0, .int .i64 0, .slice none 0 0, .int .i64 0, .slice none 0 0] 67)) := grows
  refine (drequire_any (HD1.out.ext x1) _).mono ?_
  rintro e w2 ⟨rfl, x2⟩
  obtain ⟨gb, hgb⟩ : ∃ z, z = w1.heap.size := ⟨_, rfl⟩
  rw [← hgb] at hb1 ⊢
  have hgl : w.heap.size < gb := by omega
  have HM2 := Lh (HM1.out.trans (Mod.of_ext (x1.trans x2)))
  have HD2 := Lh (HD1.out.ext (x1.trans x2))
  have HB2 := Lh (x2.heap hb1)
  have HR2 := Lh (x2.heap (x1.heap HR1.out))
  have hle2 := HM2.out.size
  clear hb1 x1 x2 hgb
  go_wp2_with fail
  refine (dnum_bn (n := 2) HD2.out (Jn.nm2 ⟨ht0, ht1⟩)).mono ?_
  rintro e w3 ⟨rfl, m3, d3⟩
  have HM3 : Hid (Mod (· = g) w w3) := Lh (HM2.out.trans m3)
  have HD3 := Lh d3
  have HB3 := Lh (m3.heap HB2.out (by omega))
  have HR3 := Lh (m3.heap HR2.out (by omega))
  have hle3 := HM3.out.size
  have HKM3 := Lh (HD2.out.kp (Ts := Tj.Leaf) m3 (by decide))
  clear m3 d3
  have z1 : w3.cell? ⟨gb, 1, none⟩ = some (.int .i64 0) := cQ 1 HB3.out
  have zf : w3.frozen? ⟨gb, 1, none⟩ = false := free_of HB3.out
  have mj : Mod (· = gb) w3 (w3.setCell ⟨gb, 1, none⟩ (.int .i64 t)) := Mod.setCell (S := fun k => k = gb) (p := ⟨gb, 1, none⟩) (Mod.refl _ _) (.inl rfl) _
  have HM4 := Lh (HM3.out.over mj (fun i hi => by omega))
  have HD4 := Lh (HD3.out.set mj (by omega) (by omega))
  have HB4 : Hid ((w3.setCell ⟨gb, 1, none⟩ (.int .i64 t)).heap[gb]? = some (.cells #[.int .i64 2, .int .i64 t, .int .i64 0, .slice none 0 0, .int .i64 0, .int .i64 0, .slice none 0 0, .int .i64 0, .slice none 0 0] 67 (0, 0))) := Lh (setCell_heap (HB3.out))
  have HR4 := Lh (mj.heap HR3.out (by omega))
  have HKP4 : Hid (Kp Tj.Leaf w3 (w3.setCell ⟨gb, 1, none⟩ (.int .i64 t))) := Lh (Kp.box mj HB3.out (by decide))
  clear mj
  have k0 := alw (cQ 0 HB4.out)
  go_wp2_with fail
  refine (did_any HD4.out ⟨hi0, hi1⟩).mono ?_
  rintro e w5 ⟨rfl, m5, d5⟩
  have HM5 : Hid (Mod (· = g) w w5) := Lh (HM4.out.trans m5)
  have HD5 := Lh d5
  have HB5 := Lh (m5.heap HB4.out (by omega))
  have HR5 := Lh (m5.heap HR4.out (by omega))
  have hle5 := HM5.out.size
  have HKM5 := Lh (HD4.out.kp (Ts := Tj.Leaf) m5 (by decide))
  clear m5 d5
  have z2 : w5.cell? ⟨gb, 2, none⟩ = some (.int .i64 0) := cQ 2 HB5.out
  have f2 : w5.frozen? ⟨gb, 2, none⟩ = false := free_of HB5.out
  have mj : Mod (· = gb) w5 (w5.setCell ⟨gb, 2, none⟩ (.int .i64 id)) := Mod.setCell (S := fun k => k = gb) (p := ⟨gb, 2, none⟩) (Mod.refl _ _) (.inl rfl) _
  have HM6 := Lh (HM5.out.over mj (fun i hi => by omega))
  have HD6 := Lh (HD5.out.set mj (by omega) (by omega))
  have HB6 : Hid ((w5.setCell ⟨gb, 2, none⟩ (.int .i64 id)).heap[gb]? = some (.cells #[.int .i64 2, .int .i64 t, .int .i64 id, .slice none 0 0, .int .i64 0, .int .i64 0, .slice none 0 0, .int .i64 0, .slice none 0 0] 67 (0, 0))) := Lh (setCell_heap (HB5.out))
  have HR6 := Lh (mj.heap HR5.out (by omega))
  have HKP6 : Hid (Kp Tj.Leaf w5 (w5.setCell ⟨gb, 2, none⟩ (.int .i64 id))) := Lh (Kp.box mj HB5.out (by decide))
  clear mj
  go_wp2_with fail
  refine (dcall_any (c := ⟨da, dr⟩) HD6.out hcl HU3.out).mono ?_
  rintro e w7 ⟨va, vc, rfl, m7, d7, o7⟩
  have HU7 : Hid (Tj.UOwn w.heap.size w7 (.slice va _ vc) _) := Lh ⟨own_base o7 HM6.out.size, HU3.out⟩
  clear o7
  have HM7 : Hid (Mod (· = g) w w7) := Lh (HM6.out.trans m7)
  have HD7 := Lh d7
  have HB7 := Lh (m7.heap HB6.out (by omega))
  have HR7 := Lh (m7.heap HR6.out (by omega))
  have hle7 := HM7.out.size
  have HKM7 := Lh (HD6.out.kp (Ts := Tj.Leaf) m7 (by decide))
  clear m7 d7
  have z7 : w7.cell? ⟨gb, 7, none⟩ = some (.int .i64 0) := cQ 7 HB7.out
  have f7 : w7.frozen? ⟨gb, 7, none⟩ = false := free_of HB7.out
  have z8 : w7.cell? ⟨gb, 8, none⟩ = some (.slice none 0 0) := cQ 8 HB7.out
  have f8 : w7.frozen? ⟨gb, 8, none⟩ = false := free_of HB7.out
  have mj : Mod (· = gb) w7 ((w7.setCell ⟨gb, 7, none⟩ (.int .i64 da)).setCell ⟨gb, 8, none⟩ (.slice va dr.length vc)) := Mod.setCell (S := fun k => k = gb) (p := ⟨gb, 8, none⟩) (Mod.setCell (S := fun k => k = gb) (p := ⟨gb, 7, none⟩) (Mod.refl _ _) (.inl rfl) _) (.inl rfl) _
  have HM8 := Lh (HM7.out.over mj (fun i hi => by omega))
  have HD8 := Lh (HD7.out.set mj (by omega) (by omega))
  have HB8 : Hid (((w7.setCell ⟨gb, 7, none⟩ (.int .i64 da)).setCell ⟨gb, 8, none⟩ (.slice va dr.length vc)).heap[gb]? = some (.cells #[.int .i64 2, .int .i64 t, .int .i64 id, .slice none 0 0, .int .i64 0, .int .i64 0, .slice none 0 0, .int .i64 da, .slice va dr.length vc] 67 (0, 0))) := Lh (setCell_heap (setCell_heap (HB7.out)))
  have HR8 := Lh (mj.heap HR7.out (by omega))
  have HKP8 : Hid (Kp Tj.Leaf w7 ((w7.setCell ⟨gb, 7, none⟩ (.int .i64 da)).setCell ⟨gb, 8, none⟩ (.slice va dr.length vc))) := Lh (Kp.box mj HB7.out (by decide))
  clear mj
  have k0 := alw (cQ 0 HB8.out)
  have k1 := alw (cQ 1 HB8.out)
  have k2 := alw (cQ 2 HB8.out)
  have k3 := alw (cQ 3 HB8.out)
  have k4 := alw (cQ 4 HB8.out)
  have k5 := alw (cQ 5 HB8.out)
  have k6 := alw (cQ 6 HB8.out)
  have k7 := alw (cQ 7 HB8.out)
  have k8 := alw (cQ 8 HB8.out)
  go_wp2_with (refine wpList_store_box rfl 67 (.tmp 2) (.tmp 81) rfl w.heap.size #[.int .i64 2, .int .i64 t, .int .i64 id, .slice none 0 0, .int .i64 0, .int .i64 0, .slice none 0 0, .int .i64 da, .slice va dr.length vc] rfl rfl 67 (Yq6 ) HR8.out (by kernel_rfl) rfl (by simp [Value.oneCell']) ?_)
  intro wf hmf hbf
  have q0 := cQ 0 hbf
  have q1 := cQ 1 hbf
  have q2 := cQ 2 hbf
  have q3 := cQ 3 hbf
  have q4 := cQ 4 hbf
  have q5 := cQ 5 hbf
  have q6 := cQ 6 hbf
  have q7 := cQ 7 hbf
  have q8 := cQ 8 hbf
  have HMF := Lh hmf
  have HKF : Hid (Kp Tj.Leaf _ wf) := Lh (Kp.box hmf HR8.out (by decide))
  clear hmf hbf
  go_wp2_with fail
  refine bodyPost_ret (v := .agg #[.int .i64 2, .int .i64 t, .int .i64 id, .slice none 0 0, .int .i64 0, .int .i64 0, .slice none 0 0, .int .i64 da, .slice va dr.length vc]) (by simp [results, Tryz.results121, go_sem, q0, q1, q2, q3, q4, q5, q6, q7, q8]) rfl ⟨[.int .i64 2, .int .i64 t, .int .i64 id, .slice none 0 0, .int .i64 0, .int .i64 0, .slice none 0 0, .int .i64 da, .slice va dr.length vc], rfl, HM8.out.over HMF.out (fun i hi => by omega), HD8.out.set HMF.out (by omega) (by omega), ?_⟩
  have bz : Tj.B64 0 := ⟨by omega, by omega⟩
  have bk : Tj.B64 2 := ⟨by omega, by omega⟩
  have bt : Tj.B64 t := ⟨by omega, by omega⟩
  have bi : Tj.B64 id := ⟨by omega, by omega⟩
  have bd : Tj.B64 da := by have h := hcl.1; simp only [Jn.sh] at h; exact ⟨by omega, by omega⟩
  exact ⟨_, _, _, _, _, _, rfl, ⟨bk, bt, bi, bz, bz, bd⟩, Jn.KOwn.nil, Jn.UOwn.nil, (HU7.out.kp HKP8.out).kp HKF.out⟩
 ·rw [show Jn.norm ⟨3, t, id, ⟨ks, pr, ⟨ca, ar⟩⟩, ⟨da, dr⟩⟩ = ⟨3, t, id, ⟨[], 0, ⟨0, []⟩⟩, ⟨0, []⟩⟩ by simp [Jn.norm]]
  rw [show Jn.eOp ⟨3, t, id, ⟨ks, pr, ⟨ca, ar⟩⟩, ⟨da, dr⟩⟩ ++ l = 3 :: (Jn.bn 2 t ++ (Jn.bn 4 id ++ l)) by unfold Jn.eOp; simp] at hd0
  have HD0 := Lh hd0
  clear hd0 hx0
  go_enter Tryz.func121, Tryz.ntmps121
  go_wp2_with fail
  refine (dnum_1 HD0.out ⟨by omega, by omega⟩).mono ?_
  rintro e w1 ⟨rfl, m1, d1⟩
  have HM1 := Lh (HM0.out.trans m1)
  have HR1 := Lh (m1.heap HRB.out (by omega))
  have HD1 := Lh d1
  have hle1 := m1.size
  simp only [szA] at hle1
  clear m1 d1
  go_wp2_with fail
  have hb1 := aH w1 (.cells #[.int .i64 3, .int .i64 0, .int .i64 0, .slice none 0 0, .int .i64 0, .int .i64 0, .slice none 0 0, .int .i64 0, .slice none 0 0] 67)
  have x1 : Ext w1 (w1.alloc (.cells #[.int .i64 3, .int .i64 0, .int .i64 0, .slice none 0 0, .int .i64 0, .int .i64 0, .slice none 0 0, .int .i64 0, .slice none 0 0] 67)) := grows
  refine (drequire_any (HD1.out.ext x1) _).mono ?_
  rintro e w2 ⟨rfl, x2⟩
  obtain ⟨gb, hgb⟩ : ∃ z, z = w1.heap.size := ⟨_, rfl⟩
  rw [← hgb] at hb1 ⊢
  have hgl : w.heap.size < gb := by omega
  have HM2 := Lh (HM1.out.trans (Mod.of_ext (x1.trans x2)))
  have HD2 := Lh (HD1.out.ext (x1.trans x2))
  have HB2 := Lh (x2.heap hb1)
  have HR2 := Lh (x2.heap (x1.heap HR1.out))
  have hle2 := HM2.out.size
  clear hb1 x1 x2 hgb
  go_wp2_with fail
  refine (dnum_bn (n := 2) HD2.out (Jn.nm2 ⟨ht0, ht1⟩)).mono ?_
  rintro e w3 ⟨rfl, m3, d3⟩
  have HM3 : Hid (Mod (· = g) w w3) := Lh (HM2.out.trans m3)
  have HD3 := Lh d3
  have HB3 := Lh (m3.heap HB2.out (by omega))
  have HR3 := Lh (m3.heap HR2.out (by omega))
  have hle3 := HM3.out.size
  have HKM3 := Lh (HD2.out.kp (Ts := Tj.Leaf) m3 (by decide))
  clear m3 d3
  have z1 : w3.cell? ⟨gb, 1, none⟩ = some (.int .i64 0) := cQ 1 HB3.out
  have zf : w3.frozen? ⟨gb, 1, none⟩ = false := free_of HB3.out
  have mj : Mod (· = gb) w3 (w3.setCell ⟨gb, 1, none⟩ (.int .i64 t)) := Mod.setCell (S := fun k => k = gb) (p := ⟨gb, 1, none⟩) (Mod.refl _ _) (.inl rfl) _
  have HM4 := Lh (HM3.out.over mj (fun i hi => by omega))
  have HD4 := Lh (HD3.out.set mj (by omega) (by omega))
  have HB4 : Hid ((w3.setCell ⟨gb, 1, none⟩ (.int .i64 t)).heap[gb]? = some (.cells #[.int .i64 3, .int .i64 t, .int .i64 0, .slice none 0 0, .int .i64 0, .int .i64 0, .slice none 0 0, .int .i64 0, .slice none 0 0] 67 (0, 0))) := Lh (setCell_heap (HB3.out))
  have HR4 := Lh (mj.heap HR3.out (by omega))
  have HKP4 : Hid (Kp Tj.Leaf w3 (w3.setCell ⟨gb, 1, none⟩ (.int .i64 t))) := Lh (Kp.box mj HB3.out (by decide))
  clear mj
  have k0 := alw (cQ 0 HB4.out)
  go_wp2_with fail
  refine (did_any HD4.out ⟨hi0, hi1⟩).mono ?_
  rintro e w5 ⟨rfl, m5, d5⟩
  have HM5 : Hid (Mod (· = g) w w5) := Lh (HM4.out.trans m5)
  have HD5 := Lh d5
  have HB5 := Lh (m5.heap HB4.out (by omega))
  have HR5 := Lh (m5.heap HR4.out (by omega))
  have hle5 := HM5.out.size
  have HKM5 := Lh (HD4.out.kp (Ts := Tj.Leaf) m5 (by decide))
  clear m5 d5
  have z2 : w5.cell? ⟨gb, 2, none⟩ = some (.int .i64 0) := cQ 2 HB5.out
  have f2 : w5.frozen? ⟨gb, 2, none⟩ = false := free_of HB5.out
  have mj : Mod (· = gb) w5 (w5.setCell ⟨gb, 2, none⟩ (.int .i64 id)) := Mod.setCell (S := fun k => k = gb) (p := ⟨gb, 2, none⟩) (Mod.refl _ _) (.inl rfl) _
  have HM6 := Lh (HM5.out.over mj (fun i hi => by omega))
  have HD6 := Lh (HD5.out.set mj (by omega) (by omega))
  have HB6 : Hid ((w5.setCell ⟨gb, 2, none⟩ (.int .i64 id)).heap[gb]? = some (.cells #[.int .i64 3, .int .i64 t, .int .i64 id, .slice none 0 0, .int .i64 0, .int .i64 0, .slice none 0 0, .int .i64 0, .slice none 0 0] 67 (0, 0))) := Lh (setCell_heap (HB5.out))
  have HR6 := Lh (mj.heap HR5.out (by omega))
  have HKP6 : Hid (Kp Tj.Leaf w5 (w5.setCell ⟨gb, 2, none⟩ (.int .i64 id))) := Lh (Kp.box mj HB5.out (by decide))
  clear mj
  have k0 := alw (cQ 0 HB6.out)
  have k1 := alw (cQ 1 HB6.out)
  have k2 := alw (cQ 2 HB6.out)
  have k3 := alw (cQ 3 HB6.out)
  have k4 := alw (cQ 4 HB6.out)
  have k5 := alw (cQ 5 HB6.out)
  have k6 := alw (cQ 6 HB6.out)
  have k7 := alw (cQ 7 HB6.out)
  have k8 := alw (cQ 8 HB6.out)
  go_wp2_with (refine wpList_store_box rfl 67 (.tmp 2) (.tmp 81) rfl w.heap.size #[.int .i64 3, .int .i64 t, .int .i64 id, .slice none 0 0, .int .i64 0, .int .i64 0, .slice none 0 0, .int .i64 0, .slice none 0 0] rfl rfl 67 (Yq6 ) HR6.out (by kernel_rfl) rfl (by simp [Value.oneCell']) ?_)
  intro wf hmf hbf
  have q0 := cQ 0 hbf
  have q1 := cQ 1 hbf
  have q2 := cQ 2 hbf
  have q3 := cQ 3 hbf
  have q4 := cQ 4 hbf
  have q5 := cQ 5 hbf
  have q6 := cQ 6 hbf
  have q7 := cQ 7 hbf
  have q8 := cQ 8 hbf
  have HMF := Lh hmf
  have HKF : Hid (Kp Tj.Leaf _ wf) := Lh (Kp.box hmf HR6.out (by decide))
  clear hmf hbf
  go_wp2_with fail
  refine bodyPost_ret (v := .agg #[.int .i64 3, .int .i64 t, .int .i64 id, .slice none 0 0, .int .i64 0, .int .i64 0, .slice none 0 0, .int .i64 0, .slice none 0 0]) (by simp [results, Tryz.results121, go_sem, q0, q1, q2, q3, q4, q5, q6, q7, q8]) rfl ⟨[.int .i64 3, .int .i64 t, .int .i64 id, .slice none 0 0, .int .i64 0, .int .i64 0, .slice none 0 0, .int .i64 0, .slice none 0 0], rfl, HM6.out.over HMF.out (fun i hi => by omega), HD6.out.set HMF.out (by omega) (by omega), ?_⟩
  have bz : Tj.B64 0 := ⟨by omega, by omega⟩
  have bk : Tj.B64 3 := ⟨by omega, by omega⟩
  have bt : Tj.B64 t := ⟨by omega, by omega⟩
  have bi : Tj.B64 id := ⟨by omega, by omega⟩
  exact ⟨_, _, _, _, _, _, rfl, ⟨bk, bt, bi, bz, bz, bz⟩, Jn.KOwn.nil, Jn.UOwn.nil, Jn.UOwn.nil⟩
 ·rw [show Jn.norm ⟨4, t, id, ⟨ks, pr, ⟨ca, ar⟩⟩, ⟨da, dr⟩⟩ = ⟨4, t, 0, ⟨[], 0, ⟨0, []⟩⟩, ⟨da, dr⟩⟩ by simp [Jn.norm]]
  rw [show Jn.eOp ⟨4, t, id, ⟨ks, pr, ⟨ca, ar⟩⟩, ⟨da, dr⟩⟩ ++ l = 4 :: (Jn.bn 2 t ++ (Jn.eCall ⟨da, dr⟩ ++ l)) by unfold Jn.eOp; simp] at hd0
  have HD0 := Lh hd0
  clear hd0 hx0
  go_enter Tryz.func121, Tryz.ntmps121
  go_wp2_with fail
  refine (dnum_1 HD0.out ⟨by omega, by omega⟩).mono ?_
  rintro e w1 ⟨rfl, m1, d1⟩
  have HM1 := Lh (HM0.out.trans m1)
  have HR1 := Lh (m1.heap HRB.out (by omega))
  have HD1 := Lh d1
  have hle1 := m1.size
  simp only [szA] at hle1
  clear m1 d1
  go_wp2_with fail
  have hb1 := aH w1 (.cells #[.int .i64 4, .int .i64 0, .int .i64 0, .slice none 0 0, .int .i64 0, .int .i64 0, .slice none 0 0, .int .i64 0, .slice none 0 0] 67)
  have x1 : Ext w1 (w1.alloc (.cells #[.int .i64 4, .int .i64 0, .int .i64 0, .slice none 0 0, .int .i64 0, .int .i64 0, .slice none 0 0, .int .i64 0, .slice none 0 0] 67)) := grows
  refine (drequire_any (HD1.out.ext x1) _).mono ?_
  rintro e w2 ⟨rfl, x2⟩
  obtain ⟨gb, hgb⟩ : ∃ z, z = w1.heap.size := ⟨_, rfl⟩
  rw [← hgb] at hb1 ⊢
  have hgl : w.heap.size < gb := by omega
  have HM2 := Lh (HM1.out.trans (Mod.of_ext (x1.trans x2)))
  have HD2 := Lh (HD1.out.ext (x1.trans x2))
  have HB2 := Lh (x2.heap hb1)
  have HR2 := Lh (x2.heap (x1.heap HR1.out))
  have hle2 := HM2.out.size
  clear hb1 x1 x2 hgb
  go_wp2_with fail
  refine (dnum_bn (n := 2) HD2.out (Jn.nm2 ⟨ht0, ht1⟩)).mono ?_
  rintro e w3 ⟨rfl, m3, d3⟩
  have HM3 : Hid (Mod (· = g) w w3) := Lh (HM2.out.trans m3)
  have HD3 := Lh d3
  have HB3 := Lh (m3.heap HB2.out (by omega))
  have HR3 := Lh (m3.heap HR2.out (by omega))
  have hle3 := HM3.out.size
  have HKM3 := Lh (HD2.out.kp (Ts := Tj.Leaf) m3 (by decide))
  clear m3 d3
  have z1 : w3.cell? ⟨gb, 1, none⟩ = some (.int .i64 0) := cQ 1 HB3.out
  have zf : w3.frozen? ⟨gb, 1, none⟩ = false := free_of HB3.out
  have mj : Mod (· = gb) w3 (w3.setCell ⟨gb, 1, none⟩ (.int .i64 t)) := Mod.setCell (S := fun k => k = gb) (p := ⟨gb, 1, none⟩) (Mod.refl _ _) (.inl rfl) _
  have HM4 := Lh (HM3.out.over mj (fun i hi => by omega))
  have HD4 := Lh (HD3.out.set mj (by omega) (by omega))
  have HB4 : Hid ((w3.setCell ⟨gb, 1, none⟩ (.int .i64 t)).heap[gb]? = some (.cells #[.int .i64 4, .int .i64 t, .int .i64 0, .slice none 0 0, .int .i64 0, .int .i64 0, .slice none 0 0, .int .i64 0, .slice none 0 0] 67 (0, 0))) := Lh (setCell_heap (HB3.out))
  have HR4 := Lh (mj.heap HR3.out (by omega))
  have HKP4 : Hid (Kp Tj.Leaf w3 (w3.setCell ⟨gb, 1, none⟩ (.int .i64 t))) := Lh (Kp.box mj HB3.out (by decide))
  clear mj
  have k0 := alw (cQ 0 HB4.out)
  go_wp2_with fail
  refine (dcall_any (c := ⟨da, dr⟩) HD4.out hcl HU3.out).mono ?_
  rintro e w5 ⟨va, vc, rfl, m5, d5, o5⟩
  have HU5 : Hid (Tj.UOwn w.heap.size w5 (.slice va _ vc) _) := Lh ⟨own_base o5 HM4.out.size, HU3.out⟩
  clear o5
  have HM5 : Hid (Mod (· = g) w w5) := Lh (HM4.out.trans m5)
  have HD5 := Lh d5
  have HB5 := Lh (m5.heap HB4.out (by omega))
  have HR5 := Lh (m5.heap HR4.out (by omega))
  have hle5 := HM5.out.size
  have HKM5 := Lh (HD4.out.kp (Ts := Tj.Leaf) m5 (by decide))
  clear m5 d5
  have z7 : w5.cell? ⟨gb, 7, none⟩ = some (.int .i64 0) := cQ 7 HB5.out
  have f7 : w5.frozen? ⟨gb, 7, none⟩ = false := free_of HB5.out
  have z8 : w5.cell? ⟨gb, 8, none⟩ = some (.slice none 0 0) := cQ 8 HB5.out
  have f8 : w5.frozen? ⟨gb, 8, none⟩ = false := free_of HB5.out
  have mj : Mod (· = gb) w5 ((w5.setCell ⟨gb, 7, none⟩ (.int .i64 da)).setCell ⟨gb, 8, none⟩ (.slice va dr.length vc)) := Mod.setCell (S := fun k => k = gb) (p := ⟨gb, 8, none⟩) (Mod.setCell (S := fun k => k = gb) (p := ⟨gb, 7, none⟩) (Mod.refl _ _) (.inl rfl) _) (.inl rfl) _
  have HM6 := Lh (HM5.out.over mj (fun i hi => by omega))
  have HD6 := Lh (HD5.out.set mj (by omega) (by omega))
  have HB6 : Hid (((w5.setCell ⟨gb, 7, none⟩ (.int .i64 da)).setCell ⟨gb, 8, none⟩ (.slice va dr.length vc)).heap[gb]? = some (.cells #[.int .i64 4, .int .i64 t, .int .i64 0, .slice none 0 0, .int .i64 0, .int .i64 0, .slice none 0 0, .int .i64 da, .slice va dr.length vc] 67 (0, 0))) := Lh (setCell_heap (setCell_heap (HB5.out)))
  have HR6 := Lh (mj.heap HR5.out (by omega))
  have HKP6 : Hid (Kp Tj.Leaf w5 ((w5.setCell ⟨gb, 7, none⟩ (.int .i64 da)).setCell ⟨gb, 8, none⟩ (.slice va dr.length vc))) := Lh (Kp.box mj HB5.out (by decide))
  clear mj
  have k0 := alw (cQ 0 HB6.out)
  have k1 := alw (cQ 1 HB6.out)
  have k2 := alw (cQ 2 HB6.out)
  have k3 := alw (cQ 3 HB6.out)
  have k4 := alw (cQ 4 HB6.out)
  have k5 := alw (cQ 5 HB6.out)
  have k6 := alw (cQ 6 HB6.out)
  have k7 := alw (cQ 7 HB6.out)
  have k8 := alw (cQ 8 HB6.out)
  go_wp2_with (refine wpList_store_box rfl 67 (.tmp 2) (.tmp 81) rfl w.heap.size #[.int .i64 4, .int .i64 t, .int .i64 0, .slice none 0 0, .int .i64 0, .int .i64 0, .slice none 0 0, .int .i64 da, .slice va dr.length vc] rfl rfl 67 (Yq6 ) HR6.out (by kernel_rfl) rfl (by simp [Value.oneCell']) ?_)
  intro wf hmf hbf
  have q0 := cQ 0 hbf
  have q1 := cQ 1 hbf
  have q2 := cQ 2 hbf
  have q3 := cQ 3 hbf
  have q4 := cQ 4 hbf
  have q5 := cQ 5 hbf
  have q6 := cQ 6 hbf
  have q7 := cQ 7 hbf
  have q8 := cQ 8 hbf
  have HMF := Lh hmf
  have HKF : Hid (Kp Tj.Leaf _ wf) := Lh (Kp.box hmf HR6.out (by decide))
  clear hmf hbf
  go_wp2_with fail
  refine bodyPost_ret (v := .agg #[.int .i64 4, .int .i64 t, .int .i64 0, .slice none 0 0, .int .i64 0, .int .i64 0, .slice none 0 0, .int .i64 da, .slice va dr.length vc]) (by simp [results, Tryz.results121, go_sem, q0, q1, q2, q3, q4, q5, q6, q7, q8]) rfl ⟨[.int .i64 4, .int .i64 t, .int .i64 0, .slice none 0 0, .int .i64 0, .int .i64 0, .slice none 0 0, .int .i64 da, .slice va dr.length vc], rfl, HM6.out.over HMF.out (fun i hi => by omega), HD6.out.set HMF.out (by omega) (by omega), ?_⟩
  have bz : Tj.B64 0 := ⟨by omega, by omega⟩
  have bk : Tj.B64 4 := ⟨by omega, by omega⟩
  have bt : Tj.B64 t := ⟨by omega, by omega⟩
  have bd : Tj.B64 da := by have h := hcl.1; simp only [Jn.sh] at h; exact ⟨by omega, by omega⟩
  exact ⟨_, _, _, _, _, _, rfl, ⟨bk, bt, bz, bz, bz, bd⟩, Jn.KOwn.nil, Jn.UOwn.nil, (HU5.out.kp HKP6.out).kp HKF.out⟩
theorem cinf_TableOp : (Tryz.prog.info? 67).map (fun i => (i.zero, i.size, i.bytes)) = some (some (.agg (Yq6 )), 9, 120) := by kernel_rfl
namespace Jn
/-- kinds of a list of operations -/
abbrev OT : List TypeId := [67, 209, 118]
abbrev OpsO (B : Nat) (w : World) (v : Value) (l : List Tj.TOp) : Prop := Tj.OL B 67 9 (OpO B) w v l
theorem OpsO.kp {B : Nat} {w w' : World} {v : Value} {l : List Tj.TOp} (h : OpsO B w v l) (k : Kp OT w w') : OpsO B w' v l := Tj.OL.kp h k (by decide) (fun _ _ h => h.kp (k.sub (by decide)))
theorem OpsO.rows {B : Nat} {w : World} {v : Value} {l : List Tj.TOp} (h : OpsO B w v l) : Rows w 9 Tj.TOpR v l := Tj.OL.rows h (fun _ _ h => h.opR)
end Jn
/-- what decoding leaves -/
def DecP (W : World) (l : List Tj.TOp) (e : Ending) (w' : World) : Prop := ∃ va vc, e = .returned (.tuple #[.slice va l.length vc, .int .i64 0]) ∧ Ext W w' ∧ Jn.OpsO W.heap.size w' (.slice va l.length vc) l
theorem decode_any {W : World} {v : Value} {l : List Tj.TOp} (hv : Byt W v (Jn.enc l)) (h64 : l.length ≤ 64) (hok : ∀ o ∈ l, Jn.ok o ∧ Jn.us o) : Calls Tryz.prog 72 #[v] W (DecP W (l.map Jn.norm)) := by
 have HOK := Lh hok
 have hxb : Ext W (W.alloc (.cells #[v, .int .i64 0] 213)) := grows
 have hdc : Dc W (W.alloc (.cells #[v, .int .i64 0] 213)) W.heap.size (Jn.enc l) := ⟨hxb, Nat.le_refl _, v, aH _ _, hv⟩
 obtain ⟨a, c, rfl, _, _⟩ := hv.pre
 have HN0 : Hid (Calls Tryz.prog 119 #[.pointer (some ⟨W.heap.size, 0, none⟩), .int .i64 1] (W.alloc (.cells #[.slice a (Jn.enc l).length c, .int .i64 0] 213)) (NumP W (W.alloc (.cells #[.slice a (Jn.enc l).length c, .int .i64 0] 213)) W.heap.size (l.length : Int) (l.flatMap Jn.eOp))) := Lh (dnum_1 hdc ⟨by omega, by omega⟩)
 have HX0 := Lh hxb
 have d0 : decide ((l.length : Int) ≤ 64) = true := dTt (by omega)
 clear hv hok hxb hdc
 go_enter Tryz.func72, Tryz.ntmps72
 go_wp2_with fail
 refine HN0.out.mono ?_
 rintro e w1 ⟨rfl, m1, hd1⟩
 obtain ⟨g, hg⟩ : ∃ z, z = W.heap.size := ⟨_, rfl⟩
 rw [← hg] at m1 hd1 ⊢
 have HD1 := Lh hd1
 clear m1 hd1 hg
 go_wp2_with fail
 refine (drequire_any HD1.out _).mono ?_
 rintro e w2 ⟨rfl, x2⟩
 have HD2 := Lh (HD1.out.ext x2)
 clear x2
 go_wp2_with fail
 go_loopw [6, 7] (fun q i wr => ∃ k : Nat, k ≤ l.length ∧ i = .int .i64 k ∧ ∃ oa oc, q = .slice oa k oc ∧ Hid (Dc W wr g ((l.drop k).flatMap Jn.eOp) ∧ Jn.OpsO W.heap.size wr (.slice oa k oc) ((l.take k).map Jn.norm))) (fun _ i _ => l.length - (intOf i).toNat)
 case atStart => exact ⟨0, Nat.zero_le _, rfl, none, 0, rfl, Lh ⟨HD2.out, [], Tj.OLc.start _ _ _ _ _⟩⟩
 case round =>
  obtain ⟨k, hk, rfl, oa, oc, rfl, HQ⟩ := hrel
  have ke := alw HQ.out.1.cell1
  by_cases hlt : k < l.length
  ·obtain ⟨o, hx⟩ : ∃ x, l[k]? = some x := ⟨_, gE hlt⟩
   have hoo := HOK.out o (List.mem_of_getElem? hx)
   have hDr := HQ.out.1
   rw [show (l.drop k).flatMap Jn.eOp = Jn.eOp o ++ (l.drop (k + 1)).flatMap Jn.eOp by rw [List.drop_eq_getElem_cons hlt, (List.getElem?_eq_some_iff.1 hx).2, List.flatMap_cons]] at hDr
   obtain ⟨N, hN⟩ : ∃ z, z = Jn.norm o := ⟨_, rfl⟩
   have HDO : Hid (Calls Tryz.prog 121 #[.pointer (some ⟨g, 0, none⟩)] wr (OpP W wr g ((l.drop (k + 1)).flatMap Jn.eOp) N)) := Lh (by rw [hN]; exact dop_any hDr hoo.1 hoo.2)
   have HDR := Lh hDr
   have HTK : Hid ((l.take (k + 1)).map Jn.norm = (l.take k).map Jn.norm ++ [N]) := Lh (by rw [take_succ_get hx, List.map_append, hN]; rfl)
   clear hx hoo hDr hN
   go_wp2_with fail
   refine HDO.out.mono ?_
   rintro e w3 ⟨cs, rfl, m3, hd3, ⟨ka, kc, ga, gc, ha, hc, rfl, hb6, hk3, hg3, hh3⟩⟩
   have hkp3 := HDR.out.kp (Ts := Jn.OT) m3 (by decide)
   have hol := HQ.out.2.kp hkp3
   obtain ⟨css, hc1, hc2, hc3, hc4, hc5⟩ := hol
   have hlk : ((l.take k).map Jn.norm).length = k := by rw [List.length_map, List.length_take]; omega
   have HD3 := Lh hd3
   have hle3 := hd3.1.le
   have hbb := HDR.out.1.le
   have HC3 : Hid (Tj.OLc W.heap.size 67 9 (Jn.OpO W.heap.size) w3 (.slice oa k oc) ((l.take k).map Jn.norm) css) := Lh ⟨hc1, hc2, hc3, hc4, hc5⟩
   rw [hlk] at hc4
   have HO3 := Lh hc4
   have HP3 : Hid (Jn.OpO W.heap.size w3 [.int .i64 N.k, .int .i64 N.t, .int .i64 N.id, .slice ka N.e.ks.length kc, .int .i64 N.e.pr, .int .i64 N.e.cl.a, .slice ga N.e.cl.ar.length gc, .int .i64 N.c.a, .slice ha N.c.ar.length hc] N) := Lh ⟨ka, kc, ga, gc, ha, hc, rfl, hb6, hk3.low hbb, hg3.low hbb, hh3.low hbb⟩
   have HLK := Lh hlk
   have HS3 := Lh (src_agg w3 [.int .i64 N.k, .int .i64 N.t, .int .i64 N.id, .slice ka N.e.ks.length kc, .int .i64 N.e.pr, .int .i64 N.e.cl.a, .slice ga N.e.cl.ar.length gc, .int .i64 N.c.a, .slice ha N.c.ar.length hc] 67 (by simp [Value.oneCell']))
   clear m3 hd3 hb6 hk3 hg3 hh3 hkp3 hc1 hc2 hc3 hc4 hc5 hlk
   go_wp2_with (at_builtin; refine wpList_append_fresh rfl (.tmp 30) (.tmp 33) 52 rfl W.heap.size 67 (.agg (Yq6 )) 9 120 Tryz.underlying52 cinf_TableOp rfl (by decide) (.slice oa k oc) k _ rfl (own_ext HO3.out ((eR w3).alloc _)) _ 1 _ rfl HS3.out (by unfold maxLen; omega) (by omega) (by simp only [szA]; omega) ?_)
   intro v' w4 hown hgr hfr
   obtain ⟨oa4, oc4, rfl⟩ := own_slice hown
   have hO := own_ext HO3.out ((eR w3).alloc (.cells #[.int .i64 N.k, .int .i64 N.t, .int .i64 N.id, .slice ka N.e.ks.length kc, .int .i64 N.e.pr, .int .i64 N.e.cl.a, .slice ga N.e.cl.ar.length gc, .int .i64 N.c.a, .slice ha N.c.ar.length hc] 67))
   have hk4 : Kp Tj.Leaf w3 w4 := (Kp.ext ((eR w3).alloc (.cells #[.int .i64 N.k, .int .i64 N.t, .int .i64 N.id, .slice ka N.e.ks.length kc, .int .i64 N.e.pr, .int .i64 N.e.cl.a, .slice ga N.e.cl.ar.length gc, .int .i64 N.c.a, .slice ha N.c.ar.length hc] 67))).trans (Kp.grown hgr hO (by decide))
   have hd4 := (HD3.out.ext ((eR w3).alloc (.cells #[.int .i64 N.k, .int .i64 N.t, .int .i64 N.id, .slice ka N.e.ks.length kc, .int .i64 N.e.pr, .int .i64 N.e.cl.a, .slice ga N.e.cl.ar.length gc, .int .i64 N.c.a, .slice ha N.c.ar.length hc] 67))).grown hgr hO (by decide) (Nat.le_refl _)
   have HN : Hid (Dc W w4 g ((l.drop (k + 1)).flatMap Jn.eOp) ∧ Jn.OpsO W.heap.size w4 (.slice oa4 (k + 1) oc4) ((l.take (k + 1)).map Jn.norm)) := Lh ⟨hd4, by rw [HTK.out]; exact ⟨_, Tj.OLc.push HC3.out (fun _ _ h => h.kp hk4) (by rw [HLK.out]; exact hown) (HP3.out.kp hk4) rfl (by simp [Value.oneCell'])⟩⟩
   clear hown hgr hfr hO hk4 hd4
   go_wp2_with fail
   go_roundw
   case rel => exact ⟨k + 1, by omega, by go_num, oa4, oc4, rfl, HN⟩
   case measure => simp [intOf]; omega
  ·obtain rfl : k = l.length := by omega
   have hd := HQ.out.1
   have ho := HQ.out.2
   rw [List.drop_length] at hd
   rw [List.take_length] at ho
   have HDF := Lh hd
   have HO : Hid (Jn.OpsO W.heap.size wr (.slice oa (l.map Jn.norm).length oc) (l.map Jn.norm)) := Lh (by rw [List.length_map]; exact ho)
   obtain ⟨_, _, vb, hgb, hbb⟩ := hd
   obtain ⟨ba, bc, rfl, _, _⟩ := hbb.pre
   have kb := alw (cQ 0 hgb)
   clear ho hgb hbb HQ
   go_wp2_with fail
   refine (drequire_any HDF.out _).mono ?_
   rintro e w5 ⟨rfl, x5⟩
   have ke5 := alw (HDF.out.ext x5).cell1
   have HX5 := Lh (HDF.out.1.trans x5)
   have HO5 := Lh (HO.out.kp (Kp.ext x5))
   clear x5
   go_wp2_with fail
   refine bodyPost_ret (v := .tuple #[.slice oa (l.map Jn.norm).length oc, .int .i64 0]) (by simp [results, Tryz.results72, go_sem]) rfl ⟨_, _, rfl, HX5.out, HO5.out⟩
namespace Jn
open Tj
theorem norm_op {F : FP} {C : Cfg} {o : TOp} (h : ok o) : opE F C (norm o) = opE F C o ∧ opC C (norm o) = opC C o := by
 obtain ⟨_, h⟩ := h
 rcases h with ⟨hk, _⟩ | ⟨hk, _⟩ | ⟨hk, _⟩ | ⟨hk, _⟩ <;> simp [norm, opE, opC, hk]
theorem norm_runs {F : FP} : ∀ (l : List TOp) (C : Cfg), (∀ o ∈ l, ok o) → runsE F C (l.map norm) = runsE F C l ∧ runsC C (l.map norm) = runsC C l
 | [], _, _ => ⟨rfl, rfl⟩
 | o :: l, C, h => by
  obtain ⟨h1, h2⟩ := norm_op (F := F) (C := C) (h o (List.mem_cons_self ..))
  obtain ⟨h3, h4⟩ := norm_runs l (opC C o) (fun x hx => h x (List.mem_cons_of_mem _ hx))
  constructor
  ·show (if opE F C (norm o) ≠ 0 then opE F C (norm o) else runsE F (opC C (norm o)) (l.map norm)) = (if opE F C o ≠ 0 then opE F C o else runsE F (opC C o) l)
   rw [h1, h2, h3]
  ·show runsC (opC C (norm o)) (l.map norm) = runsC (opC C o) l
   rw [h2, h4]
theorem norm_txn {F : FP} {C : Cfg} {l : List TOp} (h : ∀ o ∈ l, ok o) : txnE F C (l.map norm) = txnE F C l := by
 unfold txnE; rw [(norm_runs l C h).1, List.length_map]
theorem runs_inv {F : FP} (hz : Sz F) : ∀ (l : List TOp) (C : Cfg), Inv F C → runsE F C l = 0 → Inv F (runsC C l)
 | [], _, h, _ => h
 | o :: l, C, h, he => by
  have h0 : runsE F C (o :: l) = if opE F C o ≠ 0 then opE F C o else runsE F (opC C o) l := rfl
  rw [h0] at he
  by_cases hx : opE F C o = 0
  ·rw [if_neg (by simp [hx])] at he
   exact runs_inv hz l (opC C o) (opC_inv hz h hx) he
  ·rw [if_pos hx] at he; exact absurd he hx
theorem us_of {w : World} {cs : List Value} {o : TOp} (h : TOpR w cs o) : us o := by
 obtain ⟨ka, kc, ga, gc, ha, hc, _, _, h1, h2, h3⟩ := h
 refine ⟨fun k hk => ?_, h2.2, h3.2⟩
 obtain ⟨i, hi⟩ := List.getElem?_of_mem hk
 obtain ⟨b, o, _, _, hat⟩ := Rows.at h1 (by have := (List.getElem?_eq_some_iff.1 hi).1; omega)
 obtain ⟨cs, _, ⟨_, h5⟩, _⟩ := hat i k hi
 exact h5
theorem us_all {w : World} {v : Value} {l : List TOp} (h : Rows w 9 TOpR v l) : ∀ o ∈ l, us o := fun o ho => by
 obtain ⟨a, c, rfl, _⟩ := Rows.slice h
 obtain ⟨i, hi⟩ := List.getElem?_of_mem ho
 obtain ⟨b, q, _, _, hat⟩ := Rows.at h (by have := (List.getElem?_eq_some_iff.1 hi).1; omega)
 obtain ⟨cs, _, h5, _⟩ := hat i o hi
 exact us_of h5
theorem empty_inv {F : FP} (hz : Sz F) (hc : chkF F = 0) : Inv F (empty F) := by
 obtain ⟨_, h2, _⟩ := chk_lim hc
 unfold chkF at hc
 obtain ⟨g1, hc⟩ := orE_0 hc
 obtain ⟨_, hc⟩ := orE_0 hc
 obtain ⟨_, hc⟩ := orE_0 hc
 obtain ⟨_, _⟩ := orE_0 hc
 obtain ⟨_, hr, _, _⟩ := limE_ok g1
 refine ⟨by simp [empty], by simp [empty], by simp [empty], ⟨by simp [empty]; omega, fun rs hrs => ?_, by simp [empty]; omega, by simp [empty]; omega, fun c hc => ?_, by simp [empty, Rg.new]; omega, fun l hl => ?_⟩⟩
 ·simp only [empty, List.mem_map] at hrs
  obtain ⟨_, _, rfl⟩ := hrs
  exact ⟨by simp, fun r hr => by cases hr⟩
 ·simp only [empty, List.mem_map] at hc
  obtain ⟨t, ht, rfl⟩ := hc
  exact (hz.tt t ht).2.2
 ·simp only [empty, Rg.new, List.mem_map] at hl
  obtain ⟨r, hr, rfl⟩ := hl
  unfold Rg.newR
  split
  ·rename_i h6
   unfold Rg.szB at h6
   simp only [Bool.and_eq_true, decide_eq_true_eq] at h6
   simp only [List.length_replicate]
   omega
  ·simp
end Jn
/-- a log at block g: the program p in W0, the configuration C, the records bs, the number n -/
def LogM (W0 w : World) (g : Nat) (p : Pg.PV) (F : Tj.FP) (C : Tj.Cfg) (bs : List Int) (n : Nat) : Prop := Ext W0 w ∧ W0.heap.size ≤ g ∧ Tj.IsG W0 p F ∧ ∃ d0 d1 d2 d3 rv, w.heap[g]? = some (.cells #[.bool true, p.c0, p.c1, p.c2, p.c3, p.c4, p.c5, p.c6, p.c7, p.c8, d0, d1, d2, d3, rv, .int .i64 (n : Int)] 75 (0, 0)) ∧
 (Tj.CfgS w (.agg #[d0, d1, d2, d3]) C ∧ (#[d0, d1, d2, d3] : Array Value).all (·.oneCell') = true) ∧ w.ownsRow W0.heap.size 5 1 rv bs.length (u8s bs) ∧ Io.Bytes bs
theorem CfgS.one {w : World} {d0 d1 d2 d3 : Value} {C : Tj.Cfg} (h : Tj.CfgS w (.agg #[d0, d1, d2, d3]) C) : (#[d0, d1, d2, d3] : Array Value).all (·.oneCell') = true := by
 obtain ⟨r0, c0, r1, c1, r2, c2, r3, c3, e, _⟩ := h.now.form
 simp only [Value.agg.injEq, Array.mk.injEq, List.cons.injEq, and_true] at e
 obtain ⟨rfl, rfl, rfl, rfl⟩ := e
 simp [Value.oneCell']
theorem LogM.ext {W0 w w' : World} {g : Nat} {p : Pg.PV} {F : Tj.FP} {C : Tj.Cfg} {bs : List Int} {n : Nat} (h : LogM W0 w g p F C bs n) (hx : Ext w w') : LogM W0 w' g p F C bs n := by
 obtain ⟨h1, h2, h3, d0, d1, d2, d3, rv, h4, h5, h6, h7⟩ := h
 exact ⟨h1.trans hx, h2, h3, d0, d1, d2, d3, rv, hx.heap h4, ⟨h5.1.ext hx, h5.2⟩, own_ext h6 hx, h7⟩
theorem fld_diag (a b c d : Int) (w : World) : (Instr.field 70 (.agg #[.int .i64 a, .int .i64 b, .int .i64 c, .int .i64 d]) 0).run Tryz.prog w = .ok (.int .i64 a) w := by kernel_rfl
theorem jnew_any {W : World} {p : Pg.PV} {F : Tj.FP} (hG : Tj.IsG W p F) (hz : Tj.Sz F) : Calls Tryz.prog 6 #[p.val] W (fun e w' => Ext W w' ∧ ((Tj.chkF F ≠ 0 ∧ e = .returned (.tuple #[.pointer none, .int .i64 (Tj.chkF F)])) ∨
 (Tj.chkF F = 0 ∧ ∃ g q W0, e = .returned (.tuple #[.pointer (some ⟨g, 0, none⟩), .int .i64 0]) ∧ Ext W W0 ∧ LogM W0 w' g q F (Tj.empty F) [] 0))) := by
 have HCK := Lh (fun (w : World) (hx : Ext W w) => pcheck2_any (hG.ext hx))
 have HPC := Lh (fun (w : World) (hx : Ext W w) => pclone_any (hG.ext hx) hz)
 have HEC : Hid (Tj.chkF F = 0 → ∀ w, Ext W w → Calls Tryz.prog 18 #[p.val] w (fun e w' => ∃ v, e = .returned v ∧ Ext w w' ∧ Tj.CfgS w' v (Tj.empty F))) := Lh (fun h0 w hx => emptyc_any (hG.ext hx).1 (by
  unfold Tj.chkF at h0
  have := Tj.limE_ok (Jn.orE_0 h0).1; omega) hz.ts (fun t ht => (hz.tt t ht).2.2))
 obtain ⟨hF, _⟩ := hG
 obtain ⟨a1, a2, a3, a4, a5, a6, a7, a8, m1, m2, m3, m4, m5, m6, n7, m7, m8, hf⟩ := hF.form
 obtain ⟨rfl, hnm, hhs, hmd, hrs, has, hts, hss, hct, hdp, l1, l2, l3, l4, l5, l6, l7, l8⟩ := hf
 dsimp only [Pg.PV.val] at *
 obtain ⟨c0, hc0⟩ : ∃ z, z = Tj.chkF F := ⟨_, rfl⟩
 rw [← hc0] at HCK HEC ⊢
 clear hF hnm hhs hmd hrs has hts hss hct hdp hz hc0
 have bx := aH W (.cells (Yq0 F a1 m1 a2 m2 a3 m3 a4 m4 a5 m5 a6 m6 a7 m7 n7 a8 m8) 31)
 have k0 := alw (cQ 0 bx)
 have k1 := alw (cQ 1 bx)
 have k2 := alw (cQ 2 bx)
 have k3 := alw (cQ 3 bx)
 have k4 := alw (cQ 4 bx)
 have k5 := alw (cQ 5 bx)
 have k6 := alw (cQ 6 bx)
 have k7 := alw (cQ 7 bx)
 have k8 := alw (cQ 8 bx)
 clear bx
 go_enter Tryz.func6, Tryz.ntmps6
 go_wp2_with fail
 refine (HCK.out _ grows).mono ?_
 rintro e w3 ⟨b1, b2, b3, rfl, x3⟩
 have s3 := Sm x3
 have HX3 := Lh (grows (a := W) (b := w3))
 clear x3
 have hfd := fld_diag c0 b1 b2 b3
 by_cases h0 : c0 = 0
 ·subst h0
  go_wp2_with fail
  refine Rel.region_tail (W := w3) 3 (Rel.tab [(1, fun v w => ∃ q : Pg.PV, v = q.val ∧ Tj.IsG w q F)]) (Rel.tab_lasts (by intro p hp v w w' hr hx; simp only [List.mem_cons, List.not_mem_nil, or_false] at hp; subst hp; obtain ⟨q, h1, h2⟩ := hr; exact ⟨q, h1, h2.ext hx⟩)) (by kernel_rfl) (by kernel_rfl) (eR _) ?_
  simp only [tkS, tkZ]
  refine Rel.chunkT 1 rfl rfl rfl ?_
  simp only [tkS, tkZ, dpS, dpZ, Nat.reduceAdd]
  repeat (go_big_quiet_step (fail))
  refine wpQuiet_nil ?_
  refine Rel.callG _ rfl rfl rfl Tryz.func17 (by nofun) (by decide) #[.agg (Yq0 F a1 m1 a2 m2 a3 m3 a4 m4 a5 m5 a6 m6 a7 m7 n7 a8 m8)] rfl (fun w hx _ => by refine (HPC.out w (HX3.out.trans hx)).mono ?_; rintro e w9 ⟨v, h1, h2, h3⟩; obtain ⟨q, h4, h5⟩ := h3.now; exact ⟨v, h1, h2, q, h4, h5⟩) ?_
  intro u1 vq _ _ r1
  obtain ⟨⟨y0, y1, y2, y3, y4, y5, y6, y7, y8⟩, rfl, rq⟩ := r1
  dsimp only [Pg.PV.val] at *
  clear rq
  simp only [Act.put, stA, stS, stZ]
  refine Rel.chunkT 1 rfl rfl rfl ?_
  simp only [tkS, tkZ, dpS, dpZ, Nat.reduceAdd]
  repeat (go_big_quiet_step (fail))
  refine wpQuiet_nil ?_
  refine Rel.fin ?_
  intro w7 x7 hf7
  obtain ⟨⟨_, _, _, _, _, _, _, _, _⟩, hveq, hq⟩ := (hf7 1).2 rfl
  simp only [Value.agg.injEq, Array.mk.injEq, List.cons.injEq, and_true] at hveq
  obtain ⟨rfl, rfl, rfl, rfl, rfl, rfl, rfl, rfl, rfl⟩ := hveq
  have s7 := Sm x7
  have HQ := Lh hq
  clear hf7 hq
  have HX7 := Lh (HX3.out.trans x7)
  clear x7
  go_wp2_with fail
  refine (HEC.out trivial _ HX7.out).mono ?_
  rintro e w8 ⟨cv, rfl, x8, hcs⟩
  have hcs' := hcs
  obtain ⟨r0, q0, r1, q1, r2, q2, r3, q3, rfl, _⟩ := hcs'.now.form
  have HCS := Lh hcs
  have HX8 := Lh x8
  have HB8 := Lh (aH w8 (.cells #[.bool true, y0, y1, y2, y3, y4, y5, y6, y7, y8, .slice r0 (Tj.empty F).rows.length q0, .slice r1 (Tj.empty F).nx.length q1, .slice r2 (Tj.empty F).df.length q2, .slice r3 (Tj.empty F).rg.length q3, .slice none 0 0, .int .i64 0] 75))
  have HXA : Hid (Ext w8 (w8.alloc (.cells #[.bool true, y0, y1, y2, y3, y4, y5, y6, y7, y8, .slice r0 (Tj.empty F).rows.length q0, .slice r1 (Tj.empty F).nx.length q1, .slice r2 (Tj.empty F).df.length q2, .slice r3 (Tj.empty F).rg.length q3, .slice none 0 0, .int .i64 0] 75))) := Lh grows
  clear hcs hcs' x8
  go_wp2_with fail
  refine bodyPost_ret (v := .tuple #[.pointer (some ⟨w8.heap.size, 0, none⟩), .int .i64 0]) (by simp [results, Tryz.results6, go_sem]) rfl ⟨HX7.out.trans (HX8.out.trans HXA.out), ⟨w8.heap.size, rfl, ⟨y0, y1, y2, y3, y4, y5, y6, y7, y8⟩, w7, HX7.out, HX8.out.trans HXA.out, HX8.out.le, HQ.out, _, _, _, _, _, HB8.out, ⟨HCS.out.ext HXA.out, CfgS.one HCS.out⟩, World.ownsRow_nil _ _ _ _, fun x hx => by cases hx⟩⟩
 ·have z1 : (c0 != 0) = true := nT h0
  go_wp2_with fail
  exact bodyPost_ret (v := .tuple #[.pointer none, .int .i64 c0]) (by simp [results, Tryz.results6, go_sem]) rfl ⟨HX3.out, .inl ⟨h0, rfl⟩⟩
end Go.Proofs.YthmokhkkdgnbhaaGreat
