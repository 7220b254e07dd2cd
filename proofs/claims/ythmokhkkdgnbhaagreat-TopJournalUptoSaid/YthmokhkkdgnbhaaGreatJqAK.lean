/- Copies of a program's parts, walked. Copies of programs: cloneNode, Clone, walked. No condition. -/
import Derived.Test.YthmokhkkdgnbhaaGreatJqAJ
set_option maxRecDepth 8000
set_option maxHeartbeats 16000000
namespace Go.Proofs.YthmokhkkdgnbhaaGreat
open Go.RowKit
theorem Own.set {B : Nat} {w w1 : World} {P : World → Prop} (h : Own B w P) {S : Nat → Prop} (hm : Mod S w w1) (hs : ∀ k, S k → k < B) : Own B w1 P := fun w2 h2 => h w2 ((hm.mono (fun k _ hk => hs k hk)).trans h2)
theorem NewP.mono {W : World} {P Q : World → Value → Prop} {e : Ending} {w' : World} (h : NewP W P e w') (hi : ∀ w v, P w v → Q w v) : NewP W Q e w' := by
 obtain ⟨v, h1, h2, h3⟩ := h; exact ⟨v, h1, h2, h3.imp (fun w h => hi w v h)⟩
/-- as a step of a drawn region: made anew since B -/
theorem NewP.rel {W : World} {P : World → Value → Prop} {e : Ending} {w' : World} (h : NewP W P e w') {B : Nat} (hB : B ≤ W.heap.size) : ∃ v, e = .returned v ∧ Ext W w' ∧ Own B w' (fun w => P w v) := by
 obtain ⟨v, h1, h2, h3⟩ := h; exact ⟨v, h1, h2, h3.low hB⟩
theorem news_of_row {W : World} {T : TypeId} {sz n : Nat} {xs : List Value} {P : World → Value → Prop} (hP : ∀ w B v, w.ownsRow B T sz v n xs → P w v) {e : Ending} {w' : World} (h : RowP W T sz n xs e w') : NewP W P e w' := by
 obtain ⟨v, h1, h2, h3⟩ := h; exact ⟨v, h1, h2, (Own.of_row h3).imp (fun w h => hP w _ v h)⟩
theorem cl_flds {W : World} {v : Value} {l : List Hd.Fld} (h : Rows W 2 Hd.FieldR v l) (hn : l.length ≤ 1073741824) : Calls Tryz.prog 47 #[v] W (NewP W (fun w v => Rows w 2 Hd.FieldR v l)) := by
 have hm : ∀ d ∈ l, ∀ w, Hd.FieldR w ((fun d => [.string d.1, .int .i64 d.2] : Hd.Fld → List Value) d) d := by
  intro d hd w
  rcases h with ⟨_, rfl⟩ | ⟨ad, c, _, _, _, _, h4⟩
  ·simp at hd
  ·obtain ⟨i, hi⟩ := List.getElem?_of_mem hd
   obtain ⟨cs, _, h5, _⟩ := h4 i d hi
   have h6 := h5
   obtain ⟨rfl, _⟩ := h5
   exact h6
 refine (clone_fld (rows_src (fun d => [.string d.1, .int .i64 d.2] : Hd.Fld → List Value) (by decide) (fun _ => rfl) (fun d u hu => by simp only [List.mem_cons, List.not_mem_nil, or_false] at hu; rcases hu with rfl | rfl <;> rfl) (fun cs d h => h.1) h) hn).mono ?_
 exact fun e w' h => news_of_row (fun w B v ho => rows_flat (f := (fun d => [.string d.1, .int .i64 d.2] : Hd.Fld → List Value)) (fun _ => rfl) (fun d hd => hm d hd w) ho) h
theorem cl_regs {W : World} {v : Value} {l : List Rg.Reg} (h : Rows W 3 Rg.RegR v l) (hn : l.length ≤ 1073741824) : Calls Tryz.prog 48 #[v] W (NewP W (fun w v => Rows w 3 Rg.RegR v l)) := by
 have hm : ∀ d ∈ l, ∀ w, Rg.RegR w ((fun d => [.string d.nm, .int .i64 d.w, .int .i64 d.s] : Rg.Reg → List Value) d) d := by
  intro d hd w
  rcases h with ⟨_, rfl⟩ | ⟨ad, c, _, _, _, _, h4⟩
  ·simp at hd
  ·obtain ⟨i, hi⟩ := List.getElem?_of_mem hd
   obtain ⟨cs, _, h5, _⟩ := h4 i d hi
   have h6 := h5
   obtain ⟨rfl, _⟩ := h5
   exact h6
 refine (clone_reg (rows_src (fun d => [.string d.nm, .int .i64 d.w, .int .i64 d.s] : Rg.Reg → List Value) (by decide) (fun _ => rfl) (fun d u hu => by simp only [List.mem_cons, List.not_mem_nil, or_false] at hu; rcases hu with rfl | rfl | rfl <;> rfl) (fun cs d h => h.1) h) hn).mono ?_
 exact fun e w' h => news_of_row (fun w B v ho => rows_flat (f := (fun d => [.string d.nm, .int .i64 d.w, .int .i64 d.s] : Rg.Reg → List Value)) (fun _ => rfl) (fun d hd => hm d hd w) ho) h
theorem cl_keys {W : World} {v : Value} {l : List Tj.Key} (h : Rows W 3 Tj.KeyR v l) (hn : l.length ≤ 1073741824) : Calls Tryz.prog 100 #[v] W (NewP W (fun w v => Rows w 3 Tj.KeyR v l)) := by
 have hm : ∀ d ∈ l, ∀ w, Tj.KeyR w ((fun d => [.int .i64 d.h, .int .i64 d.f, .int .i64 d.k] : Tj.Key → List Value) d) d := by
  intro d hd w
  rcases h with ⟨_, rfl⟩ | ⟨ad, c, _, _, _, _, h4⟩
  ·simp at hd
  ·obtain ⟨i, hi⟩ := List.getElem?_of_mem hd
   obtain ⟨cs, _, h5, _⟩ := h4 i d hi
   have h6 := h5
   obtain ⟨rfl, _⟩ := h5
   exact h6
 refine (clone_tky (rows_src (fun d => [.int .i64 d.h, .int .i64 d.f, .int .i64 d.k] : Tj.Key → List Value) (by decide) (fun _ => rfl) (fun d u hu => by simp only [List.mem_cons, List.not_mem_nil, or_false] at hu; rcases hu with rfl | rfl | rfl <;> rfl) (fun cs d h => h.1) h) hn).mono ?_
 exact fun e w' h => news_of_row (fun w B v ho => rows_flat (f := (fun d => [.int .i64 d.h, .int .i64 d.f, .int .i64 d.k] : Tj.Key → List Value)) (fun _ => rfl) (fun d hd => hm d hd w) ho) h
theorem cl_cases {W : World} {v : Value} {l : List Ps.Case} (h : Rows W 3 Ps.CaseR v l) (hn : l.length ≤ 1073741824) : Calls Tryz.prog 102 #[v] W (NewP W (fun w v => Rows w 3 Ps.CaseR v l)) := by
 have hm : ∀ d ∈ l, ∀ w, Ps.CaseR w ((fun d => [.int .u32 d.v, .int .u32 d.m, .int .i64 d.nx] : Ps.Case → List Value) d) d := by
  intro d hd w
  rcases h with ⟨_, rfl⟩ | ⟨ad, c, _, _, _, _, h4⟩
  ·simp at hd
  ·obtain ⟨i, hi⟩ := List.getElem?_of_mem hd
   obtain ⟨cs, _, h5, _⟩ := h4 i d hi
   have h6 := h5
   obtain ⟨rfl, _⟩ := h5
   exact h6
 refine (clone_sel (rows_src (fun d => [.int .u32 d.v, .int .u32 d.m, .int .i64 d.nx] : Ps.Case → List Value) (by decide) (fun _ => rfl) (fun d u hu => by simp only [List.mem_cons, List.not_mem_nil, or_false] at hu; rcases hu with rfl | rfl | rfl <;> rfl) (fun cs d h => h.1) h) hn).mono ?_
 exact fun e w' h => news_of_row (fun w B v ho => rows_flat (f := (fun d => [.int .u32 d.v, .int .u32 d.m, .int .i64 d.nx] : Ps.Case → List Value)) (fun _ => rfl) (fun d hd => hm d hd w) ho) h
theorem cl_exp {W : World} {v : Value} {l : List Tj.EN} (h : Rows W 3 Tj.ENR v l) (hn : l.length ≤ 1073741824) : Calls Tryz.prog 103 #[v] W (NewP W (fun w v => Rows w 3 Tj.ENR v l)) := by
 have hm : ∀ d ∈ l, ∀ w, Tj.ENR w ((fun d => [.int .i64 d.op, .int .i64 d.n, .int .i64 d.w] : Tj.EN → List Value) d) d := by
  intro d hd w
  rcases h with ⟨_, rfl⟩ | ⟨ad, c, _, _, _, _, h4⟩
  ·simp at hd
  ·obtain ⟨i, hi⟩ := List.getElem?_of_mem hd
   obtain ⟨cs, _, h5, _⟩ := h4 i d hi
   have h6 := h5
   obtain ⟨rfl, _⟩ := h5
   exact h6
 refine (clone_exn (rows_src (fun d => [.int .i64 d.op, .int .i64 d.n, .int .i64 d.w] : Tj.EN → List Value) (by decide) (fun _ => rfl) (fun d u hu => by simp only [List.mem_cons, List.not_mem_nil, or_false] at hu; rcases hu with rfl | rfl | rfl <;> rfl) (fun cs d h => h.1) h) hn).mono ?_
 exact fun e w' h => news_of_row (fun w B v ho => rows_flat (f := (fun d => [.int .i64 d.op, .int .i64 d.n, .int .i64 d.w] : Tj.EN → List Value)) (fun _ => rfl) (fun d hd => hm d hd w) ho) h
theorem cl_ints {W : World} {v : Value} {l : List Int} (h : Ns .i64 W v l) (hn : l.length ≤ 1073741824) : Calls Tryz.prog 57 #[v] W (NewP W (fun w v => Ns .i64 w v l)) := by
 refine (clone_int h.1 hn).mono ?_
 exact fun e w' g => news_of_row (fun w B v ho => ⟨own_src ho (fun u hu => by obtain ⟨x, _, rfl⟩ := List.mem_map.1 hu; rfl), by unfold maxLen; omega⟩) g
theorem cl_u32s {W : World} {v : Value} {l : List Int} (h : Ns .u32 W v l) (hn : l.length ≤ 1073741824) : Calls Tryz.prog 101 #[v] W (NewP W (fun w v => Ns .u32 w v l)) := by
 refine (clone_u32 h.1 hn).mono ?_
 exact fun e w' g => news_of_row (fun w B v ho => ⟨own_src ho (fun u hu => by obtain ⟨x, _, rfl⟩ := List.mem_map.1 hu; rfl), by unfold maxLen; omega⟩) g
theorem cloneHeader_any {W : World} {cs : List Value} {x : Hd.Hdr} (hR : Hd.HdrR W cs x) (hb : x.2.length ≤ 1073741824) : Calls Tryz.prog 46 #[.agg cs.toArray] W (CopyP W Hd.HdrR x) := by
 obtain ⟨v1, rfl, hs, f1⟩ := hR
 obtain ⟨fa, fc, rfl, _⟩ := f1.slice
 have HC0 := Lh (fun (w : World) (hx : Ext W w) => cl_flds (f1.ext hx) hb)
 have HS := Lh (hs)
 have bx := aH W (.cells #[.string x.1, .slice fa x.2.length fc] 96)
 have k0 := alw (cQ 0 bx)
 have k1 := alw (cQ 1 bx)
 clear bx
 have bx := aH (W.alloc (.cells #[.string x.1, .slice fa x.2.length fc] 96)) (.cells #[.string ⟨#[]⟩, .slice none 0 0] 96)
 rw [szA] at bx
 have r0 := alw (cQ 0 bx)
 have r1 := alw (cQ 1 bx)
 clear bx
 clear hs f1
 go_enter Tryz.func46, Tryz.ntmps46
 go_wp2_with fail
 refine (HC0.out _ grows).mono ?_
 rintro e w7 ⟨u0, rfl, x7, o0⟩
 have O0 := Lh (Own.low o0 (C := ((W.alloc (.cells #[.string x.1, .slice fa x.2.length fc] 96)).alloc (.cells #[.string ⟨#[]⟩, .slice none 0 0] 96)).heap.size) (by simp))
 obtain ⟨ua0, uc0, e0⟩ : ∃ a c, u0 = .slice a x.2.length c := by have h := O0.out.now; obtain ⟨a, c, e, _⟩ := h.slice; exact ⟨a, c, e⟩
 subst e0
 have hb7 := x7.heap (alwB (aH W (.cells #[.string x.1, .slice fa x.2.length fc] 96)) ((W.alloc (.cells #[.string x.1, .slice fa x.2.length fc] 96)).alloc (.cells #[.string ⟨#[]⟩, .slice none 0 0] 96)))
 have hr7 := x7.heap (aH (W.alloc (.cells #[.string x.1, .slice fa x.2.length fc] 96)) (.cells #[.string ⟨#[]⟩, .slice none 0 0] 96))
 rw [szA] at hr7
 have p0 := cQ 0 hb7
 have pf0 := free_of (o := 0) hb7
 have p1 := cQ 1 hb7
 have pf1 := free_of (o := 1) hb7
 have X7 := Lh ((grows (a := W) (b := ((W.alloc (.cells #[.string x.1, .slice fa x.2.length fc] 96)).alloc (.cells #[.string ⟨#[]⟩, .slice none 0 0] 96)))).trans x7)
 have HB7 := Lh hb7
 have HR7 := Lh hr7
 clear o0 k0 k1 r0 r1 hb7 hr7 x7
 go_upto_region 2 with (fail)
 obtain ⟨wz, hwz⟩ : ∃ z, z = (w7.setCell ⟨W.heap.size, 1, none⟩ (.slice ua0 x.2.length uc0)) := ⟨_, rfl⟩
 rw [← hwz]
 have hmz : Mod (· = W.heap.size) w7 wz := by rw [hwz]; repeat' (first | exact Mod.refl _ _ | exact rfl | refine Mod.setCell ?_ (.inl ?_) _)
 have hbz : wz.heap[W.heap.size]? = some (.cells #[.string x.1, .slice ua0 x.2.length uc0] 96 (0, 0)) := by rw [hwz]; exact (setCell_heap HB7.out)
 have HRZ := Lh (hmz.heap HR7.out (by omega))
 have HMZ := Lh hmz
 clear p0 pf0 p1 pf1 hwz hmz
 have p0 := cQ 0 hbz
 have p1 := cQ 1 hbz
 clear hbz
 go_wp2_with (refine wpList_store_box rfl 96 (.tmp 2) (.tmp 7) rfl (W.heap.size + 1) #[.string x.1, .slice ua0 x.2.length uc0] rfl rfl 96 #[.string ⟨#[]⟩, .slice none 0 0] HRZ.out (by kernel_rfl) rfl (by simp [Value.oneCell']) ?_)
 intro wf hmf hbf
 have HMF := Lh hmf
 have q0 := cQ 0 hbf
 have q1 := cQ 1 hbf
 clear hmf hbf p0 p1
 go_wp2_with fail
 refine bodyPost_ret (v := .agg #[.string x.1, .slice ua0 x.2.length uc0]) (by simp [results, Tryz.results46, go_sem, q0, q1]) rfl ⟨_, rfl, ?fx, ?fy⟩
 case fx => exact (X7.out.mod HMZ.out (fun q hq => by omega)).mod HMF.out (fun q hq => by omega)
 case fy =>
  refine (Own.low (Own.set (Own.set O0.out HMZ.out (fun k hk => by simp; omega)) HMF.out (fun k hk => by simp; omega)) (C := W.heap.size) (by simp; omega)).imp (fun w h => ?_)
  exact ⟨_, rfl, HS.out, h⟩
theorem cloneStatement_any {W : World} {cs : List Value} {x : Tj.Stm} (hR : Tj.StmR W cs x) (hb : x.ix.length ≤ 1073741824 ∧ x.va.length ≤ 1073741824) : Calls Tryz.prog 99 #[.agg cs.toArray] W (CopyP W Tj.StmR x) := by
 obtain ⟨v1, v2, rfl, hs, f1, f2⟩ := hR
 obtain ⟨fa, fc, rfl, _⟩ := f1.slice
 obtain ⟨ga, gc, rfl, _⟩ := f2.slice
 have HC0 := Lh (fun (w : World) (hx : Ext W w) => cl_exp (f1.ext hx) hb.1)
 have HC1 := Lh (fun (w : World) (hx : Ext W w) => cl_exp (f2.ext hx) hb.2)
 have HS := Lh (hs)
 have bx := aH W (.cells (Yq9 x fa fc ga gc) 105)
 have k0 := alw (cQ 0 bx)
 have k1 := alw (cQ 1 bx)
 have k2 := alw (cQ 2 bx)
 have k3 := alw (cQ 3 bx)
 have k4 := alw (cQ 4 bx)
 have k5 := alw (cQ 5 bx)
 have k6 := alw (cQ 6 bx)
 clear bx
 have bx := aH (W.alloc (.cells (Yq9 x fa fc ga gc) 105)) (.cells (Yq14 ) 105)
 rw [szA] at bx
 have r0 := alw (cQ 0 bx)
 have r1 := alw (cQ 1 bx)
 have r2 := alw (cQ 2 bx)
 have r3 := alw (cQ 3 bx)
 have r4 := alw (cQ 4 bx)
 have r5 := alw (cQ 5 bx)
 have r6 := alw (cQ 6 bx)
 clear bx
 clear hs f1 f2
 go_enter Tryz.func99, Tryz.ntmps99
 go_wp2_with fail
 refine Rel.region_tail (W := ((W.alloc (.cells (Yq9 x fa fc ga gc) 105)).alloc (.cells (Yq14 ) 105))) 7 (Rel.tab [(2, fun v w => Own ((W.alloc (.cells (Yq9 x fa fc ga gc) 105)).alloc (.cells (Yq14 ) 105)).heap.size w (fun w => Rows w 3 Tj.ENR v x.ix)), (5, fun v w => Own ((W.alloc (.cells (Yq9 x fa fc ga gc) 105)).alloc (.cells (Yq14 ) 105)).heap.size w (fun w => Rows w 3 Tj.ENR v x.va))]) (Rel.tab_lasts (by intro p hp v w w' hr hx; simp only [List.mem_cons, List.not_mem_nil, or_false] at hp; rcases hp with rfl | rfl; (· exact hr.ext hx); (· exact hr.ext hx))) (by kernel_rfl) (by kernel_rfl) (eR _) ?_
 simp only [tkS, tkZ]
 refine Rel.chunkT 2 rfl rfl rfl ?_
 simp only [tkS, tkZ, dpS, dpZ, Nat.reduceAdd]
 repeat (go_big_quiet_step (fail))
 refine wpQuiet_nil ?_
 refine Rel.callG _ rfl rfl rfl Tryz.func103 (by nofun) (by decide) #[.slice fa x.ix.length fc] rfl (fun w hx _ => by refine (HC0.out w ((grows (a := W) (b := ((W.alloc (.cells (Yq9 x fa fc ga gc) 105)).alloc (.cells (Yq14 ) 105)))).trans hx)).mono ?_; intro e w9 h9; exact h9.rel hx.le) ?_
 intro u0 v0 _ _ r0
 simp only [Act.put, stA, stS, stZ]
 refine Rel.chunkT 2 rfl rfl rfl ?_
 simp only [tkS, tkZ, dpS, dpZ, Nat.reduceAdd]
 repeat (go_big_quiet_step (fail))
 refine wpQuiet_nil ?_
 refine Rel.callG _ rfl rfl rfl Tryz.func103 (by nofun) (by decide) #[.slice ga x.va.length gc] rfl (fun w hx _ => by refine (HC1.out w ((grows (a := W) (b := ((W.alloc (.cells (Yq9 x fa fc ga gc) 105)).alloc (.cells (Yq14 ) 105)))).trans hx)).mono ?_; intro e w9 h9; exact h9.rel hx.le) ?_
 intro u1 v1 _ _ r1
 simp only [Act.put, stA, stS, stZ]
 refine Rel.chunkT 1 rfl rfl rfl ?_
 simp only [tkS, tkZ, dpS, dpZ, Nat.reduceAdd]
 repeat (go_big_quiet_step (fail))
 refine wpQuiet_nil ?_
 refine Rel.fin ?_
 intro w7 x7 hf7
 have O0 := Lh ((hf7 2).1.2 rfl)
 have O1 := Lh ((hf7 5).2 rfl)
 clear hf7 r0 r1
 obtain ⟨ua0, uc0, e0⟩ : ∃ a c, u0 = .slice a x.ix.length c := by have h := O0.out.now; obtain ⟨a, c, e, _⟩ := h.slice; exact ⟨a, c, e⟩
 subst e0
 obtain ⟨ua1, uc1, e1⟩ : ∃ a c, u1 = .slice a x.va.length c := by have h := O1.out.now; obtain ⟨a, c, e, _⟩ := h.slice; exact ⟨a, c, e⟩
 subst e1
 have hb7 := x7.heap (alwB (aH W (.cells (Yq9 x fa fc ga gc) 105)) ((W.alloc (.cells (Yq9 x fa fc ga gc) 105)).alloc (.cells (Yq14 ) 105)))
 have hr7 := x7.heap (aH (W.alloc (.cells (Yq9 x fa fc ga gc) 105)) (.cells (Yq14 ) 105))
 rw [szA] at hr7
 clear k0 r0 k1 r1 k2 r2 k3 r3 k4 r4 k5 r5 k6 r6
 have p0 := cQ 0 hb7
 have pf0 := free_of (o := 0) hb7
 have p1 := cQ 1 hb7
 have pf1 := free_of (o := 1) hb7
 have p2 := cQ 2 hb7
 have pf2 := free_of (o := 2) hb7
 have p3 := cQ 3 hb7
 have pf3 := free_of (o := 3) hb7
 have p4 := cQ 4 hb7
 have pf4 := free_of (o := 4) hb7
 have p5 := cQ 5 hb7
 have pf5 := free_of (o := 5) hb7
 have p6 := cQ 6 hb7
 have pf6 := free_of (o := 6) hb7
 have HB7 := Lh hb7
 have HR7 := Lh hr7
 have X7 := Lh ((grows (a := W) (b := ((W.alloc (.cells (Yq9 x fa fc ga gc) 105)).alloc (.cells (Yq14 ) 105)))).trans x7)
 clear hb7 hr7 x7
 go_upto_region 2 with (fail)
 obtain ⟨wz, hwz⟩ : ∃ z, z = ((w7.setCell ⟨W.heap.size, 5, none⟩ (.slice ua0 x.ix.length uc0)).setCell ⟨W.heap.size, 6, none⟩ (.slice ua1 x.va.length uc1)) := ⟨_, rfl⟩
 rw [← hwz]
 have hmz : Mod (· = W.heap.size) w7 wz := by rw [hwz]; repeat' (first | exact Mod.refl _ _ | exact rfl | refine Mod.setCell ?_ (.inl ?_) _)
 have hbz : wz.heap[W.heap.size]? = some (.cells #[.int .i64 x.k, .int .i64 x.dh, .int .i64 x.df, .int .i64 x.rg, .int .i64 x.hd, .slice ua0 x.ix.length uc0, .slice ua1 x.va.length uc1] 105 (0, 0)) := by rw [hwz]; exact (setCell_heap (setCell_heap HB7.out))
 have HRZ := Lh (hmz.heap HR7.out (by omega))
 have HMZ := Lh hmz
 clear p0 pf0 p1 pf1 p2 pf2 p3 pf3 p4 pf4 p5 pf5 p6 pf6 hwz hmz
 have p0 := cQ 0 hbz
 have p1 := cQ 1 hbz
 have p2 := cQ 2 hbz
 have p3 := cQ 3 hbz
 have p4 := cQ 4 hbz
 have p5 := cQ 5 hbz
 have p6 := cQ 6 hbz
 clear hbz
 go_wp2_with (refine wpList_store_box rfl 105 (.tmp 2) (.tmp 11) rfl (W.heap.size + 1) #[.int .i64 x.k, .int .i64 x.dh, .int .i64 x.df, .int .i64 x.rg, .int .i64 x.hd, .slice ua0 x.ix.length uc0, .slice ua1 x.va.length uc1] rfl rfl 105 (Yq14 ) HRZ.out (by kernel_rfl) rfl (by simp [Value.oneCell']) ?_)
 intro wf hmf hbf
 have HMF := Lh hmf
 have q0 := cQ 0 hbf
 have q1 := cQ 1 hbf
 have q2 := cQ 2 hbf
 have q3 := cQ 3 hbf
 have q4 := cQ 4 hbf
 have q5 := cQ 5 hbf
 have q6 := cQ 6 hbf
 clear hmf hbf p0 p1 p2 p3 p4 p5 p6
 go_wp2_with fail
 refine bodyPost_ret (v := .agg #[.int .i64 x.k, .int .i64 x.dh, .int .i64 x.df, .int .i64 x.rg, .int .i64 x.hd, .slice ua0 x.ix.length uc0, .slice ua1 x.va.length uc1]) (by simp [results, Tryz.results99, go_sem, q0, q1, q2, q3, q4, q5, q6]) rfl ⟨_, rfl, ?fx, ?fy⟩
 case fx => exact (X7.out.mod HMZ.out (fun q hq => by omega)).mod HMF.out (fun q hq => by omega)
 case fy =>
  refine (Own.low (Own.set (Own.set (O0.out.and O1.out) HMZ.out (fun k hk => by simp; omega)) HMF.out (fun k hk => by simp; omega)) (C := W.heap.size) (by simp; omega)).imp (fun w h => ?_)
  exact ⟨_, _, rfl, HS.out, h.1, h.2⟩
theorem cloneAction_any {W : World} {cs : List Value} {x : Tj.Act} (hR : Tj.ActR W cs x) (hb : x.ps.length ≤ 1073741824 ∧ x.bd.length ≤ 1073741824 ∧ ∀ s ∈ x.bd, s.ix.length ≤ 1073741824 ∧ s.va.length ≤ 1073741824) : Calls Tryz.prog 50 #[.agg cs.toArray] W (CopyP W Tj.ActR x) := by
 obtain ⟨v1, v2, rfl, hs, f1, f2⟩ := hR
 obtain ⟨fa, fc, rfl, _⟩ := f1.slice
 obtain ⟨ga, gc, rfl, _⟩ := f2.slice
 have HC0 := Lh (fun (w : World) (hx : Ext W w) => cl_flds (f1.ext hx) hb.1)
 have HC1 : Hid (∀ w, Ext W w → Calls Tryz.prog 98 #[.slice ga x.bd.length gc, .func (.func 99) #[] #[]] w (NewP w (fun w v => Rows w 7 Tj.StmR v x.bd))) := Lh (fun w hx => eachStatement_any (Rows.ext f2 (fun _ _ h => h.ext hx) hx) hb.2.1 (fun cs d w1 hd _ hR => cloneStatement_any hR (hb.2.2 d hd)))
 have HS := Lh (hs)
 have bx := aH W (.cells (Yq23 x fa fc ga gc) 92)
 have k0 := alw (cQ 0 bx)
 have k1 := alw (cQ 1 bx)
 have k2 := alw (cQ 2 bx)
 clear bx
 have bx := aH (W.alloc (.cells (Yq23 x fa fc ga gc) 92)) (.cells #[.string ⟨#[]⟩, .slice none 0 0, .slice none 0 0] 92)
 rw [szA] at bx
 have r0 := alw (cQ 0 bx)
 have r1 := alw (cQ 1 bx)
 have r2 := alw (cQ 2 bx)
 clear bx
 clear hs f1 f2
 go_enter Tryz.func50, Tryz.ntmps50
 go_wp2_with fail
 refine Rel.region_tail (W := ((W.alloc (.cells (Yq23 x fa fc ga gc) 92)).alloc (.cells #[.string ⟨#[]⟩, .slice none 0 0, .slice none 0 0] 92))) 7 (Rel.tab [(2, fun v w => Own ((W.alloc (.cells (Yq23 x fa fc ga gc) 92)).alloc (.cells #[.string ⟨#[]⟩, .slice none 0 0, .slice none 0 0] 92)).heap.size w (fun w => Rows w 2 Hd.FieldR v x.ps)), (5, fun v w => Own ((W.alloc (.cells (Yq23 x fa fc ga gc) 92)).alloc (.cells #[.string ⟨#[]⟩, .slice none 0 0, .slice none 0 0] 92)).heap.size w (fun w => Rows w 7 Tj.StmR v x.bd))]) (Rel.tab_lasts (by intro p hp v w w' hr hx; simp only [List.mem_cons, List.not_mem_nil, or_false] at hp; rcases hp with rfl | rfl; (· exact hr.ext hx); (· exact hr.ext hx))) (by kernel_rfl) (by kernel_rfl) (eR _) ?_
 simp only [tkS, tkZ]
 refine Rel.chunkT 2 rfl rfl rfl ?_
 simp only [tkS, tkZ, dpS, dpZ, Nat.reduceAdd]
 repeat (go_big_quiet_step (fail))
 refine wpQuiet_nil ?_
 refine Rel.callG _ rfl rfl rfl Tryz.func47 (by nofun) (by decide) #[.slice fa x.ps.length fc] rfl (fun w hx _ => by refine (HC0.out w ((grows (a := W) (b := ((W.alloc (.cells (Yq23 x fa fc ga gc) 92)).alloc (.cells #[.string ⟨#[]⟩, .slice none 0 0, .slice none 0 0] 92)))).trans hx)).mono ?_; intro e w9 h9; exact h9.rel hx.le) ?_
 intro u0 v0 _ _ r0
 simp only [Act.put, stA, stS, stZ]
 refine Rel.chunkT 2 rfl rfl rfl ?_
 simp only [tkS, tkZ, dpS, dpZ, Nat.reduceAdd]
 repeat (go_big_quiet_step (fail))
 refine wpQuiet_nil ?_
 refine Rel.callG _ rfl rfl rfl Tryz.func98 (by nofun) (by decide) #[.slice ga x.bd.length gc, .func (.func 99) #[] #[]] rfl (fun w hx _ => by refine (HC1.out w ((grows (a := W) (b := ((W.alloc (.cells (Yq23 x fa fc ga gc) 92)).alloc (.cells #[.string ⟨#[]⟩, .slice none 0 0, .slice none 0 0] 92)))).trans hx)).mono ?_; intro e w9 h9; exact h9.rel hx.le) ?_
 intro u1 v1 _ _ r1
 simp only [Act.put, stA, stS, stZ]
 refine Rel.chunkT 1 rfl rfl rfl ?_
 simp only [tkS, tkZ, dpS, dpZ, Nat.reduceAdd]
 repeat (go_big_quiet_step (fail))
 refine wpQuiet_nil ?_
 refine Rel.fin ?_
 intro w7 x7 hf7
 have O0 := Lh ((hf7 2).1.2 rfl)
 have O1 := Lh ((hf7 5).2 rfl)
 clear hf7 r0 r1
 obtain ⟨ua0, uc0, e0⟩ : ∃ a c, u0 = .slice a x.ps.length c := by have h := O0.out.now; obtain ⟨a, c, e, _⟩ := h.slice; exact ⟨a, c, e⟩
 subst e0
 obtain ⟨ua1, uc1, e1⟩ : ∃ a c, u1 = .slice a x.bd.length c := by have h := O1.out.now; obtain ⟨a, c, e, _⟩ := h.slice; exact ⟨a, c, e⟩
 subst e1
 have hb7 := x7.heap (alwB (aH W (.cells (Yq23 x fa fc ga gc) 92)) ((W.alloc (.cells (Yq23 x fa fc ga gc) 92)).alloc (.cells #[.string ⟨#[]⟩, .slice none 0 0, .slice none 0 0] 92)))
 have hr7 := x7.heap (aH (W.alloc (.cells (Yq23 x fa fc ga gc) 92)) (.cells #[.string ⟨#[]⟩, .slice none 0 0, .slice none 0 0] 92))
 rw [szA] at hr7
 clear k0 r0 k1 r1 k2 r2
 have p0 := cQ 0 hb7
 have pf0 := free_of (o := 0) hb7
 have p1 := cQ 1 hb7
 have pf1 := free_of (o := 1) hb7
 have p2 := cQ 2 hb7
 have pf2 := free_of (o := 2) hb7
 have HB7 := Lh hb7
 have HR7 := Lh hr7
 have X7 := Lh ((grows (a := W) (b := ((W.alloc (.cells (Yq23 x fa fc ga gc) 92)).alloc (.cells #[.string ⟨#[]⟩, .slice none 0 0, .slice none 0 0] 92)))).trans x7)
 clear hb7 hr7 x7
 go_upto_region 2 with (fail)
 obtain ⟨wz, hwz⟩ : ∃ z, z = ((w7.setCell ⟨W.heap.size, 1, none⟩ (.slice ua0 x.ps.length uc0)).setCell ⟨W.heap.size, 2, none⟩ (.slice ua1 x.bd.length uc1)) := ⟨_, rfl⟩
 rw [← hwz]
 have hmz : Mod (· = W.heap.size) w7 wz := by rw [hwz]; repeat' (first | exact Mod.refl _ _ | exact rfl | refine Mod.setCell ?_ (.inl ?_) _)
 have hbz : wz.heap[W.heap.size]? = some (.cells #[.string x.nm, .slice ua0 x.ps.length uc0, .slice ua1 x.bd.length uc1] 92 (0, 0)) := by rw [hwz]; exact (setCell_heap (setCell_heap HB7.out))
 have HRZ := Lh (hmz.heap HR7.out (by omega))
 have HMZ := Lh hmz
 clear p0 pf0 p1 pf1 p2 pf2 hwz hmz
 have p0 := cQ 0 hbz
 have p1 := cQ 1 hbz
 have p2 := cQ 2 hbz
 clear hbz
 go_wp2_with (refine wpList_store_box rfl 92 (.tmp 2) (.tmp 11) rfl (W.heap.size + 1) #[.string x.nm, .slice ua0 x.ps.length uc0, .slice ua1 x.bd.length uc1] rfl rfl 92 #[.string ⟨#[]⟩, .slice none 0 0, .slice none 0 0] HRZ.out (by kernel_rfl) rfl (by simp [Value.oneCell']) ?_)
 intro wf hmf hbf
 have HMF := Lh hmf
 have q0 := cQ 0 hbf
 have q1 := cQ 1 hbf
 have q2 := cQ 2 hbf
 clear hmf hbf p0 p1 p2
 go_wp2_with fail
 refine bodyPost_ret (v := .agg #[.string x.nm, .slice ua0 x.ps.length uc0, .slice ua1 x.bd.length uc1]) (by simp [results, Tryz.results50, go_sem, q0, q1, q2]) rfl ⟨_, rfl, ?fx, ?fy⟩
 case fx => exact (X7.out.mod HMZ.out (fun q hq => by omega)).mod HMF.out (fun q hq => by omega)
 case fy =>
  refine (Own.low (Own.set (Own.set (O0.out.and O1.out) HMZ.out (fun k hk => by simp; omega)) HMF.out (fun k hk => by simp; omega)) (C := W.heap.size) (by simp; omega)).imp (fun w h => ?_)
  exact ⟨_, _, rfl, HS.out, h.1, h.2⟩
theorem cloneTable_any {W : World} {cs : List Value} {x : Tj.Tab} (hR : Tj.TabR W cs x) (hb : x.ks.length ≤ 1073741824 ∧ x.ac.length ≤ 1073741824 ∧ x.df.ar.length ≤ 1073741824) : Calls Tryz.prog 52 #[.agg cs.toArray] W (CopyP W Tj.TabR x) := by
 obtain ⟨v1, v2, v3, rfl, hs, hs2, f1, f2, f3⟩ := hR
 obtain ⟨fa, fc, rfl, _⟩ := f1.slice
 obtain ⟨ga, gc, rfl⟩ := ns_slice f2.1
 obtain ⟨ha, hc, rfl⟩ := ns_slice f3.1
 have HC0 := Lh (fun (w : World) (hx : Ext W w) => cl_keys (f1.ext hx) hb.1)
 have HC1 := Lh (fun (w : World) (hx : Ext W w) => cl_ints (f2.1.ext hx) hb.2.1)
 have HC2 := Lh (fun (w : World) (hx : Ext W w) => cl_u32s (f3.1.ext hx) hb.2.2)
 have HS := Lh (And.intro hs (And.intro hs2 (And.intro f2.2 f3.2)))
 have bx := aH W (.cells (Yq8 x fa fc ga gc ha hc) 108)
 have k0 := alw (cQ 0 bx)
 have k1 := alw (cQ 1 bx)
 have k2 := alw (cQ 2 bx)
 have k3 := alw (cQ 3 bx)
 have k4 := alw (cQ 4 bx)
 have k5 := alw (cQ 5 bx)
 clear bx
 have bx := aH (W.alloc (.cells (Yq8 x fa fc ga gc ha hc) 108)) (.cells #[.string ⟨#[]⟩, .slice none 0 0, .slice none 0 0, .int .i64 0, .slice none 0 0, .int .i64 0] 108)
 rw [szA] at bx
 have r0 := alw (cQ 0 bx)
 have r1 := alw (cQ 1 bx)
 have r2 := alw (cQ 2 bx)
 have r3 := alw (cQ 3 bx)
 have r4 := alw (cQ 4 bx)
 have r5 := alw (cQ 5 bx)
 clear bx
 clear hs hs2 f1 f2 f3
 go_enter Tryz.func52, Tryz.ntmps52
 go_wp2_with fail
 refine Rel.region_tail (W := ((W.alloc (.cells (Yq8 x fa fc ga gc ha hc) 108)).alloc (.cells #[.string ⟨#[]⟩, .slice none 0 0, .slice none 0 0, .int .i64 0, .slice none 0 0, .int .i64 0] 108))) 11 (Rel.tab [(2, fun v w => Own ((W.alloc (.cells (Yq8 x fa fc ga gc ha hc) 108)).alloc (.cells #[.string ⟨#[]⟩, .slice none 0 0, .slice none 0 0, .int .i64 0, .slice none 0 0, .int .i64 0] 108)).heap.size w (fun w => Rows w 3 Tj.KeyR v x.ks)), (5, fun v w => Own ((W.alloc (.cells (Yq8 x fa fc ga gc ha hc) 108)).alloc (.cells #[.string ⟨#[]⟩, .slice none 0 0, .slice none 0 0, .int .i64 0, .slice none 0 0, .int .i64 0] 108)).heap.size w (fun w => Ns .i64 w v x.ac)), (9, fun v w => Own ((W.alloc (.cells (Yq8 x fa fc ga gc ha hc) 108)).alloc (.cells #[.string ⟨#[]⟩, .slice none 0 0, .slice none 0 0, .int .i64 0, .slice none 0 0, .int .i64 0] 108)).heap.size w (fun w => Ns .u32 w v x.df.ar))]) (Rel.tab_lasts (by intro p hp v w w' hr hx; simp only [List.mem_cons, List.not_mem_nil, or_false] at hp; rcases hp with rfl | rfl | rfl; (· exact hr.ext hx); (· exact hr.ext hx); (· exact hr.ext hx))) (by kernel_rfl) (by kernel_rfl) (eR _) ?_
 simp only [tkS, tkZ]
 refine Rel.chunkT 2 rfl rfl rfl ?_
 simp only [tkS, tkZ, dpS, dpZ, Nat.reduceAdd]
 repeat (go_big_quiet_step (fail))
 refine wpQuiet_nil ?_
 refine Rel.callG _ rfl rfl rfl Tryz.func100 (by nofun) (by decide) #[.slice fa x.ks.length fc] rfl (fun w hx _ => by refine (HC0.out w ((grows (a := W) (b := ((W.alloc (.cells (Yq8 x fa fc ga gc ha hc) 108)).alloc (.cells #[.string ⟨#[]⟩, .slice none 0 0, .slice none 0 0, .int .i64 0, .slice none 0 0, .int .i64 0] 108)))).trans hx)).mono ?_; intro e w9 h9; exact h9.rel hx.le) ?_
 intro u0 v0 _ _ r0
 simp only [Act.put, stA, stS, stZ]
 refine Rel.chunkT 2 rfl rfl rfl ?_
 simp only [tkS, tkZ, dpS, dpZ, Nat.reduceAdd]
 repeat (go_big_quiet_step (fail))
 refine wpQuiet_nil ?_
 refine Rel.callG _ rfl rfl rfl Tryz.func57 (by nofun) (by decide) #[.slice ga x.ac.length gc] rfl (fun w hx _ => by refine (HC1.out w ((grows (a := W) (b := ((W.alloc (.cells (Yq8 x fa fc ga gc ha hc) 108)).alloc (.cells #[.string ⟨#[]⟩, .slice none 0 0, .slice none 0 0, .int .i64 0, .slice none 0 0, .int .i64 0] 108)))).trans hx)).mono ?_; intro e w9 h9; exact h9.rel hx.le) ?_
 intro u1 v1 _ _ r1
 simp only [Act.put, stA, stS, stZ]
 refine Rel.chunkT 3 rfl rfl rfl ?_
 simp only [tkS, tkZ, dpS, dpZ, Nat.reduceAdd]
 repeat (go_big_quiet_step (fail))
 refine wpQuiet_nil ?_
 refine Rel.callG _ rfl rfl rfl Tryz.func101 (by nofun) (by decide) #[.slice ha x.df.ar.length hc] rfl (fun w hx _ => by refine (HC2.out w ((grows (a := W) (b := ((W.alloc (.cells (Yq8 x fa fc ga gc ha hc) 108)).alloc (.cells #[.string ⟨#[]⟩, .slice none 0 0, .slice none 0 0, .int .i64 0, .slice none 0 0, .int .i64 0] 108)))).trans hx)).mono ?_; intro e w9 h9; exact h9.rel hx.le) ?_
 intro u2 v2 _ _ r2
 simp only [Act.put, stA, stS, stZ]
 refine Rel.chunkT 1 rfl rfl rfl ?_
 simp only [tkS, tkZ, dpS, dpZ, Nat.reduceAdd]
 repeat (go_big_quiet_step (fail))
 refine wpQuiet_nil ?_
 refine Rel.fin ?_
 intro w7 x7 hf7
 have O0 := Lh ((hf7 2).1.1.2 rfl)
 have O1 := Lh ((hf7 5).1.2 rfl)
 have O2 := Lh ((hf7 9).2 rfl)
 clear hf7 r0 r1 r2
 obtain ⟨ua0, uc0, e0⟩ : ∃ a c, u0 = .slice a x.ks.length c := by have h := O0.out.now; obtain ⟨a, c, e, _⟩ := h.slice; exact ⟨a, c, e⟩
 subst e0
 obtain ⟨ua1, uc1, e1⟩ : ∃ a c, u1 = .slice a x.ac.length c := by have h := O1.out.now; exact ns_slice h
 subst e1
 obtain ⟨ua2, uc2, e2⟩ : ∃ a c, u2 = .slice a x.df.ar.length c := by have h := O2.out.now; exact ns_slice h
 subst e2
 have hb7 := x7.heap (alwB (aH W (.cells (Yq8 x fa fc ga gc ha hc) 108)) ((W.alloc (.cells (Yq8 x fa fc ga gc ha hc) 108)).alloc (.cells #[.string ⟨#[]⟩, .slice none 0 0, .slice none 0 0, .int .i64 0, .slice none 0 0, .int .i64 0] 108)))
 have hr7 := x7.heap (aH (W.alloc (.cells (Yq8 x fa fc ga gc ha hc) 108)) (.cells #[.string ⟨#[]⟩, .slice none 0 0, .slice none 0 0, .int .i64 0, .slice none 0 0, .int .i64 0] 108))
 rw [szA] at hr7
 clear k0 r0 k1 r1 k2 r2 k3 r3 k4 r4 k5 r5
 have p0 := cQ 0 hb7
 have pf0 := free_of (o := 0) hb7
 have p1 := cQ 1 hb7
 have pf1 := free_of (o := 1) hb7
 have p2 := cQ 2 hb7
 have pf2 := free_of (o := 2) hb7
 have p3 := cQ 3 hb7
 have pf3 := free_of (o := 3) hb7
 have p4 := cQ 4 hb7
 have pf4 := free_of (o := 4) hb7
 have p5 := cQ 5 hb7
 have pf5 := free_of (o := 5) hb7
 have HB7 := Lh hb7
 have HR7 := Lh hr7
 have X7 := Lh ((grows (a := W) (b := ((W.alloc (.cells (Yq8 x fa fc ga gc ha hc) 108)).alloc (.cells #[.string ⟨#[]⟩, .slice none 0 0, .slice none 0 0, .int .i64 0, .slice none 0 0, .int .i64 0] 108)))).trans x7)
 clear hb7 hr7 x7
 go_upto_region 2 with (fail)
 obtain ⟨wz, hwz⟩ : ∃ z, z = (((w7.setCell ⟨W.heap.size, 1, none⟩ (.slice ua0 x.ks.length uc0)).setCell ⟨W.heap.size, 2, none⟩ (.slice ua1 x.ac.length uc1)).setCell ⟨W.heap.size, 4, none⟩ (.slice ua2 x.df.ar.length uc2)) := ⟨_, rfl⟩
 rw [← hwz]
 have hmz : Mod (· = W.heap.size) w7 wz := by rw [hwz]; repeat' (first | exact Mod.refl _ _ | exact rfl | refine Mod.setCell ?_ (.inl ?_) _)
 have hbz : wz.heap[W.heap.size]? = some (.cells #[.string x.nm, .slice ua0 x.ks.length uc0, .slice ua1 x.ac.length uc1, .int .i64 x.df.a, .slice ua2 x.df.ar.length uc2, .int .i64 x.sz] 108 (0, 0)) := by rw [hwz]; exact (setCell_heap (setCell_heap (setCell_heap HB7.out)))
 have HRZ := Lh (hmz.heap HR7.out (by omega))
 have HMZ := Lh hmz
 clear p0 pf0 p1 pf1 p2 pf2 p3 pf3 p4 pf4 p5 pf5 hwz hmz
 have p0 := cQ 0 hbz
 have p1 := cQ 1 hbz
 have p2 := cQ 2 hbz
 have p3 := cQ 3 hbz
 have p4 := cQ 4 hbz
 have p5 := cQ 5 hbz
 clear hbz
 go_wp2_with (refine wpList_store_box rfl 108 (.tmp 2) (.tmp 17) rfl (W.heap.size + 1) #[.string x.nm, .slice ua0 x.ks.length uc0, .slice ua1 x.ac.length uc1, .int .i64 x.df.a, .slice ua2 x.df.ar.length uc2, .int .i64 x.sz] rfl rfl 108 #[.string ⟨#[]⟩, .slice none 0 0, .slice none 0 0, .int .i64 0, .slice none 0 0, .int .i64 0] HRZ.out (by kernel_rfl) rfl (by simp [Value.oneCell']) ?_)
 intro wf hmf hbf
 have HMF := Lh hmf
 have q0 := cQ 0 hbf
 have q1 := cQ 1 hbf
 have q2 := cQ 2 hbf
 have q3 := cQ 3 hbf
 have q4 := cQ 4 hbf
 have q5 := cQ 5 hbf
 clear hmf hbf p0 p1 p2 p3 p4 p5
 go_wp2_with fail
 refine bodyPost_ret (v := .agg #[.string x.nm, .slice ua0 x.ks.length uc0, .slice ua1 x.ac.length uc1, .int .i64 x.df.a, .slice ua2 x.df.ar.length uc2, .int .i64 x.sz]) (by simp [results, Tryz.results52, go_sem, q0, q1, q2, q3, q4, q5]) rfl ⟨_, rfl, ?fx, ?fy⟩
 case fx => exact (X7.out.mod HMZ.out (fun q hq => by omega)).mod HMF.out (fun q hq => by omega)
 case fy =>
  refine (Own.low (Own.set (Own.set ((O0.out.and O1.out).and O2.out) HMZ.out (fun k hk => by simp; omega)) HMF.out (fun k hk => by simp; omega)) (C := W.heap.size) (by simp; omega)).imp (fun w h => ?_)
  exact ⟨_, _, _, rfl, HS.out.1, HS.out.2.1, h.1.1, ⟨h.1.2, HS.out.2.2.1⟩, ⟨h.2, HS.out.2.2.2⟩⟩
theorem cloneState_any {W : World} {cs : List Value} {x : Ps.St} (hR : Ps.StR W cs x) (hb : x.ex.length ≤ 1073741824 ∧ x.cs.length ≤ 1073741824) : Calls Tryz.prog 54 #[.agg cs.toArray] W (CopyP W Ps.StR x) := by
 obtain ⟨v1, v2, rfl, hs, f1, f2⟩ := hR
 obtain ⟨fa, fc, rfl⟩ := ns_slice f1
 obtain ⟨ga, gc, rfl, _⟩ := f2.slice
 have HC0 := Lh (fun (w : World) (hx : Ext W w) => cl_ints (f1.ext hx) hb.1)
 have HC1 : Hid (∀ w, Ext W w → Calls Tryz.prog 102 #[.slice ga x.cs.length gc] w (NewP w (fun w v => Rows w 3 Ps.CaseR v x.cs))) := Lh (fun w hx => cl_cases (f2.ext (fun _ _ h => h) hx) hb.2)
 have HS := Lh (hs)
 have bx := aH W (.cells (Yq12 x fa fc ga gc) 111)
 have k0 := alw (cQ 0 bx)
 have k1 := alw (cQ 1 bx)
 have k2 := alw (cQ 2 bx)
 have k3 := alw (cQ 3 bx)
 have k4 := alw (cQ 4 bx)
 have k5 := alw (cQ 5 bx)
 have k6 := alw (cQ 6 bx)
 clear bx
 have bx := aH (W.alloc (.cells (Yq12 x fa fc ga gc) 111)) (.cells #[.string ⟨#[]⟩, .slice none 0 0, .bool false, .int .i64 0, .int .i64 0, .slice none 0 0, .int .i64 0] 111)
 rw [szA] at bx
 have r0 := alw (cQ 0 bx)
 have r1 := alw (cQ 1 bx)
 have r2 := alw (cQ 2 bx)
 have r3 := alw (cQ 3 bx)
 have r4 := alw (cQ 4 bx)
 have r5 := alw (cQ 5 bx)
 have r6 := alw (cQ 6 bx)
 clear bx
 clear hs f1 f2
 go_enter Tryz.func54, Tryz.ntmps54
 go_wp2_with fail
 refine Rel.region_tail (W := ((W.alloc (.cells (Yq12 x fa fc ga gc) 111)).alloc (.cells #[.string ⟨#[]⟩, .slice none 0 0, .bool false, .int .i64 0, .int .i64 0, .slice none 0 0, .int .i64 0] 111))) 7 (Rel.tab [(2, fun v w => Own ((W.alloc (.cells (Yq12 x fa fc ga gc) 111)).alloc (.cells #[.string ⟨#[]⟩, .slice none 0 0, .bool false, .int .i64 0, .int .i64 0, .slice none 0 0, .int .i64 0] 111)).heap.size w (fun w => Ns .i64 w v x.ex)), (5, fun v w => Own ((W.alloc (.cells (Yq12 x fa fc ga gc) 111)).alloc (.cells #[.string ⟨#[]⟩, .slice none 0 0, .bool false, .int .i64 0, .int .i64 0, .slice none 0 0, .int .i64 0] 111)).heap.size w (fun w => Rows w 3 Ps.CaseR v x.cs))]) (Rel.tab_lasts (by intro p hp v w w' hr hx; simp only [List.mem_cons, List.not_mem_nil, or_false] at hp; rcases hp with rfl | rfl; (· exact hr.ext hx); (· exact hr.ext hx))) (by kernel_rfl) (by kernel_rfl) (eR _) ?_
 simp only [tkS, tkZ]
 refine Rel.chunkT 2 rfl rfl rfl ?_
 simp only [tkS, tkZ, dpS, dpZ, Nat.reduceAdd]
 repeat (go_big_quiet_step (fail))
 refine wpQuiet_nil ?_
 refine Rel.callG _ rfl rfl rfl Tryz.func57 (by nofun) (by decide) #[.slice fa x.ex.length fc] rfl (fun w hx _ => by refine (HC0.out w ((grows (a := W) (b := ((W.alloc (.cells (Yq12 x fa fc ga gc) 111)).alloc (.cells #[.string ⟨#[]⟩, .slice none 0 0, .bool false, .int .i64 0, .int .i64 0, .slice none 0 0, .int .i64 0] 111)))).trans hx)).mono ?_; intro e w9 h9; exact h9.rel hx.le) ?_
 intro u0 v0 _ _ r0
 simp only [Act.put, stA, stS, stZ]
 refine Rel.chunkT 2 rfl rfl rfl ?_
 simp only [tkS, tkZ, dpS, dpZ, Nat.reduceAdd]
 repeat (go_big_quiet_step (fail))
 refine wpQuiet_nil ?_
 refine Rel.callG _ rfl rfl rfl Tryz.func102 (by nofun) (by decide) #[.slice ga x.cs.length gc] rfl (fun w hx _ => by refine (HC1.out w ((grows (a := W) (b := ((W.alloc (.cells (Yq12 x fa fc ga gc) 111)).alloc (.cells #[.string ⟨#[]⟩, .slice none 0 0, .bool false, .int .i64 0, .int .i64 0, .slice none 0 0, .int .i64 0] 111)))).trans hx)).mono ?_; intro e w9 h9; exact h9.rel hx.le) ?_
 intro u1 v1 _ _ r1
 simp only [Act.put, stA, stS, stZ]
 refine Rel.chunkT 1 rfl rfl rfl ?_
 simp only [tkS, tkZ, dpS, dpZ, Nat.reduceAdd]
 repeat (go_big_quiet_step (fail))
 refine wpQuiet_nil ?_
 refine Rel.fin ?_
 intro w7 x7 hf7
 have O0 := Lh ((hf7 2).1.2 rfl)
 have O1 := Lh ((hf7 5).2 rfl)
 clear hf7 r0 r1
 obtain ⟨ua0, uc0, e0⟩ : ∃ a c, u0 = .slice a x.ex.length c := by have h := O0.out.now; exact ns_slice h
 subst e0
 obtain ⟨ua1, uc1, e1⟩ : ∃ a c, u1 = .slice a x.cs.length c := by have h := O1.out.now; obtain ⟨a, c, e, _⟩ := h.slice; exact ⟨a, c, e⟩
 subst e1
 have hb7 := x7.heap (alwB (aH W (.cells (Yq12 x fa fc ga gc) 111)) ((W.alloc (.cells (Yq12 x fa fc ga gc) 111)).alloc (.cells #[.string ⟨#[]⟩, .slice none 0 0, .bool false, .int .i64 0, .int .i64 0, .slice none 0 0, .int .i64 0] 111)))
 have hr7 := x7.heap (aH (W.alloc (.cells (Yq12 x fa fc ga gc) 111)) (.cells #[.string ⟨#[]⟩, .slice none 0 0, .bool false, .int .i64 0, .int .i64 0, .slice none 0 0, .int .i64 0] 111))
 rw [szA] at hr7
 clear k0 r0 k1 r1 k2 r2 k3 r3 k4 r4 k5 r5 k6 r6
 have p0 := cQ 0 hb7
 have pf0 := free_of (o := 0) hb7
 have p1 := cQ 1 hb7
 have pf1 := free_of (o := 1) hb7
 have p2 := cQ 2 hb7
 have pf2 := free_of (o := 2) hb7
 have p3 := cQ 3 hb7
 have pf3 := free_of (o := 3) hb7
 have p4 := cQ 4 hb7
 have pf4 := free_of (o := 4) hb7
 have p5 := cQ 5 hb7
 have pf5 := free_of (o := 5) hb7
 have p6 := cQ 6 hb7
 have pf6 := free_of (o := 6) hb7
 have HB7 := Lh hb7
 have HR7 := Lh hr7
 have X7 := Lh ((grows (a := W) (b := ((W.alloc (.cells (Yq12 x fa fc ga gc) 111)).alloc (.cells #[.string ⟨#[]⟩, .slice none 0 0, .bool false, .int .i64 0, .int .i64 0, .slice none 0 0, .int .i64 0] 111)))).trans x7)
 clear hb7 hr7 x7
 go_upto_region 2 with (fail)
 obtain ⟨wz, hwz⟩ : ∃ z, z = ((w7.setCell ⟨W.heap.size, 1, none⟩ (.slice ua0 x.ex.length uc0)).setCell ⟨W.heap.size, 5, none⟩ (.slice ua1 x.cs.length uc1)) := ⟨_, rfl⟩
 rw [← hwz]
 have hmz : Mod (· = W.heap.size) w7 wz := by rw [hwz]; repeat' (first | exact Mod.refl _ _ | exact rfl | refine Mod.setCell ?_ (.inl ?_) _)
 have hbz : wz.heap[W.heap.size]? = some (.cells #[.string x.nm, .slice ua0 x.ex.length uc0, .bool x.sel, .int .i64 x.h, .int .i64 x.f, .slice ua1 x.cs.length uc1, .int .i64 x.df] 111 (0, 0)) := by rw [hwz]; exact (setCell_heap (setCell_heap HB7.out))
 have HRZ := Lh (hmz.heap HR7.out (by omega))
 have HMZ := Lh hmz
 clear p0 pf0 p1 pf1 p2 pf2 p3 pf3 p4 pf4 p5 pf5 p6 pf6 hwz hmz
 have p0 := cQ 0 hbz
 have p1 := cQ 1 hbz
 have p2 := cQ 2 hbz
 have p3 := cQ 3 hbz
 have p4 := cQ 4 hbz
 have p5 := cQ 5 hbz
 have p6 := cQ 6 hbz
 clear hbz
 go_wp2_with (refine wpList_store_box rfl 111 (.tmp 2) (.tmp 11) rfl (W.heap.size + 1) #[.string x.nm, .slice ua0 x.ex.length uc0, .bool x.sel, .int .i64 x.h, .int .i64 x.f, .slice ua1 x.cs.length uc1, .int .i64 x.df] rfl rfl 111 #[.string ⟨#[]⟩, .slice none 0 0, .bool false, .int .i64 0, .int .i64 0, .slice none 0 0, .int .i64 0] HRZ.out (by kernel_rfl) rfl (by simp [Value.oneCell']) ?_)
 intro wf hmf hbf
 have HMF := Lh hmf
 have q0 := cQ 0 hbf
 have q1 := cQ 1 hbf
 have q2 := cQ 2 hbf
 have q3 := cQ 3 hbf
 have q4 := cQ 4 hbf
 have q5 := cQ 5 hbf
 have q6 := cQ 6 hbf
 clear hmf hbf p0 p1 p2 p3 p4 p5 p6
 go_wp2_with fail
 refine bodyPost_ret (v := .agg #[.string x.nm, .slice ua0 x.ex.length uc0, .bool x.sel, .int .i64 x.h, .int .i64 x.f, .slice ua1 x.cs.length uc1, .int .i64 x.df]) (by simp [results, Tryz.results54, go_sem, q0, q1, q2, q3, q4, q5, q6]) rfl ⟨_, rfl, ?fx, ?fy⟩
 case fx => exact (X7.out.mod HMZ.out (fun q hq => by omega)).mod HMF.out (fun q hq => by omega)
 case fy =>
  refine (Own.low (Own.set (Own.set (O0.out.and O1.out) HMZ.out (fun k hk => by simp; omega)) HMF.out (fun k hk => by simp; omega)) (C := W.heap.size) (by simp; omega)).imp (fun w h => ?_)
  exact ⟨_, _, rfl, HS.out, h.1, h.2⟩
theorem flat_len (ns : List Tj.NT) : ns.length ≤ (Tj.flat ns).length := by
 unfold Tj.flat
 induction ns with
 | nil => simp
 | cons x l ih => rw [List.flatMap_cons, List.length_append, List.length_cons]; simp only [Tj.NT.all, List.length_cons]; omega
theorem flat_sub {ns : List Tj.NT} {x : Tj.NT} (h : x ∈ ns) : ∀ c ∈ x.all, c ∈ Tj.flat ns := fun _ hc => List.mem_flatMap.2 ⟨x, h, hc⟩
theorem flat_all {ns : List Tj.NT} {x : Tj.NT} (h : x ∈ ns) : x.all.length ≤ (Tj.flat ns).length := by
 unfold Tj.flat
 induction ns with
 | nil => simp at h
 | cons y l ih =>
  rw [List.flatMap_cons, List.length_append]
  rcases List.mem_cons.1 h with h | h
  ·subst h; omega
  ·have := ih h; omega
theorem cloneNode_of {m : Nat} (hE : (∀ {W : World} {v : Value} {l : List Tj.CN} {d k : Nat}, Tj.Ctl m W v l d k → l.length ≤ 1073741824 → (∀ c ∈ l, c.c.length ≤ 1073741824) → Calls Tryz.prog 55 #[v, .func (.func 56) #[] #[]] W (NewP W (fun w v => Tj.Ctl m w v l d k)))) {W : World} {cs : List Value} {x : Tj.NT} (hR : Tj.NodeR m W cs x) (hb : x.all.length ≤ 1073741824) (hb2 : ∀ c ∈ x.all, c.c.length ≤ 1073741824) : Calls Tryz.prog 56 #[.agg cs.toArray] W (CopyP W (Tj.NodeR m) x) := by
 obtain ⟨v1, v2, v3, rfl, hs, f1, f2, f3⟩ := hR
 obtain ⟨fa, fc, rfl, _⟩ := f1.slice
 obtain ⟨ga, gc, rfl, _⟩ := f2.slice
 obtain ⟨ha, hc, rfl, _⟩ := f3.slice
 have HC0 : Hid (∀ w, Ext W w → Calls Tryz.prog 103 #[.slice fa x.d.c.length fc] w (NewP w (fun w v => Rows w 3 Tj.ENR v x.d.c))) := Lh (fun w hx => cl_exp (f1.ext hx) (hb2 _ List.mem_cons_self))
 have HC1 := Lh (fun (w : World) (hx : Ext W w) => hE (f2.ext hx) (by have := hb; simp [Tj.NT.all] at this; omega) (fun c hc => hb2 c (by simp [Tj.NT.all, hc])))
 have HC2 := Lh (fun (w : World) (hx : Ext W w) => hE (f3.ext hx) (by have := hb; simp [Tj.NT.all] at this; omega) (fun c hc => hb2 c (by simp [Tj.NT.all, hc])))
 clear hb hb2 hE
 have HS := Lh (hs)
 have bx := aH W (.cells (Yq13 x fa fc ga gc ha hc) 113)
 have k0 := alw (cQ 0 bx)
 have k1 := alw (cQ 1 bx)
 have k2 := alw (cQ 2 bx)
 have k3 := alw (cQ 3 bx)
 have k4 := alw (cQ 4 bx)
 clear bx
 have bx := aH (W.alloc (.cells (Yq13 x fa fc ga gc ha hc) 113)) (.cells (Yq16 ) 113)
 rw [szA] at bx
 have r0 := alw (cQ 0 bx)
 have r1 := alw (cQ 1 bx)
 have r2 := alw (cQ 2 bx)
 have r3 := alw (cQ 3 bx)
 have r4 := alw (cQ 4 bx)
 clear bx
 clear hs f1 f2 f3
 go_enter Tryz.func56, Tryz.ntmps56
 go_wp2_with fail
 refine Rel.region_tail (W := ((W.alloc (.cells (Yq13 x fa fc ga gc ha hc) 113)).alloc (.cells (Yq16 ) 113))) 10 (Rel.tab [(2, fun v w => Own ((W.alloc (.cells (Yq13 x fa fc ga gc ha hc) 113)).alloc (.cells (Yq16 ) 113)).heap.size w (fun w => Rows w 3 Tj.ENR v x.d.c)), (5, fun v w => Own ((W.alloc (.cells (Yq13 x fa fc ga gc ha hc) 113)).alloc (.cells (Yq16 ) 113)).heap.size w (fun w => Tj.Ctl m w v x.tl x.tn x.d.th)), (8, fun v w => Own ((W.alloc (.cells (Yq13 x fa fc ga gc ha hc) 113)).alloc (.cells (Yq16 ) 113)).heap.size w (fun w => Tj.Ctl m w v x.el x.en x.d.el))]) (Rel.tab_lasts (by intro p hp v w w' hr hx; simp only [List.mem_cons, List.not_mem_nil, or_false] at hp; rcases hp with rfl | rfl | rfl; (· exact hr.ext hx); (· exact hr.ext hx); (· exact hr.ext hx))) (by kernel_rfl) (by kernel_rfl) (eR _) ?_
 simp only [tkS, tkZ]
 refine Rel.chunkT 2 rfl rfl rfl ?_
 simp only [tkS, tkZ, dpS, dpZ, Nat.reduceAdd]
 repeat (go_big_quiet_step (fail))
 refine wpQuiet_nil ?_
 refine Rel.callG _ rfl rfl rfl Tryz.func103 (by nofun) (by decide) #[.slice fa x.d.c.length fc] rfl (fun w hx _ => by refine (HC0.out w ((grows (a := W) (b := ((W.alloc (.cells (Yq13 x fa fc ga gc ha hc) 113)).alloc (.cells (Yq16 ) 113)))).trans hx)).mono ?_; intro e w9 h9; exact h9.rel hx.le) ?_
 intro u0 v0 _ _ r0
 simp only [Act.put, stA, stS, stZ]
 refine Rel.chunkT 2 rfl rfl rfl ?_
 simp only [tkS, tkZ, dpS, dpZ, Nat.reduceAdd]
 repeat (go_big_quiet_step (fail))
 refine wpQuiet_nil ?_
 refine Rel.callG _ rfl rfl rfl Tryz.func55 (by nofun) (by decide) #[.slice ga x.d.th gc, .func (.func 56) #[] #[]] rfl (fun w hx _ => by refine (HC1.out w ((grows (a := W) (b := ((W.alloc (.cells (Yq13 x fa fc ga gc ha hc) 113)).alloc (.cells (Yq16 ) 113)))).trans hx)).mono ?_; intro e w9 h9; exact h9.rel hx.le) ?_
 intro u1 v1 _ _ r1
 simp only [Act.put, stA, stS, stZ]
 refine Rel.chunkT 2 rfl rfl rfl ?_
 simp only [tkS, tkZ, dpS, dpZ, Nat.reduceAdd]
 repeat (go_big_quiet_step (fail))
 refine wpQuiet_nil ?_
 refine Rel.callG _ rfl rfl rfl Tryz.func55 (by nofun) (by decide) #[.slice ha x.d.el hc, .func (.func 56) #[] #[]] rfl (fun w hx _ => by refine (HC2.out w ((grows (a := W) (b := ((W.alloc (.cells (Yq13 x fa fc ga gc ha hc) 113)).alloc (.cells (Yq16 ) 113)))).trans hx)).mono ?_; intro e w9 h9; exact h9.rel hx.le) ?_
 intro u2 v2 _ _ r2
 simp only [Act.put, stA, stS, stZ]
 refine Rel.chunkT 1 rfl rfl rfl ?_
 simp only [tkS, tkZ, dpS, dpZ, Nat.reduceAdd]
 repeat (go_big_quiet_step (fail))
 refine wpQuiet_nil ?_
 refine Rel.fin ?_
 intro w7 x7 hf7
 have O0 := Lh ((hf7 2).1.1.2 rfl)
 have O1 := Lh ((hf7 5).1.2 rfl)
 have O2 := Lh ((hf7 8).2 rfl)
 clear hf7 r0 r1 r2
 obtain ⟨ua0, uc0, e0⟩ : ∃ a c, u0 = .slice a x.d.c.length c := by have h := O0.out.now; obtain ⟨a, c, e, _⟩ := h.slice; exact ⟨a, c, e⟩
 subst e0
 obtain ⟨ua1, uc1, e1⟩ : ∃ a c, u1 = .slice a x.d.th c := by have h := O1.out.now; obtain ⟨a, c, e, _⟩ := h.slice; exact ⟨a, c, e⟩
 subst e1
 obtain ⟨ua2, uc2, e2⟩ : ∃ a c, u2 = .slice a x.d.el c := by have h := O2.out.now; obtain ⟨a, c, e, _⟩ := h.slice; exact ⟨a, c, e⟩
 subst e2
 have hb7 := x7.heap (alwB (aH W (.cells (Yq13 x fa fc ga gc ha hc) 113)) ((W.alloc (.cells (Yq13 x fa fc ga gc ha hc) 113)).alloc (.cells (Yq16 ) 113)))
 have hr7 := x7.heap (aH (W.alloc (.cells (Yq13 x fa fc ga gc ha hc) 113)) (.cells (Yq16 ) 113))
 rw [szA] at hr7
 clear k0 r0 k1 r1 k2 r2 k3 r3 k4 r4
 have p0 := cQ 0 hb7
 have pf0 := free_of (o := 0) hb7
 have p1 := cQ 1 hb7
 have pf1 := free_of (o := 1) hb7
 have p2 := cQ 2 hb7
 have pf2 := free_of (o := 2) hb7
 have p3 := cQ 3 hb7
 have pf3 := free_of (o := 3) hb7
 have p4 := cQ 4 hb7
 have pf4 := free_of (o := 4) hb7
 have HB7 := Lh hb7
 have HR7 := Lh hr7
 have X7 := Lh ((grows (a := W) (b := ((W.alloc (.cells (Yq13 x fa fc ga gc ha hc) 113)).alloc (.cells (Yq16 ) 113)))).trans x7)
 clear hb7 hr7 x7
 go_upto_region 2 with (fail)
 obtain ⟨wz, hwz⟩ : ∃ z, z = (((w7.setCell ⟨W.heap.size, 2, none⟩ (.slice ua0 x.d.c.length uc0)).setCell ⟨W.heap.size, 3, none⟩ (.slice ua1 x.d.th uc1)).setCell ⟨W.heap.size, 4, none⟩ (.slice ua2 x.d.el uc2)) := ⟨_, rfl⟩
 rw [← hwz]
 have hmz : Mod (· = W.heap.size) w7 wz := by rw [hwz]; repeat' (first | exact Mod.refl _ _ | exact rfl | refine Mod.setCell ?_ (.inl ?_) _)
 have hbz : wz.heap[W.heap.size]? = some (.cells #[.int .i64 x.d.k, .int .i64 x.d.t, .slice ua0 x.d.c.length uc0, .slice ua1 x.d.th uc1, .slice ua2 x.d.el uc2] 113 (0, 0)) := by rw [hwz]; exact (setCell_heap (setCell_heap (setCell_heap HB7.out)))
 have HRZ := Lh (hmz.heap HR7.out (by omega))
 have HMZ := Lh hmz
 clear p0 pf0 p1 pf1 p2 pf2 p3 pf3 p4 pf4 hwz hmz
 have p0 := cQ 0 hbz
 have p1 := cQ 1 hbz
 have p2 := cQ 2 hbz
 have p3 := cQ 3 hbz
 have p4 := cQ 4 hbz
 clear hbz
 go_wp2_with (refine wpList_store_box rfl 113 (.tmp 2) (.tmp 15) rfl (W.heap.size + 1) #[.int .i64 x.d.k, .int .i64 x.d.t, .slice ua0 x.d.c.length uc0, .slice ua1 x.d.th uc1, .slice ua2 x.d.el uc2] rfl rfl 113 (Yq16 ) HRZ.out (by kernel_rfl) rfl (by simp [Value.oneCell']) ?_)
 intro wf hmf hbf
 have HMF := Lh hmf
 have q0 := cQ 0 hbf
 have q1 := cQ 1 hbf
 have q2 := cQ 2 hbf
 have q3 := cQ 3 hbf
 have q4 := cQ 4 hbf
 clear hmf hbf p0 p1 p2 p3 p4
 go_wp2_with fail
 refine bodyPost_ret (v := .agg #[.int .i64 x.d.k, .int .i64 x.d.t, .slice ua0 x.d.c.length uc0, .slice ua1 x.d.th uc1, .slice ua2 x.d.el uc2]) (by simp [results, Tryz.results56, go_sem, q0, q1, q2, q3, q4]) rfl ⟨_, rfl, ?fx, ?fy⟩
 case fx => exact (X7.out.mod HMZ.out (fun q hq => by omega)).mod HMF.out (fun q hq => by omega)
 case fy =>
  refine (Own.low (Own.set (Own.set ((O0.out.and O1.out).and O2.out) HMZ.out (fun k hk => by simp; omega)) HMF.out (fun k hk => by simp; omega)) (C := W.heap.size) (by simp; omega)).imp (fun w h => ?_)
  exact ⟨_, _, _, rfl, HS.out, h.1.1, h.1.2, h.2⟩
theorem eachCtl_of {m : Nat} (hN : ∀ {W : World} {cs : List Value} {x : Tj.NT}, Tj.NodeR m W cs x → x.all.length ≤ 1073741824 → (∀ c ∈ x.all, c.c.length ≤ 1073741824) → Calls Tryz.prog 56 #[.agg cs.toArray] W (CopyP W (Tj.NodeR m) x))
 {W : World} {v : Value} {l : List Tj.CN} {d k : Nat} (h : Tj.Ctl (m + 1) W v l d k) (hl : l.length ≤ 1073741824) (hc : ∀ c ∈ l, c.c.length ≤ 1073741824) : Calls Tryz.prog 55 #[v, .func (.func 56) #[] #[]] W (NewP W (fun w v => Tj.Ctl (m + 1) w v l d k)) := by
 rw [Tj.ctl_succ] at h
 obtain ⟨ns, h1, rfl, rfl, rfl⟩ := h
 have h2 := flat_len ns
 refine (eachControlNode_any h1 (by omega) (fun cs x w hx _ hR => hN hR (by have := flat_all hx; omega) (fun c hcx => hc c (flat_sub hx c hcx)))).mono ?_
 intro e w' h
 exact h.mono (fun w v h => Tj.ctl_succ.2 ⟨ns, h, rfl, rfl, rfl⟩)
theorem eachCtl_any : ∀ (m : Nat) {W : World} {v : Value} {l : List Tj.CN} {d k : Nat}, Tj.Ctl m W v l d k → l.length ≤ 1073741824 → (∀ c ∈ l, c.c.length ≤ 1073741824) → Calls Tryz.prog 55 #[v, .func (.func 56) #[] #[]] W (NewP W (fun w v => Tj.Ctl m w v l d k))
 | 0, _, _, _, _, _, h, _, _ => h.elim
 | m + 1, _, _, _, _, _, h, hl, hc => eachCtl_of (cloneNode_of (eachCtl_any m)) h hl hc
theorem cl_intc {W : World} {v : Value} {l : List Int} (h : Ns .i64 W v l) (hn : l.length ≤ 1073741824) : Calls Tryz.prog 57 #[v] W (NewP W (fun w v => Ns .i64 w v l ∧ ∃ a c, v = .slice a l.length c ∧ l.length ≤ c ∧ c ≤ 9223372036854775807)) := by
 refine (clone_int h.1 hn).mono ?_
 refine fun e w' g => news_of_row (fun w B v ho => ⟨⟨own_src ho (fun u hu => by obtain ⟨x, _, rfl⟩ := List.mem_map.1 hu; rfl), by unfold maxLen; omega⟩, ?_⟩) g
 rcases ho.2 with ⟨rfl, h0⟩ | ⟨g, cap, cur, rfl, _, _, h1, h2, _⟩
 ·exact ⟨none, 0, by rw [h0], by omega, by omega⟩
 ·unfold maxLen at h2; exact ⟨_, cap, rfl, h1, by omega⟩
namespace Tj
/-- the sizes of a program's lists -/
structure Sz (F : FP) : Prop where
 hs : F.P.hs.length ≤ 1073741824
 hf : ∀ h ∈ F.P.hs, h.2.length ≤ 1073741824
 md : F.P.md.length ≤ 1073741824
 rs : F.rs.length ≤ 1073741824
 ac : F.ac.length ≤ 1073741824
 aa : ∀ a ∈ F.ac, a.ps.length ≤ 1073741824 ∧ a.bd.length ≤ 1073741824 ∧ ∀ s ∈ a.bd, s.ix.length ≤ 1073741824 ∧ s.va.length ≤ 1073741824
 ts : F.ts.length ≤ 1073741824
 tt : ∀ t ∈ F.ts, t.ks.length ≤ 1073741824 ∧ t.ac.length ≤ 1073741824 ∧ t.df.ar.length ≤ 1073741824
 ss : F.ss.length ≤ 1073741824
 se : ∀ s ∈ F.ss, s.ex.length ≤ 1073741824 ∧ s.cs.length ≤ 1073741824
 cs : F.cs.length ≤ 1073741824
 cc : ∀ c ∈ F.cs, c.c.length ≤ 1073741824
 dp : F.P.dp.length ≤ 1073741824
end Tj
theorem pclone_any {W : World} {p : Pg.PV} {F : Tj.FP} (hG : Tj.IsG W p F) (hz : Tj.Sz F) : Calls Tryz.prog 17 #[p.val] W (NewP W (fun w v => ∃ q : Pg.PV, v = q.val ∧ Tj.IsG w q F)) := by
 obtain ⟨hF, hcl, _⟩ := hG
 obtain ⟨a1, a2, a3, a4, a5, a6, a7, a8, m1, m2, m3, m4, m5, m6, n7, m7, m8, hf⟩ := hF.form
 obtain ⟨rfl, hnm, hhs, hmd, hrs, has, hts, hss, hct, hdp, l1, l2, l3, l4, l5, l6, l7, l8⟩ := hf
 obtain ⟨cn, hct⟩ := hct
 have HD := Lh hdp.2
 dsimp only [Pg.PV.val]
 have HC0 : Hid (∀ w, Ext W w → Calls Tryz.prog 45 #[.slice a1 F.P.hs.length m1, .func (.func 46) #[] #[]] w (NewP w (fun w v => Rows w 2 Hd.HdrR v F.P.hs))) := Lh (fun w hx => eachHeader_any (Rows.ext hhs (fun _ _ h => h.ext hx) hx) hz.hs (fun cs d w1 hd _ hR => cloneHeader_any hR (hz.hf d hd)))
 have HC1 := Lh (fun (w : World) (hx : Ext W w) => cl_flds (hmd.ext hx) hz.md)
 have HC2 : Hid (∀ w, Ext W w → Calls Tryz.prog 48 #[.slice a3 F.rs.length m3] w (NewP w (fun w v => Rows w 3 Rg.RegR v F.rs))) := Lh (fun w hx => cl_regs (Rows.ext hrs (fun _ _ h => Rg.RegR.ext h hx) hx) hz.rs)
 have HC3 : Hid (∀ w, Ext W w → Calls Tryz.prog 49 #[.slice a4 F.ac.length m4, .func (.func 50) #[] #[]] w (NewP w (fun w v => Tj.Acts w v F.ac))) := Lh (fun w hx => eachAction_any (has.ext hx) hz.ac (fun cs d w1 hd _ hR => cloneAction_any hR (hz.aa d hd)))
 have HC4 : Hid (∀ w, Ext W w → Calls Tryz.prog 51 #[.slice a5 F.ts.length m5, .func (.func 52) #[] #[]] w (NewP w (fun w v => Tj.Tabs w v F.ts))) := Lh (fun w hx => eachTable_any (hts.ext hx) hz.ts (fun cs d w1 hd _ hR => cloneTable_any hR (hz.tt d hd)))
 have HC5 : Hid (∀ w, Ext W w → Calls Tryz.prog 53 #[.slice a6 F.ss.length m6, .func (.func 54) #[] #[]] w (NewP w (fun w v => Rows w 7 Ps.StR v F.ss))) := Lh (fun w hx => eachParserState_any (Rows.ext hss (fun _ _ h => h.ext hx) hx) hz.ss (fun cs d w1 hd _ hR => cloneState_any hR (hz.se d hd)))
 have HC6 := Lh (fun (w : World) (hx : Ext W w) => eachCtl_any cn (hct.ext hx) hz.cs hz.cc)
 have HC7 := Lh (fun (w : World) (hx : Ext W w) => cl_intc (hdp.1.ext hx) hz.dp)
 have HNM := Lh hnm
 have HCL := Lh hcl
 have bx := aH W (.cells (Yq0 F a1 m1 a2 m2 a3 m3 a4 m4 a5 m5 a6 m6 a7 m7 n7 a8 m8) 31)
 have k0 := alw (cQ 0 bx)
 have k1 := alw (cQ 1 bx)
 have k2 := alw (cQ 2 bx)
 have k3 := alw (cQ 3 bx)
 have k4 := alw (cQ 4 bx)
 have k5 := alw (cQ 5 bx)
 have k6 := alw (cQ 6 bx)
 have k7 := alw (cQ 7 bx)
 have k8 := alw (cQ 8 bx)
 clear bx
 clear hF hnm hhs hmd hrs has hts hss hct hdp hz hcl
 go_enter Tryz.func17, Tryz.ntmps17
 go_wp2_with fail
 refine Rel.region_tail (W := ((W.alloc (.cells (Yq0 F a1 m1 a2 m2 a3 m3 a4 m4 a5 m5 a6 m6 a7 m7 n7 a8 m8) 31)).alloc (.cells #[.string ⟨#[]⟩, .slice none 0 0, .slice none 0 0, .slice none 0 0, .slice none 0 0, .slice none 0 0, .slice none 0 0, .slice none 0 0, .slice none 0 0] 31))) 26 (Rel.tab [(4, fun v w => Own ((W.alloc (.cells (Yq0 F a1 m1 a2 m2 a3 m3 a4 m4 a5 m5 a6 m6 a7 m7 n7 a8 m8) 31)).alloc (.cells #[.string ⟨#[]⟩, .slice none 0 0, .slice none 0 0, .slice none 0 0, .slice none 0 0, .slice none 0 0, .slice none 0 0, .slice none 0 0, .slice none 0 0] 31)).heap.size w (fun w => Rows w 2 Hd.HdrR v F.P.hs)), (7, fun v w => Own ((W.alloc (.cells (Yq0 F a1 m1 a2 m2 a3 m3 a4 m4 a5 m5 a6 m6 a7 m7 n7 a8 m8) 31)).alloc (.cells #[.string ⟨#[]⟩, .slice none 0 0, .slice none 0 0, .slice none 0 0, .slice none 0 0, .slice none 0 0, .slice none 0 0, .slice none 0 0, .slice none 0 0] 31)).heap.size w (fun w => Hd.Flds w v F.P.md)), (10, fun v w => Own ((W.alloc (.cells (Yq0 F a1 m1 a2 m2 a3 m3 a4 m4 a5 m5 a6 m6 a7 m7 n7 a8 m8) 31)).alloc (.cells #[.string ⟨#[]⟩, .slice none 0 0, .slice none 0 0, .slice none 0 0, .slice none 0 0, .slice none 0 0, .slice none 0 0, .slice none 0 0, .slice none 0 0] 31)).heap.size w (fun w => Rows w 3 Rg.RegR v F.rs)), (13, fun v w => Own ((W.alloc (.cells (Yq0 F a1 m1 a2 m2 a3 m3 a4 m4 a5 m5 a6 m6 a7 m7 n7 a8 m8) 31)).alloc (.cells #[.string ⟨#[]⟩, .slice none 0 0, .slice none 0 0, .slice none 0 0, .slice none 0 0, .slice none 0 0, .slice none 0 0, .slice none 0 0, .slice none 0 0] 31)).heap.size w (fun w => Tj.Acts w v F.ac)), (16, fun v w => Own ((W.alloc (.cells (Yq0 F a1 m1 a2 m2 a3 m3 a4 m4 a5 m5 a6 m6 a7 m7 n7 a8 m8) 31)).alloc (.cells #[.string ⟨#[]⟩, .slice none 0 0, .slice none 0 0, .slice none 0 0, .slice none 0 0, .slice none 0 0, .slice none 0 0, .slice none 0 0, .slice none 0 0] 31)).heap.size w (fun w => Tj.Tabs w v F.ts)), (19, fun v w => Own ((W.alloc (.cells (Yq0 F a1 m1 a2 m2 a3 m3 a4 m4 a5 m5 a6 m6 a7 m7 n7 a8 m8) 31)).alloc (.cells #[.string ⟨#[]⟩, .slice none 0 0, .slice none 0 0, .slice none 0 0, .slice none 0 0, .slice none 0 0, .slice none 0 0, .slice none 0 0, .slice none 0 0] 31)).heap.size w (fun w => Rows w 7 Ps.StR v F.ss)), (22, fun v w => Own ((W.alloc (.cells (Yq0 F a1 m1 a2 m2 a3 m3 a4 m4 a5 m5 a6 m6 a7 m7 n7 a8 m8) 31)).alloc (.cells #[.string ⟨#[]⟩, .slice none 0 0, .slice none 0 0, .slice none 0 0, .slice none 0 0, .slice none 0 0, .slice none 0 0, .slice none 0 0, .slice none 0 0] 31)).heap.size w (fun w => Tj.Ctl cn w v F.cs F.nest n7)), (25, fun v w => Own ((W.alloc (.cells (Yq0 F a1 m1 a2 m2 a3 m3 a4 m4 a5 m5 a6 m6 a7 m7 n7 a8 m8) 31)).alloc (.cells #[.string ⟨#[]⟩, .slice none 0 0, .slice none 0 0, .slice none 0 0, .slice none 0 0, .slice none 0 0, .slice none 0 0, .slice none 0 0, .slice none 0 0] 31)).heap.size w (fun w => (Ns .i64 w v F.P.dp ∧ ∃ a c, v = .slice a F.P.dp.length c ∧ F.P.dp.length ≤ c ∧ c ≤ 9223372036854775807)))]) (Rel.tab_lasts (by intro p hp v w w' hr hx; simp only [List.mem_cons, List.not_mem_nil, or_false] at hp; rcases hp with rfl | rfl | rfl | rfl | rfl | rfl | rfl | rfl; (· exact hr.ext hx); (· exact hr.ext hx); (· exact hr.ext hx); (· exact hr.ext hx); (· exact hr.ext hx); (· exact hr.ext hx); (· exact hr.ext hx); (· exact hr.ext hx))) (by kernel_rfl) (by kernel_rfl) (eR _) ?_
 simp only [tkS, tkZ]
 refine Rel.chunkT 4 rfl rfl rfl ?_
 simp only [tkS, tkZ, dpS, dpZ, Nat.reduceAdd]
 repeat (go_big_quiet_step (fail))
 refine wpQuiet_nil ?_
 refine Rel.callG _ rfl rfl rfl Tryz.func45 (by nofun) (by decide) #[.slice a1 F.P.hs.length m1, .func (.func 46) #[] #[]] rfl (fun w hx _ => by refine (HC0.out w ((grows (a := W) (b := ((W.alloc (.cells (Yq0 F a1 m1 a2 m2 a3 m3 a4 m4 a5 m5 a6 m6 a7 m7 n7 a8 m8) 31)).alloc (.cells #[.string ⟨#[]⟩, .slice none 0 0, .slice none 0 0, .slice none 0 0, .slice none 0 0, .slice none 0 0, .slice none 0 0, .slice none 0 0, .slice none 0 0] 31)))).trans hx)).mono ?_; intro e w9 h9; exact h9.rel hx.le) ?_
 intro u0 v0 _ _ r0
 simp only [Act.put, stA, stS, stZ]
 refine Rel.chunkT 2 rfl rfl rfl ?_
 simp only [tkS, tkZ, dpS, dpZ, Nat.reduceAdd]
 repeat (go_big_quiet_step (fail))
 refine wpQuiet_nil ?_
 refine Rel.callG _ rfl rfl rfl Tryz.func47 (by nofun) (by decide) #[.slice a2 F.P.md.length m2] rfl (fun w hx _ => by refine (HC1.out w ((grows (a := W) (b := ((W.alloc (.cells (Yq0 F a1 m1 a2 m2 a3 m3 a4 m4 a5 m5 a6 m6 a7 m7 n7 a8 m8) 31)).alloc (.cells #[.string ⟨#[]⟩, .slice none 0 0, .slice none 0 0, .slice none 0 0, .slice none 0 0, .slice none 0 0, .slice none 0 0, .slice none 0 0, .slice none 0 0] 31)))).trans hx)).mono ?_; intro e w9 h9; exact h9.rel hx.le) ?_
 intro u1 v1 _ _ r1
 simp only [Act.put, stA, stS, stZ]
 refine Rel.chunkT 2 rfl rfl rfl ?_
 simp only [tkS, tkZ, dpS, dpZ, Nat.reduceAdd]
 repeat (go_big_quiet_step (fail))
 refine wpQuiet_nil ?_
 refine Rel.callG _ rfl rfl rfl Tryz.func48 (by nofun) (by decide) #[.slice a3 F.rs.length m3] rfl (fun w hx _ => by refine (HC2.out w ((grows (a := W) (b := ((W.alloc (.cells (Yq0 F a1 m1 a2 m2 a3 m3 a4 m4 a5 m5 a6 m6 a7 m7 n7 a8 m8) 31)).alloc (.cells #[.string ⟨#[]⟩, .slice none 0 0, .slice none 0 0, .slice none 0 0, .slice none 0 0, .slice none 0 0, .slice none 0 0, .slice none 0 0, .slice none 0 0] 31)))).trans hx)).mono ?_; intro e w9 h9; exact h9.rel hx.le) ?_
 intro u2 v2 _ _ r2
 simp only [Act.put, stA, stS, stZ]
 refine Rel.chunkT 2 rfl rfl rfl ?_
 simp only [tkS, tkZ, dpS, dpZ, Nat.reduceAdd]
 repeat (go_big_quiet_step (fail))
 refine wpQuiet_nil ?_
 refine Rel.callG _ rfl rfl rfl Tryz.func49 (by nofun) (by decide) #[.slice a4 F.ac.length m4, .func (.func 50) #[] #[]] rfl (fun w hx _ => by refine (HC3.out w ((grows (a := W) (b := ((W.alloc (.cells (Yq0 F a1 m1 a2 m2 a3 m3 a4 m4 a5 m5 a6 m6 a7 m7 n7 a8 m8) 31)).alloc (.cells #[.string ⟨#[]⟩, .slice none 0 0, .slice none 0 0, .slice none 0 0, .slice none 0 0, .slice none 0 0, .slice none 0 0, .slice none 0 0, .slice none 0 0] 31)))).trans hx)).mono ?_; intro e w9 h9; exact h9.rel hx.le) ?_
 intro u3 v3 _ _ r3
 simp only [Act.put, stA, stS, stZ]
 refine Rel.chunkT 2 rfl rfl rfl ?_
 simp only [tkS, tkZ, dpS, dpZ, Nat.reduceAdd]
 repeat (go_big_quiet_step (fail))
 refine wpQuiet_nil ?_
 refine Rel.callG _ rfl rfl rfl Tryz.func51 (by nofun) (by decide) #[.slice a5 F.ts.length m5, .func (.func 52) #[] #[]] rfl (fun w hx _ => by refine (HC4.out w ((grows (a := W) (b := ((W.alloc (.cells (Yq0 F a1 m1 a2 m2 a3 m3 a4 m4 a5 m5 a6 m6 a7 m7 n7 a8 m8) 31)).alloc (.cells #[.string ⟨#[]⟩, .slice none 0 0, .slice none 0 0, .slice none 0 0, .slice none 0 0, .slice none 0 0, .slice none 0 0, .slice none 0 0, .slice none 0 0] 31)))).trans hx)).mono ?_; intro e w9 h9; exact h9.rel hx.le) ?_
 intro u4 v4 _ _ r4
 simp only [Act.put, stA, stS, stZ]
 refine Rel.chunkT 2 rfl rfl rfl ?_
 simp only [tkS, tkZ, dpS, dpZ, Nat.reduceAdd]
 repeat (go_big_quiet_step (fail))
 refine wpQuiet_nil ?_
 refine Rel.callG _ rfl rfl rfl Tryz.func53 (by nofun) (by decide) #[.slice a6 F.ss.length m6, .func (.func 54) #[] #[]] rfl (fun w hx _ => by refine (HC5.out w ((grows (a := W) (b := ((W.alloc (.cells (Yq0 F a1 m1 a2 m2 a3 m3 a4 m4 a5 m5 a6 m6 a7 m7 n7 a8 m8) 31)).alloc (.cells #[.string ⟨#[]⟩, .slice none 0 0, .slice none 0 0, .slice none 0 0, .slice none 0 0, .slice none 0 0, .slice none 0 0, .slice none 0 0, .slice none 0 0] 31)))).trans hx)).mono ?_; intro e w9 h9; exact h9.rel hx.le) ?_
 intro u5 v5 _ _ r5
 simp only [Act.put, stA, stS, stZ]
 refine Rel.chunkT 2 rfl rfl rfl ?_
 simp only [tkS, tkZ, dpS, dpZ, Nat.reduceAdd]
 repeat (go_big_quiet_step (fail))
 refine wpQuiet_nil ?_
 refine Rel.callG _ rfl rfl rfl Tryz.func55 (by nofun) (by decide) #[.slice a7 n7 m7, .func (.func 56) #[] #[]] rfl (fun w hx _ => by refine (HC6.out w ((grows (a := W) (b := ((W.alloc (.cells (Yq0 F a1 m1 a2 m2 a3 m3 a4 m4 a5 m5 a6 m6 a7 m7 n7 a8 m8) 31)).alloc (.cells #[.string ⟨#[]⟩, .slice none 0 0, .slice none 0 0, .slice none 0 0, .slice none 0 0, .slice none 0 0, .slice none 0 0, .slice none 0 0, .slice none 0 0] 31)))).trans hx)).mono ?_; intro e w9 h9; exact h9.rel hx.le) ?_
 intro u6 v6 _ _ r6
 simp only [Act.put, stA, stS, stZ]
 refine Rel.chunkT 2 rfl rfl rfl ?_
 simp only [tkS, tkZ, dpS, dpZ, Nat.reduceAdd]
 repeat (go_big_quiet_step (fail))
 refine wpQuiet_nil ?_
 refine Rel.callG _ rfl rfl rfl Tryz.func57 (by nofun) (by decide) #[.slice a8 F.P.dp.length m8] rfl (fun w hx _ => by refine (HC7.out w ((grows (a := W) (b := ((W.alloc (.cells (Yq0 F a1 m1 a2 m2 a3 m3 a4 m4 a5 m5 a6 m6 a7 m7 n7 a8 m8) 31)).alloc (.cells #[.string ⟨#[]⟩, .slice none 0 0, .slice none 0 0, .slice none 0 0, .slice none 0 0, .slice none 0 0, .slice none 0 0, .slice none 0 0, .slice none 0 0] 31)))).trans hx)).mono ?_; intro e w9 h9; exact h9.rel hx.le) ?_
 intro u7 v7 _ _ r7
 simp only [Act.put, stA, stS, stZ]
 refine Rel.fin ?_
 intro w7 x7 hf7
 have O0 := Lh ((hf7 4).1.1.1.1.1.1.1.2 rfl)
 have O1 := Lh ((hf7 7).1.1.1.1.1.1.2 rfl)
 have O2 := Lh ((hf7 10).1.1.1.1.1.2 rfl)
 have O3 := Lh ((hf7 13).1.1.1.1.2 rfl)
 have O4 := Lh ((hf7 16).1.1.1.2 rfl)
 have O5 := Lh ((hf7 19).1.1.2 rfl)
 have O6 := Lh ((hf7 22).1.2 rfl)
 have O7 := Lh ((hf7 25).2 rfl)
 clear hf7 r0 r1 r2 r3 r4 r5 r6 r7
 obtain ⟨ua0, uc0, e0⟩ : ∃ a c, u0 = .slice a (F.P.hs.length) c := by have h := O0.out.now; obtain ⟨a, c, e, _⟩ := h.slice; exact ⟨a, c, e⟩
 subst e0
 obtain ⟨ua1, uc1, e1⟩ : ∃ a c, u1 = .slice a (F.P.md.length) c := by have h := O1.out.now; obtain ⟨a, c, e, _⟩ := h.slice; exact ⟨a, c, e⟩
 subst e1
 obtain ⟨ua2, uc2, e2⟩ : ∃ a c, u2 = .slice a (F.rs.length) c := by have h := O2.out.now; obtain ⟨a, c, e, _⟩ := h.slice; exact ⟨a, c, e⟩
 subst e2
 obtain ⟨ua3, uc3, e3⟩ : ∃ a c, u3 = .slice a (F.ac.length) c := by have h := O3.out.now; obtain ⟨a, c, e, _⟩ := h.slice; exact ⟨a, c, e⟩
 subst e3
 obtain ⟨ua4, uc4, e4⟩ : ∃ a c, u4 = .slice a (F.ts.length) c := by have h := O4.out.now; obtain ⟨a, c, e, _⟩ := h.slice; exact ⟨a, c, e⟩
 subst e4
 obtain ⟨ua5, uc5, e5⟩ : ∃ a c, u5 = .slice a (F.ss.length) c := by have h := O5.out.now; obtain ⟨a, c, e, _⟩ := h.slice; exact ⟨a, c, e⟩
 subst e5
 obtain ⟨ua6, uc6, e6⟩ : ∃ a c, u6 = .slice a (n7) c := by have h := O6.out.now; obtain ⟨a, c, e, _⟩ := h.slice; exact ⟨a, c, e⟩
 subst e6
 obtain ⟨ua7, uc7, e7⟩ : ∃ a c, u7 = .slice a (F.P.dp.length) c := by have h := O7.out.now; obtain ⟨_, a, c, e, _⟩ := h; exact ⟨a, c, e⟩
 subst e7
 have hr7 := x7.heap (aH (W.alloc (.cells (Yq0 F a1 m1 a2 m2 a3 m3 a4 m4 a5 m5 a6 m6 a7 m7 n7 a8 m8) 31)) (.cells #[.string ⟨#[]⟩, .slice none 0 0, .slice none 0 0, .slice none 0 0, .slice none 0 0, .slice none 0 0, .slice none 0 0, .slice none 0 0, .slice none 0 0] 31))
 rw [szA] at hr7
 have HR7 := Lh hr7
 have X7 := Lh ((grows (a := W) (b := ((W.alloc (.cells (Yq0 F a1 m1 a2 m2 a3 m3 a4 m4 a5 m5 a6 m6 a7 m7 n7 a8 m8) 31)).alloc (.cells #[.string ⟨#[]⟩, .slice none 0 0, .slice none 0 0, .slice none 0 0, .slice none 0 0, .slice none 0 0, .slice none 0 0, .slice none 0 0, .slice none 0 0] 31)))).trans x7)
 clear hr7 x7
 go_wp2_with (refine wpList_store_box rfl 31 (.tmp 2) (.tmp 29) rfl (W.heap.size + 1) #[.string F.nm, .slice ua0 (F.P.hs.length) uc0, .slice ua1 (F.P.md.length) uc1, .slice ua2 (F.rs.length) uc2, .slice ua3 (F.ac.length) uc3, .slice ua4 (F.ts.length) uc4, .slice ua5 (F.ss.length) uc5, .slice ua6 (n7) uc6, .slice ua7 (F.P.dp.length) uc7] rfl rfl 31 #[.string ⟨#[]⟩, .slice none 0 0, .slice none 0 0, .slice none 0 0, .slice none 0 0, .slice none 0 0, .slice none 0 0, .slice none 0 0, .slice none 0 0] HR7.out (by kernel_rfl) rfl (by simp [Value.oneCell']) ?_)
 intro wf hmf hbf
 have HMF := Lh hmf
 have q0 := cQ 0 hbf; have q1 := cQ 1 hbf; have q2 := cQ 2 hbf; have q3 := cQ 3 hbf; have q4 := cQ 4 hbf; have q5 := cQ 5 hbf; have q6 := cQ 6 hbf; have q7 := cQ 7 hbf; have q8 := cQ 8 hbf
 clear hmf hbf
 go_wp2_with fail
 refine bodyPost_ret (v := .agg #[.string F.nm, .slice ua0 (F.P.hs.length) uc0, .slice ua1 (F.P.md.length) uc1, .slice ua2 (F.rs.length) uc2, .slice ua3 (F.ac.length) uc3, .slice ua4 (F.ts.length) uc4, .slice ua5 (F.ss.length) uc5, .slice ua6 (n7) uc6, .slice ua7 (F.P.dp.length) uc7]) (by simp [results, Tryz.results17, go_sem, q0, q1, q2, q3, q4, q5, q6, q7, q8]) rfl ⟨_, rfl, ?fx, ?fy⟩
 case fx => exact X7.out.mod HMF.out (fun q hq => by omega)
 case fy =>
  refine (Own.low (Own.set (((((((O0.out.and O1.out).and O2.out).and O3.out).and O4.out).and O5.out).and O6.out).and O7.out) HMF.out (fun k hk => by simp; omega)) (C := W.heap.size) (by simp; omega)).imp (fun w h => ?_)
  refine ⟨⟨.string F.nm, .slice ua0 (F.P.hs.length) uc0, .slice ua1 (F.P.md.length) uc1, .slice ua2 (F.rs.length) uc2, .slice ua3 (F.ac.length) uc3, .slice ua4 (F.ts.length) uc4, .slice ua5 (F.ss.length) uc5, .slice ua6 (n7) uc6, .slice ua7 (F.P.dp.length) uc7⟩, rfl, ⟨⟨rfl, HNM.out⟩, ⟨⟨⟨_, rfl⟩, h.1.1.1.1.1.1.1, h.1.1.1.1.1.1.2, ⟨_, _, _, rfl⟩, ⟨_, _, _, rfl⟩, ⟨_, _, _, rfl⟩, ⟨_, _, _, rfl⟩, ⟨_, _, _, rfl⟩, h.2.1⟩, h.1.1.2⟩, h.1.1.1.1.1.2, h.1.1.1.1.2, h.1.1.1.2, ⟨_, _, h.1.2⟩, HD.out⟩, HCL.out, ?_⟩
  obtain ⟨a, c, e, l1, l2⟩ := h.2.2
  exact ⟨a, _, c, e, l1, l2⟩
end Go.Proofs.YthmokhkkdgnbhaaGreat
