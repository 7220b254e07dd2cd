/- Transactions: copies of rows; Commit's deferred closure, walked. Transactions: Commit, walked. Transactions: Apply, walked. Checksums: word, number, FNV1a, Frame, Unframe, walked. Checksums: Frame and Unframe, walked. Checksums: Unframe, walked. The encoding of a transaction, plainly; appendNumber, appendCall, walked. No condition. -/
import Derived.Test.YthmokhkkdgnbhaaGreatJqAO
import Derived.BigQuiet
import Derived.Defers
import Derived.Laws.CopyOwn
import Derived.Laws.MakeOwn
set_option maxRecDepth 8000
set_option maxHeartbeats 16000000
namespace Go.Proofs.YthmokhkkdgnbhaaGreat
open Go.RowKit
theorem copy_full {P : Program} {w : World} {dT sT ty elem : TypeId} {sz g n : Nat} {y : Value} {news : List Value} {cur : Array Value} {t : TypeId} (hu : P.underlying dT = some (.slice elem)) (hsz : (P.info? elem).map (·.size) = some sz) (hsrc : Src w y sz n news) (hg : w.heap[g]? = some (.cells cur t (0, 0))) (hc : cur.size = n * sz) :
 (Builtin.copy_ #[dT, sT] ty #[.slice (some ⟨g, 0, none⟩) n n, y]).run P w = .ok (goInt n) (w.setRow g news.toArray) := by
 obtain ⟨h1, h2, h3⟩ := hsrc
 cases hq : P.info? elem with
 | none => simp [hq] at hsz
 | some i =>
  have hi : i.size = sz := by simpa [hq] using hsz
  rcases h3 with ⟨rfl, rfl⟩ | ⟨ad, c, rfl, h4⟩
  ·obtain rfl : news = [] := List.eq_nil_of_length_eq_zero (by simpa using h1)
   have hcur : cur = #[] := Array.eq_empty_of_size_eq_zero (by simpa using hc)
   subst hcur
   have hs := setRow_self w g #[] t (0, 0) hg
   simp [Builtin.copy_, run_underlying hu, Builtin.lenOf, Builtin.firstCells, sizeOf, typeInfo, hq, storeCells, hs]
  ·have hl := run_loadCells_list (P := P) w ad news h4
   have hst := run_storeCells_at P g 0 t news 0 cur w hg (by omega) h2
   have e1 : cur.toList.take (0 + 0) ++ news ++ cur.toList.drop (0 + 0 + news.length) = news := by
    rw [List.drop_of_length_le (by simp; omega)]; simp
   rw [e1] at hst
   rw [h1] at hl
   simp [Builtin.copy_, run_underlying hu, Builtin.lenOf, Builtin.firstCells, sizeOf, typeInfo, hq, hi, hl, hst]
/-- copy into a row made anew, of its length -/
theorem wpList_copy_full {P : Program} {ops : Array Oper} {rest : List Oper} {o : Oper} {a : Act} {w : World} {Q : Exit → Act → World → Prop} (hgd : o.guard = none) (d s : Operand) (dT sT elem : TypeId) (sz g n : Nat) (y : Value) (news : List Value) (cur : Array Value) (t : TypeId)
 (ho : o.op = .call { callee := .builtin .copy, args := #[d, s], argTypes := #[dT, sT] }) (hu : P.underlying dT = some (.slice elem)) (hsz : (P.info? elem).map (·.size) = some sz)
 (hd : a.eval d = .slice (some ⟨g, 0, none⟩) n n) (hs : a.eval s = y) (hsrc : Src w y sz n news) (hg : w.heap[g]? = some (.cells cur t (0, 0))) (hc : cur.size = n * sz)
 (h : ∀ w', Mod (· = g) w w' → w'.heap[g]? = some (.cells news.toArray t (0, 0)) → wpList P ops Q rest (a.put o.dst (goInt n)) w') : wpList P ops Q (o :: rest) a w :=
 wpList_plain hgd fun _ hK => by
  unfold Oper.wp execOp
  simp only [ho, resolve, invoke, builtin, Sem.run_bind, Sem.run_pure, Result.andThen_ok, List.map_toArray, List.map_cons, List.map_nil, hd, hs, copy_full hu hsz hsrc hg hc]
  exact hK _ _ (h _ mod_setRow (setRow_heap w g cur _ t _ hg))
/-- a slice's elements as one source -/
theorem Rows.src {α : Type} {w : World} {sz : Nat} {R : World → List Value → α → Prop} {v : Value} {ds : List α} (h : Rows w sz R v ds) (hR : ∀ cs d, R w cs d → ∀ u ∈ cs, u.oneCell' = true) :
 ∃ css : List (List Value), css.length = ds.length ∧ (∀ x ∈ css, x.length = sz) ∧ (∀ (i : Nat) (cs : List Value) (d : α), css[i]? = some cs → ds[i]? = some d → R w cs d) ∧ Src w v sz ds.length css.flatten := by
 rcases h with ⟨rfl, rfl⟩ | ⟨ad, c, rfl, _, _, h5, h4⟩
 ·exact ⟨[], rfl, by simp, by simp, by simp, by simp, .inl ⟨rfl, rfl⟩⟩
 ·obtain ⟨css, hl, hc⟩ := choose_list (n := ds.length) (p := fun i (cs : List Value) => ∀ d, ds[i]? = some d → cs.length = sz ∧ R w cs d ∧ ∀ j u, cs[j]? = some u → w.cell? ⟨ad.block, ad.off + i * sz + j, none⟩ = some u) (fun i hi => by
   obtain ⟨cs, h⟩ := h4 i _ (gE hi)
   exact ⟨cs, fun d hd => by rw [gE hi] at hd; obtain rfl := Option.some.inj hd; exact h⟩)
  have hcs : ∀ {i : Nat} {cs : List Value}, css[i]? = some cs → ∃ d, ds[i]? = some d ∧ cs.length = sz ∧ R w cs d ∧ ∀ j u, cs[j]? = some u → w.cell? ⟨ad.block, ad.off + i * sz + j, none⟩ = some u := fun {i cs} hi => by
   have hlt : i < ds.length := by have := (List.getElem?_eq_some_iff.1 hi).1; omega
   exact ⟨_, gE hlt, hc i cs hi _ (gE hlt)⟩
  have hsz : ∀ x ∈ css, x.length = sz := fun x hx => by
   obtain ⟨i, hi⟩ := List.getElem?_of_mem hx
   obtain ⟨d, _, h1, _⟩ := hcs hi; exact h1
  have hfl : css.flatten.length = ds.length * sz := by
   rw [List.length_flatten, ← hl]
   clear hcs hc hl
   induction css with
   | nil => simp
   | cons x l ih => rw [List.map_cons, List.sum_cons, ih (fun y hy => hsz y (by simp [hy])), hsz x (by simp), List.length_cons, Nat.succ_mul]; omega
  refine ⟨css, hl, hsz, fun i cs d hi hd => ?_, hfl, fun u hu => ?_, .inr ⟨ad, c, rfl, fun j u hj => ?_⟩⟩
  ·obtain ⟨d', hd', _, h2, _⟩ := hcs hi
   rw [hd] at hd'; obtain rfl := Option.some.inj hd'; exact h2
  ·obtain ⟨x, hx, hux⟩ := List.mem_flatten.1 hu
   obtain ⟨i, hi⟩ := List.getElem?_of_mem hx
   obtain ⟨d, _, _, h2, _⟩ := hcs hi
   exact hR x d h2 u hux
  ·have hz : 0 < sz := by
    rcases Nat.eq_zero_or_pos sz with h | h
    ·rw [h, Nat.mul_zero] at hfl
     have := (List.getElem?_eq_some_iff.1 hj).1; omega
    ·exact h
   have hjl : j < ds.length * sz := by have := (List.getElem?_eq_some_iff.1 hj).1; omega
   have hq : j / sz < ds.length := (Nat.div_lt_iff_lt_mul hz).2 hjl
   have hr : j % sz < sz := Nat.mod_lt _ hz
   obtain ⟨cs, hi⟩ : ∃ cs, css[j / sz]? = some cs := ⟨_, gE (by omega)⟩
   obtain ⟨d, hd, h1, _, h3⟩ := hcs hi
   obtain ⟨u', hu'⟩ : ∃ u', cs[j % sz]? = some u' := ⟨_, gE (by omega)⟩
   have h6 := flatten_one hsz hi hu'
   rw [Nat.div_add_mod' j sz, hj] at h6
   obtain rfl := Option.some.inj h6
   have h7 := h3 _ _ hu'
   have hne : ds ≠ [] := by intro h0; subst h0; simp at hq
   rw [h5 hne, add_mk]
   rw [Nat.add_assoc, Nat.div_add_mod' j sz] at h7; exact h7
namespace Tj
/-- operations in memory that stay while blocks of S change -/
def OpsIn (S : Nat → Prop) (w : World) (lv : Value) (l : List TOp) : Prop := ∃ css : List (List Value), css.length = l.length ∧ (∀ x ∈ css, x.length = 9) ∧ Src w lv 9 l.length css.flatten ∧ ∀ (i : Nat) (cs : List Value) (o : TOp), css[i]? = some cs → l[i]? = some o → ∀ w', Mod S w w' → TOpR w' cs o
theorem TOpR.one {w : World} {cs : List Value} {o : TOp} (h : TOpR w cs o) : ∀ u ∈ cs, u.oneCell' = true := by
 obtain ⟨ka, kc, ga, gc, ha, hc, rfl, _⟩ := h
 simp [Value.oneCell']
theorem opsIn_of {S : Nat → Prop} {W w : World} {lv : Value} {l : List TOp} (h : Rows W 9 TOpR lv l) (hx : Ext W w) (hS : ∀ k, S k → W.heap.size ≤ k) : OpsIn S w lv l := by
 obtain ⟨css, h1, h2, h3, h4⟩ := h.src (fun _ _ h => h.one)
 exact ⟨css, h1, h2, h4.ext hx, fun i cs o hi ho w' hm => (h3 i cs o hi ho).ext (hx.mod hm hS)⟩
end Tj
theorem commit1_ok {w : World} {q0 q1 q2 : Nat} (h : w.heap[q1]? = some (.cells #[.int .i64 0] 38 (0, 0))) : CallsD Tryz.prog 111 #[.pointer (some ⟨q1, 0, none⟩), .pointer (some ⟨q2, 0, none⟩), .pointer (some ⟨q0, 0, none⟩)] .returning w fun e u' w' => u' = .returning ∧ e = .returned (.tuple #[]) ∧ w' = w := by
 have k0 := alw (cQ 0 h)
 refine callsD_of_wp Tryz.func111 rfl ?_
 show Code.wp _ _ _ { tmps := #[.pointer (some ⟨q1, 0, none⟩), .pointer (some ⟨q2, 0, none⟩), .pointer (some ⟨q0, 0, none⟩), undef, undef, undef, undef, undef, undef, undef], defers := [] } _
 go_wp2_with fail
 exact ⟨rfl, .tuple #[], by simp [results, Tryz.results111, go_sem], rfl, rfl⟩
theorem commit1_bad {w : World} {q0 q1 q2 sp bp : Nat} {er : Int} {x0 x1 x2 x3 x4 x5 x6 x7 x8 x9 x10 x11 x12 x13 x14 y0 y1 y2 y3 y4 y5 y6 y7 y8 y9 y10 y11 y12 y13 y14 : Value} (h : w.heap[q1]? = some (.cells #[.int .i64 er] 38 (0, 0))) (he : er ≠ 0)
 (h2 : w.heap[q2]? = some (.cells #[.pointer (some ⟨bp, 0, none⟩)] 76 (0, 0))) (h0 : w.heap[q0]? = some (.cells #[.pointer (some ⟨sp, 0, none⟩)] 76 (0, 0))) (hb : w.heap[bp]? = some (.cells #[x0, x1, x2, x3, x4, x5, x6, x7, x8, x9, x10, x11, x12, x13, x14] 143 (0, 0))) (hx : (#[x0, x1, x2, x3, x4, x5, x6, x7, x8, x9, x10, x11, x12, x13, x14] : Array Value).all (·.oneCell') = true) (hs : w.heap[sp]? = some (.cells #[y0, y1, y2, y3, y4, y5, y6, y7, y8, y9, y10, y11, y12, y13, y14] 143 (0, 0))) :
 CallsD Tryz.prog 111 #[.pointer (some ⟨q1, 0, none⟩), .pointer (some ⟨q2, 0, none⟩), .pointer (some ⟨q0, 0, none⟩)] .returning w fun e u' w' => u' = .returning ∧ e = .returned (.tuple #[]) ∧ Mod (· = sp) w w' := by
 have k0 := alw (cQ 0 h)
 have k2 := alw (cQ 0 h2)
 have k3 := alw (cQ 0 h0)
 have b0 := alw (cQ 0 hb)
 have b1 := alw (cQ 1 hb)
 have b2 := alw (cQ 2 hb)
 have b3 := alw (cQ 3 hb)
 have b4 := alw (cQ 4 hb)
 have b5 := alw (cQ 5 hb)
 have b6 := alw (cQ 6 hb)
 have b7 := alw (cQ 7 hb)
 have b8 := alw (cQ 8 hb)
 have b9 := alw (cQ 9 hb)
 have b10 := alw (cQ 10 hb)
 have b11 := alw (cQ 11 hb)
 have b12 := alw (cQ 12 hb)
 have b13 := alw (cQ 13 hb)
 have b14 := alw (cQ 14 hb)
 have HS := Lh hs
 have HX := Lh hx
 have z1 : (er != 0) = true := nT he
 clear h h2 h0 hb hs hx he
 refine callsD_of_wp Tryz.func111 rfl ?_
 show Code.wp _ _ _ { tmps := #[.pointer (some ⟨q1, 0, none⟩), .pointer (some ⟨q2, 0, none⟩), .pointer (some ⟨q0, 0, none⟩), undef, undef, undef, undef, undef, undef, undef], defers := [] } _
 go_wp2_with fail
 refine wp_region_later_tail 4 (by kernel_rfl) (by kernel_rfl) (eR _) ?_
 simp only [tkS, tkZ, dpS, dpZ]
 repeat (go_big_quiet_step (fail))
 refine wpQuiet_nil ?_
 intro w2 x2
 have X2 := Lh x2
 have HS2 := Lh (x2.heap HS.out)
 clear x2
 go_wp2_with (refine wpList_store_box rfl 143 (.tmp 9) (.tmp 8) rfl sp #[x0, x1, x2, x3, x4, x5, x6, x7, x8, x9, x10, x11, x12, x13, x14] rfl rfl 143 #[y0, y1, y2, y3, y4, y5, y6, y7, y8, y9, y10, y11, y12, y13, y14] HS2.out (by kernel_rfl) rfl HX.out ?_)
 intro wf hmf hbf
 have HMF := Lh hmf
 clear hmf hbf
 go_wp2_with fail
 exact ⟨rfl, .tuple #[], by simp [results, Tryz.results111, go_sem], rfl, (Mod.of_ext X2.out).trans HMF.out⟩
abbrev Yq6  : Array Value := #[.int .i64 0, .int .i64 0, .int .i64 0, .slice none 0 0, .int .i64 0, .int .i64 0, .slice none 0 0, .int .i64 0, .slice none 0 0]
theorem mk_ops (n : Nat) (h : n ≤ 64) (w : World) : (Instr.makeSlice 52 (.int .i64 (n : Int)) (.int .i64 (n : Int))).run Tryz.prog w = .ok (.slice (some ⟨w.heap.size, 0, none⟩) n n) (w.alloc (.cells (madeCells (.agg (Yq6 ) : Value).cells (n * 9)) 67)) := by
 have hr := run_make (P := Tryz.prog) w 52 67 Tryz.t67 (.agg (Yq6 )) Tryz.underlying52 (by kernel_rfl) (by kernel_rfl) .i64 .i64 n n (by omega) (by omega) (by show (120 : Int) * _ ≤ _; omega) (by omega)
 simp only [Int.toNat_natCast] at hr
 exact hr
namespace Tj
theorem St.kept {S T : Nat → Prop} {lo hi sp : Nat} {V : SV} {w w' : World} {F : FP} {C : Cfg} (h : St S lo hi sp V w F C) (hm : Mod T w w') (hT : ∀ k, T k → ¬ S k ∧ (k < lo ∨ hi ≤ k) ∧ k ≠ sp) (hl : Kp [209, 118, 61] w w') : St S lo hi sp V w' F C := by
 obtain ⟨h1, h2, vs, ms, h3⟩ := h
 exact ⟨hm.heap h1 (fun e => (hT _ e).2.2 rfl), fun k hk => ⟨Nat.lt_of_lt_of_le (h2 k hk).1 hm.size, (h2 k hk).2⟩, vs, ms, h3.kept hm (fun k hk => ⟨(hT k hk).1, (hT k hk).2.1⟩) hl⟩
theorem StO.one {S : Nat → Prop} {lo hi : Nat} {w : World} {V : SV} {vs ms : List Value} {F : FP} {C : Cfg} {fs : Nat → Nat × (Int → Option Nat)} (h : StO S lo hi w V vs ms F C fs) : (#[V.v0, V.v1, V.v2, V.v3, V.q.c0, V.q.c1, V.q.c2, V.q.c3, V.q.c4, V.q.c5, V.q.c6, V.q.c7, V.q.c8, V.ix, .bool true] : Array Value).all (·.oneCell') = true := by
 obtain ⟨v0, v1, v2, v3, ix, q⟩ := V
 obtain ⟨r0, c0, r1, c1, r2, c2, r3, c3, rfl, rfl, rfl, rfl⟩ := h.cfg.form
 obtain ⟨ia, ic, rfl, _⟩ := own_form h.ix
 obtain ⟨a1, a2, a3, a4, a5, a6, a7, a8, m1, m2, m3, m4, m5, m6, n7, m7, m8, hf⟩ := h.pr.now.1.form
 obtain ⟨rfl, _⟩ := hf
 simp [Value.oneCell']
theorem Loaded.box {W : World} {F : FP} {C : Cfg} {w' : World} {bp : Nat} (h : Loaded W F C w' bp) : W.heap.size ≤ bp ∧ bp < w'.heap.size ∧ ∃ x0 x1 x2 x3 x4 x5 x6 x7 x8 x9 x10 x11 x12 x13 x14, w'.heap[bp]? = some (.cells #[x0, x1, x2, x3, x4, x5, x6, x7, x8, x9, x10, x11, x12, x13, x14] 143 (0, 0)) ∧ (#[x0, x1, x2, x3, x4, x5, x6, x7, x8, x9, x10, x11, x12, x13, x14] : Array Value).all (·.oneCell') = true := by
 obtain ⟨S, lo, hi, V, h1, _, _, h2, _, vs, ms, h3⟩ := h
 exact ⟨h1, lt_of_block h2, _, _, _, _, _, _, _, _, _, _, _, _, _, _, _, h2, h3.one⟩
/-- Commit's variables behind k operations -/
structure CmI (S : Nat → Prop) (lo hi sp : Nat) (V : SV) (w6 : World) (F : FP) (C : Cfg) (l : List TOp) (k : Nat) (o : Value) (Sk : Nat → Prop) (vals : List Value) (wr : World) : Prop where
 st : St Sk lo hi sp V wr F (runsC C (l.take k))
 ok : runsE F C (l.take k) = 0
 sub : ∀ j, Sk j → S j ∨ w6.heap.size ≤ j
 m : Mod S w6 wr
 own : wr.ownsRow w6.heap.size 3 1 o k vals
 out : ∀ j, o.ownBlock = some j → ¬ Sk j
end Tj
namespace Tj
/-- what a list of operations comes to -/
def cmE (F : FP) (C : Cfg) (l : List TOp) : Int := if 64 < l.length then 12 else runsE F C l
end Tj
/-- what Commit leaves -/
def CmP (S : Nat → Prop) (lo hi sp : Nat) (V : Tj.SV) (w : World) (F : Tj.FP) (C : Tj.Cfg) (l : List Tj.TOp) (e : Ending) (w' : World) : Prop := ∃ (idv : Value) (at_ : Int), e = .returned (.tuple #[idv, .int .i64 at_, .int .i64 (Tj.cmE F C l)]) ∧ (Tj.cmE F C l ≠ 0 → Mod (fun k => S k ∨ k = sp) w w') ∧ (Tj.cmE F C l = 0 → Tj.StM S lo hi sp V w F (Tj.runsC C l) w')
theorem us_nil (w : World) : Tj.Us w (.slice none 0 0) [] := ⟨⟨⟨by simp, by simp, .inl ⟨rfl, rfl⟩⟩, by simp⟩, by simp⟩
theorem tcommit_any {S : Nat → Prop} {lo hi sp : Nat} {V : Tj.SV} {w : World} {F : Tj.FP} {C : Tj.Cfg} (h : Tj.St S lo hi sp V w F C) {lv : Value} {l : List Tj.TOp} (hl : Tj.OpsIn S w lv l) :
 Calls Tryz.prog 63 #[.pointer (some ⟨sp, 0, none⟩), lv] w (CmP S lo hi sp V w F C l) := by
 have HSC : Hid (∀ w', Ext w w' → Calls Tryz.prog 109 #[.pointer (some ⟨sp, 0, none⟩)] w' (Tj.LoadP w' F C)) := Lh (fun w' hw => sclone_any (h.ext hw))
 have HMD : Hid (∀ w', Ext w w' → Calls Tryz.prog 110 #[.pointer (some ⟨sp, 0, none⟩), .int .i64 (-1), .int .i64 0, .agg #[.int .i64 0, .slice none 0 0]] w' (ModP S lo hi sp V w' F 8 (Tj.modC C (-1) 0 ⟨0, []⟩))) := Lh (fun w' hw => by
  have h1 := smod_any (h.ext hw) (-1) 0 ⟨by decide, by decide⟩ (c := ⟨0, []⟩) (cv := .agg #[.int .i64 0, .slice none 0 0]) (fun w'' _ => ⟨_, rfl, _, rfl, ⟨by decide, by decide⟩, us_nil w''⟩)
  have h2 : Tj.modE F C (-1) 0 ⟨0, []⟩ = 8 := by
   have h0 : Tj.rowP C (-1) 0 = none := by unfold Tj.rowP; exact if_pos (Or.inl (by decide) : Tj.noT C (-1))
   unfold Tj.modE; rw [h0]; rfl
  rw [h2] at h1; exact h1)
 have HST0 := Lh h
 obtain ⟨v0, v1, v2, v3, ixv, q0, q1, q2, q3, q4, q5, q6, q7, q8⟩ := V
 obtain ⟨hbx, hsl, vs, ms, hst⟩ := h
 have HST := Lh hst
 have HSL := Lh hsl
 have HBX := Lh hbx
 obtain ⟨r0, c0, r1, c1, r2, c2, r3, c3, rfl, rfl, rfl, rfl⟩ := hst.cfg.form
 obtain ⟨ia, ic, rfl, _⟩ := own_form hst.ix
 have hwsp : sp < w.heap.size := lt_of_block hbx
 have k0 := alw (cQ 0 hbx)
 have k1 := alw (cQ 1 hbx)
 have k2 := alw (cQ 2 hbx)
 have k3 := alw (cQ 3 hbx)
 have k4 := alw (cQ 4 hbx)
 have k5 := alw (cQ 5 hbx)
 have k6 := alw (cQ 6 hbx)
 have k7 := alw (cQ 7 hbx)
 have k8 := alw (cQ 8 hbx)
 have k9 := alw (cQ 9 hbx)
 have k10 := alw (cQ 10 hbx)
 have k11 := alw (cQ 11 hbx)
 have k12 := alw (cQ 12 hbx)
 have k13 := alw (cQ 13 hbx)
 have k14 := alw (cQ 14 hbx)
 clear hst hsl hbx
 obtain ⟨css, hcl, hc9, hsrc, hop⟩ := hl
 obtain ⟨la, lc, rfl⟩ : ∃ a c, lv = .slice a l.length c := by
  rcases hsrc.2.2 with ⟨e, h0⟩ | ⟨ad, c, e, _⟩
  ·exact ⟨none, 0, by rw [e, h0]⟩
  ·exact ⟨_, _, e⟩
 have HSRC := Lh hsrc
 have HOP := Lh hop
 have HCL := Lh hcl
 have HC9 := Lh hc9
 obtain ⟨R, hR⟩ : ∃ z, z = Tj.cmE F C l := ⟨_, rfl⟩
 have HRR := Lh hR
 unfold Tj.cmE at hR
 have e0 : ∀ (b : Nat) w', (binOp .eql 76 (.pointer (some ⟨b, 0, none⟩)) (.pointer none)).run Tryz.prog w' = .ok (.bool false) w' := fun _ _ => rfl
 have hmf : ∀ (fn : Fn) (first cap : Array Value) (w : World), (Instr.makeFunc fn first cap).run Tryz.prog w = .ok (.func fn first cap) w := fun _ _ _ _ => rfl
 have ba := aH w (.cells #[.pointer (some ⟨sp, 0, none⟩)] 76)
 have a0 := alw (cQ 0 ba)
 have BA := Lh ba
 have bb := aH (w.alloc (.cells #[.pointer (some ⟨sp, 0, none⟩)] 76)) (.cells #[.int .i64 0] 38)
 rw [szA] at bb
 have a1 := alw (cQ 0 bb)
 have BB := Lh bb
 clear ba bb hsrc hop hcl hc9 k0 k1 k2 k3 k4 k5 k6 k7 k8 k9 k10 k11 k12 k13 k14
 go_enter_defers Tryz.func63, Tryz.ntmps63
 go_wp2_with fail
 refine (HSC.out _ grows).mono ?_
 rintro e w3 ⟨bp, rfl, x3, hld⟩
 have s3 := Sm x3
 have HLD := Lh hld
 have bc := aH w3 (.cells #[.pointer (some ⟨bp, 0, none⟩)] 76)
 have a2 := alw (cQ 0 bc)
 have BC := Lh bc
 have hle3 := x3.le
 simp only [szA] at hle3
 clear bc hld x3
 go_wp2_with fail
 refine (HMD.out _ grows).mono ?_
 rintro e w5 ⟨rfl, hch⟩
 have x5 := hch.1 (by decide)
 have s5 := Sm x5
 have X5 := Lh (grows (a := w) (b := w5))
 clear hch x5
 by_cases hl64 : 64 < l.length
 ·rw [if_pos hl64] at hR
  have dl : decide ((64 : Int) < (l.length : Int)) = true := dTt (by omega)
  have HE := Lh hR
  have f1 : w5.frozen? ⟨w.heap.size + 1, 0, none⟩ = false := free_of (alwB BB.out w5)
  clear hR hl64
  go_wp2_with fail
  have ce1 : (w5.setCell ⟨w.heap.size + 1, 0, none⟩ (.int .i64 12)).cell? ⟨w.heap.size + 1, 0, none⟩ = some (.int .i64 12) := by
   have hb := setCell_heap (o := 0) (v := .int .i64 12) (alwB BB.out w5)
   rw [cell_of hb]; rfl
  have FIN : Hid (CmP S lo hi sp ⟨.slice r0 C.rows.length c0, .slice r1 C.nx.length c1, .slice r2 C.df.length c2, .slice r3 C.rg.length c3, .slice ia C.rows.length ic, ⟨q0, q1, q2, q3, q4, q5, q6, q7, q8⟩⟩ w F C l (.returned (.tuple #[.slice none 0 0, .int .i64 (-1), .int .i64 12])) (w5.setCell ⟨w.heap.size + 1, 0, none⟩ (.int .i64 12))) := Lh ⟨_, _, by rw [← HRR.out, HE.out], fun _ => (Mod.of_ext X5.out).setCell (.inr (by show w.heap.size ≤ w.heap.size + 1; omega)) _, fun h => by rw [← HRR.out, HE.out] at h; exact absurd h (by decide)⟩
  refine ⟨.tuple #[.slice none 0 0, .int .i64 (-1), .int .i64 12], ?_, FIN.out⟩
  simp [results, Tryz.results63, go_sem, ce1]
 ·rw [if_neg hl64] at hR
  have dl : decide ((64 : Int) < (l.length : Int)) = false := dF (by omega)
  have HE := Lh hR
  have hmk := mk_ops l.length (by omega)
  clear hR
  obtain ⟨hbp1, hbp2, x0, x1, x2, x3, x4, x5, x6, x7, x8, x9, x10, x11, x12, x13, x14, hbo, hbx1⟩ := HLD.out.box
  have HBO := Lh hbo
  have HBX1 := Lh hbx1
  simp only [szA] at hbp1
  have HG5 := Lh (aH w5 (.cells (madeCells (.agg (Yq6 ) : Value).cells (l.length * 9)) 67))
  have HSZ5 := Lh (size_madeCells (.agg (Yq6 ) : Value).cells (l.length * 9))
  have HSRC5 := Lh (HSRC.out.ext (X5.out.alloc (.cells (madeCells (.agg (Yq6 ) : Value).cells (l.length * 9)) 67)))
  have hw35 := grows_le (a := w3) (b := w5)
  clear hbo hbx1
  go_wp2_with (refine wpList_copy_full rfl (.tmp 31) (.tmp 32) 52 52 67 9 w5.heap.size l.length (.slice la l.length lc) css.flatten (madeCells (.agg (Yq6 ) : Value).cells (l.length * 9)) 67 rfl Tryz.underlying52 (by kernel_rfl) rfl rfl HSRC5.out HG5.out HSZ5.out ?_)
  intro w6 hm6 hb6
  have s6 : Step w5 w6 := ⟨((eR w5).alloc _).mod hm6 (fun k hk => by subst hk; exact Nat.le_refl _)⟩
  have X6 : Hid (Ext w w6) := Lh grows
  have HB6 := Lh hb6
  have hb6l : w5.heap.size < w6.heap.size := lt_of_block hb6
  have hS6 : ∀ j, S j → j < w.heap.size := fun j hj => (HSL.out j hj).1
  have HBA6 := Lh (alwB BA.out w6)
  have HBB6 := Lh (alwB BB.out w6)
  have HBC6 := Lh (alwB BC.out w6)
  have HBO6 := Lh (alwB HBO.out w6)
  have hle35 : w.heap.size + 2 ≤ w3.heap.size := hle3
  clear hm6 hb6 hmk a0 a1 a2
  go_wp2_with fail
  go_loopw [9, 36] (fun o q wr => ∃ k : Nat, k ≤ l.length ∧ q = .int .i64 k ∧ ∃ oa oc, o = .slice oa k oc ∧ Hid (∃ Sk vals, Tj.CmI S lo hi sp ⟨.slice r0 C.rows.length c0, .slice r1 C.nx.length c1, .slice r2 C.df.length c2, .slice r3 C.rg.length c3, .slice ia C.rows.length ic, ⟨q0, q1, q2, q3, q4, q5, q6, q7, q8⟩⟩ w6 F C l k o Sk vals wr)) (fun _ q _ => l.length - (intOf q).toNat)
  case atStart => exact ⟨0, Nat.zero_le _, rfl, none, 0, rfl, Lh ⟨S, [], HST0.out.ext X6.out, rfl, fun j h => .inl h, Mod.refl _ _, World.ownsRow_nil _ _ _ _, fun j h => by cases h⟩⟩
  case round =>
   obtain ⟨k, hk, rfl, oa, oc, rfl, HZ⟩ := hrel
   obtain ⟨Sk, vals, hci⟩ := HZ.out
   have HCI := Lh hci
   clear hci HZ
   have nS : ∀ {j : Nat}, w.heap.size ≤ j → ¬ S j := fun h1 h2 => by have := hS6 _ h2; omega
   have HA := Lh (HCI.out.m.heap HBA6.out (nS (Nat.le_refl _)))
   have HB := Lh (HCI.out.m.heap HBB6.out (nS (Nat.le_succ _)))
   have HC := Lh (HCI.out.m.heap HBC6.out (nS (by omega)))
   have HO := Lh (HCI.out.m.heap HBO6.out (nS (by omega)))
   have HOB := Lh (HCI.out.m.heap HB6.out (nS (by omega)))
   have hmr := HCI.out.m.size
   have a0 := alw (cQ 0 HA.out)
   have a1 := alw (cQ 0 HB.out)
   have MW : Hid (Mod S w wr) := Lh ((Mod.of_ext X6.out).trans HCI.out.m)
   by_cases hlt : k < l.length
   ·obtain ⟨o, ho⟩ : ∃ x, l[k]? = some x := ⟨_, gE hlt⟩
    obtain ⟨cs, hcs⟩ : ∃ x, css[k]? = some x := ⟨_, gE (by rw [HCL.out]; exact hlt)⟩
    have hop := HOP.out k cs o hcs ho
    have hc9 := fun (j : Nat) (u : Value) (hj : cs[j]? = some u) => (show wr.cell? ⟨w5.heap.size, k * 9 + j, none⟩ = some u by
     rw [cell_of HOB.out, List.getElem?_toArray]; exact flatten_one HC9.out hcs hj)
    obtain ⟨ka, kc, ga, gc, ha, hc, rfl, _, _, _, _⟩ := hop wr MW.out
    have y0' := hc9 0 _ rfl
    have y1' := hc9 1 _ rfl
    have y2' := hc9 2 _ rfl
    have y3' := hc9 3 _ rfl
    have y4' := hc9 4 _ rfl
    have y5' := hc9 5 _ rfl
    have y6' := hc9 6 _ rfl
    have y7' := hc9 7 _ rfl
    have y8' := hc9 8 _ rfl
    rw [Nat.add_zero] at y0'
    have y0 := alw y0'
    have y1 := alw y1'
    have y2 := alw y2'
    have y3 := alw y3'
    have y4 := alw y4'
    have y5 := alw y5'
    have y6 := alw y6'
    have y7 := alw y7'
    have y8 := alw y8'
    have ql : ¬ ((l.length : Int) ≤ k) := by omega
    have HEX : Hid (Calls Tryz.prog 112 #[.pointer (some ⟨sp, 0, none⟩), .agg (Yq1 o ka kc ga gc ha hc)] (wr.alloc (.cells (Yq1 o ka kc ga gc ha hc) 67)) (InsP Sk lo hi sp ⟨.slice r0 C.rows.length c0, .slice r1 C.nx.length c1, .slice r2 C.df.length c2, .slice r3 C.rg.length c3, .slice ia C.rows.length ic, ⟨q0, q1, q2, q3, q4, q5, q6, q7, q8⟩⟩ (wr.alloc (.cells (Yq1 o ka kc ga gc ha hc) 67)) F (Tj.opE F (Tj.runsC C (l.take k)) o) (Tj.opC (Tj.runsC C (l.take k)) o))) := Lh (
     exec_any (HCI.out.st.ext grows) (cs := [.int .i64 o.k, .int .i64 o.t, .int .i64 o.id, .slice ka o.e.ks.length kc, .int .i64 o.e.pr, .int .i64 o.e.cl.a, .slice ga o.e.cl.ar.length gc, .int .i64 o.c.a, .slice ha o.c.ar.length hc]) (fun w' hm => hop w' ((MW.out.alloc _).comp hm (fun j hj h => by
      rcases HCI.out.sub j h with h | h
      ·exact h
      ·have := X6.out.le; omega))))
    have HTK := Lh (take_succ_get ho)
    have HLK := Lh ho
    obtain ⟨c, hcc⟩ : ∃ z, z = Tj.opE F (Tj.runsC C (l.take k)) o := ⟨_, rfl⟩
    rw [← hcc] at HEX
    have HCE := Lh hcc
    have bx := aH wr (.cells (Yq1 o ka kc ga gc ha hc) 67)
    have m0 := alw (cQ 0 bx)
    have m1 := alw (cQ 1 bx)
    have m2 := alw (cQ 2 bx)
    have m3 := alw (cQ 3 bx)
    have m4 := alw (cQ 4 bx)
    have m5 := alw (cQ 5 bx)
    have m6 := alw (cQ 6 bx)
    have m7 := alw (cQ 7 bx)
    have m8 := alw (cQ 8 bx)
    clear bx
    clear ho hcs hop hc9 hcc y0' y1' y2' y3' y4' y5' y6' y7' y8'
    by_cases hz : c = 0
    ·subst hz
     go_wp2_with fail
     refine HEX.out.mono ?_
     rintro e w10 ⟨id, rfl, hch⟩
     obtain ⟨m10, S', hsub, hst10⟩ := hch.2 rfl
     have HM10 := Lh m10
     have HSUB := Lh hsub
     have HST10 := Lh hst10
     have hle10 := m10.size
     simp only [szA] at hle10
     have hbk : ∀ j, (Value.slice oa k oc).ownBlock = some j → w6.heap.size ≤ j ∧ j < wr.heap.size ∧ ¬ Sk j := fun j hj => ⟨row_ge HCI.out.own hj, row_lt HCI.out.own hj, HCI.out.out j hj⟩
     have HBK := Lh hbk
     have HOW : Hid ((w10.alloc (.cells #[.int .i64 id] 3)).ownsRow w6.heap.size 3 1 (.slice oa k oc) k vals) := Lh (own_ext (own_mod (own_ext HCI.out.own ((eR wr).alloc (.cells (Yq1 o ka kc ga gc ha hc) 67))) m10 (fun j hj => HCI.out.out j hj)) ((eR w10).alloc _))
     have HS1 := Lh (src_one w10 (.int .i64 id) 3 rfl)
     clear hch m10 hsub hst10 hbk y0 y1 y2 y3 y4 y5 y6 y7 y8 a0 a1
     go_wp2_with (at_builtin; refine wpList_append_fresh rfl (.tmp 51) (.tmp 53) 29 rfl w6.heap.size 3 (.int .i64 0) 1 8 Tryz.underlying29 cinf_int rfl (by decide) (.slice oa k oc) (k) (vals) rfl HOW.out _ 1 [.int .i64 id] rfl HS1.out ?d1 ?d2 ?d3 ?_)
     case d1 => unfold maxLen; omega
     case d2 => omega
     case d3 => (try simp only [szA]); omega
     intro v' w11 hown hgr hfr
     obtain ⟨o3, c3, rfl⟩ := own_slice hown
     have HM11 := Lh ((grown_mod hgr).mono (fun i _ h => h.symm) : Mod (fun j => (Value.slice oa k oc).ownBlock = some j) (w10.alloc (.cells #[.int .i64 id] 3)) w11)
     have HO11 := Lh hown
     have HF11 := Lh hfr
     have HK11 : Hid (Kp [209, 118, 61] (w10.alloc (.cells #[.int .i64 id] 3)) w11) := Lh (Kp.grown hgr HOW.out (by decide))
     clear hown hgr hfr
     go_wp2_with fail
     go_roundw
     case rel =>
      refine ⟨k + 1, by omega, by go_num, o3, c3, rfl, Lh ⟨S', vals ++ [.int .i64 id], ?_⟩⟩
      have hne : ∀ j, (Value.slice oa k oc).ownBlock = some j → ¬ S' j := fun j hj h => by
       have := HBK.out j hj
       rcases HSUB.out j h with h1 | ⟨h1, _⟩
       ·exact this.2.2 h1
       ·simp only [szA] at h1; omega
      have hhi : hi ≤ w.heap.size := HST.out.pr.1
      refine ⟨?_, ?_, fun j hj => ?_, ?_, HO11.out, fun j hj h => ?_⟩
      ·rw [HTK.out, Tj.runsC_snoc]
       refine (HST10.out.ext ((eR w10).alloc _)).kept HM11.out (fun j hj => ⟨hne j hj, .inr ?_, fun e => ?_⟩) HK11.out
       ·have := HBK.out j hj; omega
       ·have := HBK.out j hj; have := hwsp; omega
      ·rw [HTK.out, Tj.runsE_snoc _ _ _ HCI.out.ok]; exact HCE.out.symm
      ·rcases HSUB.out j hj with h1 | ⟨h1, _⟩
       ·exact HCI.out.sub j h1
       ·simp only [szA] at h1; exact .inr (by omega)
      ·refine (((HCI.out.m.alloc _).comp HM10.out (fun j hj h => ?_)).alloc _).comp HM11.out (fun j hj h => ?_)
       ·rcases HCI.out.sub j h with h1 | h1
        ·exact h1
        ·omega
       ·have := HBK.out j h; omega
      ·rcases HF11.out with h1 | h1
       ·exact hne j (by rw [← h1]; exact hj) h
       ·have h2 := h1 j hj
        have h3 := (HST10.out.2.1 j h).1
        (try simp only [szA] at h2); omega
     case measure => simp [intOf]; omega
    ·have z1 : (c != 0) = true := nT hz
     have HNZ := Lh hz
     clear hz
     go_wp2_with fail
     refine HEX.out.mono ?_
     rintro e w10 ⟨id, rfl, hch⟩
     have x10 := hch.1 HNZ.out
     have s10 := Sm x10
     have f1 : w10.frozen? ⟨w.heap.size + 1, 0, none⟩ = false := free_of (alwB HB.out w10)
     clear hch x10
     go_wp2_with fail
     obtain ⟨w12, hw12⟩ : ∃ z, z = w10.setCell ⟨w.heap.size + 1, 0, none⟩ (.int .i64 c) := ⟨_, rfl⟩
     have g1 : w12.heap[w.heap.size + 1]? = some (.cells #[.int .i64 c] 38 (0, 0)) := by rw [hw12, setCell_heap (alwB HB.out w10)]; rfl
     have gk : ∀ {j : Nat} {ob : Obj}, wr.heap[j]? = some ob → j ≠ w.heap.size + 1 → w12.heap[j]? = some ob := fun h1 h2 => by rw [hw12]; exact Tj.heap_set (alwB h1 w10) h2
     have hm12 : Mod S w w12 := by rw [hw12]; exact (MW.out.trans (Mod.of_ext grows)).setCell (.inr (by show w.heap.size ≤ w.heap.size + 1; omega)) _
     have hcd := commit1_bad (sp := sp) (bp := bp) g1 HNZ.out (gk HC.out (by omega)) (gk HA.out (by omega)) (gk HO.out (by omega)) HBX1.out (gk HCI.out.st.1 (by omega))
     rw [← hw12]
     have HM12 := Lh hm12
     have HG1 := Lh g1
     clear hw12 g1 gk hm12
     refine leaves_cons (f := 111) (args := #[.pointer (some ⟨w.heap.size + 1, 0, none⟩), .pointer (some ⟨w3.heap.size, 0, none⟩), .pointer (some ⟨w.heap.size, 0, none⟩)]) (by simp) (by simp [go_sem]) ?_
     refine hcd.mono ?_
     rintro e u' w'' ⟨rfl, rfl, hm⟩
     have ce1 := cQ 0 (hm.heap HG1.out (by omega))
     have FIN : Hid (CmP S lo hi sp ⟨.slice r0 C.rows.length c0, .slice r1 C.nx.length c1, .slice r2 C.df.length c2, .slice r3 C.rg.length c3, .slice ia C.rows.length ic, ⟨q0, q1, q2, q3, q4, q5, q6, q7, q8⟩⟩ w F C l (.returned (.tuple #[.slice none 0 0, .int .i64 k, .int .i64 c])) w'') := Lh (by
      have hR2 : Tj.cmE F C l = c := by
       rw [← HRR.out, HE.out]
       have h1 : Tj.runsE F C (l.take (k + 1)) = c := by rw [HTK.out, Tj.runsE_snoc _ _ _ HCI.out.ok]; exact HCE.out.symm
       have h2 := Tj.runsE_stop (F := F) (l.take (k + 1)) (l.drop (k + 1)) C (by rw [h1]; exact HNZ.out)
       rw [List.take_append_drop] at h2
       rw [h2, h1]
      exact ⟨_, _, by rw [hR2], fun _ => (HM12.out.mono (fun j _ h => .inl h)).trans (hm.mono (fun j _ h => .inr h)), fun h => absurd (hR2.symm.trans h) HNZ.out⟩)
     clear hm hcd
     simp [Leaves, settle, results, Tryz.results63, go_sem, ce1]
     exact FIN.out
   ·obtain rfl : k = l.length := by omega
    have f1 : wr.frozen? ⟨w.heap.size + 1, 0, none⟩ = false := free_of HB.out
    go_wp2_with fail
    obtain ⟨w12, hw12⟩ : ∃ z, z = wr.setCell ⟨w.heap.size + 1, 0, none⟩ (.int .i64 0) := ⟨_, rfl⟩
    have g1 : w12.heap[w.heap.size + 1]? = some (.cells #[.int .i64 0] 38 (0, 0)) := by rw [hw12, setCell_heap HB.out]; rfl
    have hm12 : Mod (· = w.heap.size + 1) wr w12 := by rw [hw12]; exact Mod.setCell (S := fun j => j = w.heap.size + 1) (p := ⟨w.heap.size + 1, 0, none⟩) (Mod.refl _ _) (.inl rfl) _
    rw [← hw12]
    have ce1 := cQ 0 g1
    have FIN : Hid (CmP S lo hi sp ⟨.slice r0 C.rows.length c0, .slice r1 C.nx.length c1, .slice r2 C.df.length c2, .slice r3 C.rg.length c3, .slice ia C.rows.length ic, ⟨q0, q1, q2, q3, q4, q5, q6, q7, q8⟩⟩ w F C l (.returned (.tuple #[.slice oa l.length oc, .int .i64 0, .int .i64 0])) w12) := Lh (by
     have hok := HCI.out.ok
     rw [List.take_length] at hok
     have hR2 : Tj.cmE F C l = 0 := by rw [← HRR.out, HE.out, hok]
     have hle12 := hm12.size
     have hhi : hi ≤ w.heap.size := HST.out.pr.1
     have hst := HCI.out.st
     rw [List.take_length] at hst
     refine ⟨_, _, by rw [hR2], fun h => absurd hR2 h, fun _ => ⟨?_, Sk, fun j hj => ?_, hst.kept hm12 (fun j hj => ?_) (Kp.box hm12 HB.out (by decide))⟩⟩
     ·refine MW.out.comp hm12 (fun j hj h => ?_)
      omega
     ·have := (HCI.out.st.2.1 j hj).1
      rcases HCI.out.sub j hj with h | h
      ·exact .inl h
      ·exact .inr ⟨by have := X6.out.le; omega, by omega⟩
     ·subst hj
      refine ⟨fun h => ?_, .inr (by omega), by omega⟩
      rcases HCI.out.sub _ h with h | h
      ·have := hS6 _ h; omega
      ·omega)
    clear hw12 hm12
    refine leaves_cons (f := 111) (args := #[.pointer (some ⟨w.heap.size + 1, 0, none⟩), .pointer (some ⟨w3.heap.size, 0, none⟩), .pointer (some ⟨w.heap.size, 0, none⟩)]) (by simp) (by simp [go_sem]) ?_
    refine (commit1_ok (q0 := w.heap.size) (q2 := w3.heap.size) g1).mono ?_
    rintro e u' w'' ⟨rfl, rfl, rfl⟩
    simp [Leaves, settle, results, Tryz.results63, go_sem, ce1]
    exact FIN.out
/-- what Apply answers -/
def ApP (W : World) (F : Tj.FP) (C : Tj.Cfg) (l : List Tj.TOp) (e : Ending) (w' : World) : Prop := Ext W w' ∧ ∃ (d0 d1 d2 d3 idv : Value) (at_ : Int), e = .returned (.tuple #[.agg #[d0, d1, d2, d3], idv, .int .i64 at_, .int .i64 (Tj.txnE F C l)]) ∧ (#[d0, d1, d2, d3] : Array Value).all (·.oneCell') = true ∧
 (Tj.txnE F C l = 0 → ∃ vs, Tj.CfgO W.heap.size w' d0 d1 d2 d3 vs (Tj.runsC C l))
theorem txnE_bad {F : Tj.FP} {C : Tj.Cfg} {l : List Tj.TOp} (h : Tj.cfgE F C ≠ 0) : Tj.txnE F C l = Tj.cfgE F C := by unfold Tj.txnE; rw [if_pos h]
theorem txnE_ok {F : Tj.FP} {C : Tj.Cfg} {l : List Tj.TOp} (h : Tj.cfgE F C = 0) : Tj.txnE F C l = Tj.cmE F C l := by unfold Tj.txnE; rw [if_neg (by simp [h])]; rfl
theorem tapply_any {W : World} {p : Pg.PV} {F : Tj.FP} (hG : Tj.IsG W p F) (hz : Tj.Sz F) {cv : Value} {C : Tj.Cfg} (hC : Tj.CfgV W cv C) (hI : Tj.Inv F C) {lv : Value} {l : List Tj.TOp} (hl : Rows W 9 Tj.TOpR lv l) :
 Calls Tryz.prog 22 #[p.val, cv, lv] W (ApP W F C l) := by
 have HLD := Lh (fun (w : World) (hx : Ext W w) => sload_any (hG.ext hx) hz (hC.ext hx) hI)
 have HL := Lh hl
 obtain ⟨hF, _⟩ := hG
 obtain ⟨a1, a2, a3, a4, a5, a6, a7, a8, m1, m2, m3, m4, m5, m6, n7, m7, m8, hf⟩ := hF.form
 obtain ⟨rfl, hnm, hhs, hmd, hrs, has, hts, hss, hct, hdp, l1, l2, l3, l4, l5, l6, l7, l8⟩ := hf
 obtain ⟨r0, c0, r1, c1, r2, c2, r3, c3, rfl, _, _, _, _⟩ := hC.form
 dsimp only [Pg.PV.val] at *
 clear hF hnm hhs hmd hrs has hts hss hct hdp hC hI hz hl
 have bx := aH W (.cells (Yq0 F a1 m1 a2 m2 a3 m3 a4 m4 a5 m5 a6 m6 a7 m7 n7 a8 m8) 31)
 have k0 := alw (cQ 0 bx)
 have k1 := alw (cQ 1 bx)
 have k2 := alw (cQ 2 bx)
 have k3 := alw (cQ 3 bx)
 have k4 := alw (cQ 4 bx)
 have k5 := alw (cQ 5 bx)
 have k6 := alw (cQ 6 bx)
 have k7 := alw (cQ 7 bx)
 have k8 := alw (cQ 8 bx)
 clear bx
 have bx := aH (W.alloc (.cells (Yq0 F a1 m1 a2 m2 a3 m3 a4 m4 a5 m5 a6 m6 a7 m7 n7 a8 m8) 31)) (.cells (Yq7 r0 c0 C r1 c1 r2 c2 r3 c3) 45)
 rw [szA] at bx
 have cc0 := alw (cQ 0 bx)
 have cc1 := alw (cQ 1 bx)
 have cc2 := alw (cQ 2 bx)
 have cc3 := alw (cQ 3 bx)
 clear bx
 go_enter Tryz.func22, Tryz.ntmps22
 go_wp2_with fail
 refine (HLD.out _ grows).mono ?_
 rintro e w4 ⟨x4, hld⟩
 have s4 := Sm x4
 have hle4 := x4.le
 simp only [szA] at hle4
 have X4 := Lh (grows (a := W) (b := w4))
 clear x4
 rcases hld with ⟨hne, rfl⟩ | ⟨h0, sp, rfl, hld⟩
 ·obtain ⟨R, hR⟩ : ∃ z, z = Tj.cfgE F C := ⟨_, rfl⟩
  have HT := Lh ((txnE_bad (l := l) hne).trans hR.symm)
  have z1 : (R != 0) = true := nT (by rw [hR]; exact hne)
  have HNE : Hid (R ≠ 0) := Lh (by rw [hR]; exact hne)
  rw [← hR]
  clear hne hR
  have hrq := alwB (aH ((W.alloc (.cells (Yq0 F a1 m1 a2 m2 a3 m3 a4 m4 a5 m5 a6 m6 a7 m7 n7 a8 m8) 31)).alloc (.cells (Yq7 r0 c0 C r1 c1 r2 c2 r3 c3) 45)) (.cells (Yq5 ) 45)) w4
  simp only [szA] at hrq
  have HRQ := Lh hrq
  clear hrq
  go_wp2_with (refine wpList_store_box rfl 45 (.tmp 6) (.tmp 19) rfl (W.heap.size + 2) (Yq5 ) rfl rfl 45 (Yq5 ) HRQ.out (by kernel_rfl) rfl (by simp [Value.oneCell']) ?_)
  intro w5 hm hb
  have HM := Lh hm
  have q0 := cQ 0 hb
  have q1 := cQ 1 hb
  have q2 := cQ 2 hb
  have q3 := cQ 3 hb
  clear hm hb
  go_wp2_with fail
  exact bodyPost_ret (v := .tuple #[.agg (Yq5 ), .slice none 0 0, .int .i64 (-1), .int .i64 R]) (by simp [results, Tryz.results22, go_sem, q0, q1, q2, q3]) rfl (⟨X4.out.mod HM.out (fun q hq => by omega), _, _, _, _, _, _, by rw [HT.out], by simp [Value.oneCell'], fun h => absurd (HT.out.symm.trans h) HNE.out⟩)
 ·have H0 := Lh h0
  obtain ⟨S, lo, hi, V, hs1, hs2, hs3, hst⟩ := hld
  have HS3 : Hid (∀ k, S k → W.heap.size + 3 ≤ k) := Lh (fun k hk => by have := (hs3 k hk).1; simpa only [szA] using this)
  have hsp : W.heap.size + 3 ≤ sp := by simpa only [szA] using hs1
  have HST := Lh hst
  have HCM : Hid (Calls Tryz.prog 63 #[.pointer (some ⟨sp, 0, none⟩), lv] w4 (CmP S lo hi sp V w4 F C l)) := Lh (tcommit_any hst (Tj.opsIn_of HL.out X4.out (fun k hk => by have := HS3.out k hk; omega)))
  clear h0 hs1 hs2 hs3 hst
  go_wp2_with fail
  refine HCM.out.mono ?_
  rintro e w5 ⟨idv, at_, rfl, hbad, hgood⟩
  obtain ⟨R, hR⟩ : ∃ z, z = Tj.cmE F C l := ⟨_, rfl⟩
  have HT := Lh ((txnE_ok (l := l) H0.out).trans hR.symm)
  rw [← hR] at hbad hgood ⊢
  have HBAD := Lh hbad
  have HGOOD := Lh hgood
  clear hbad hgood hR
  by_cases hz : R = 0
  ·subst hz
   obtain ⟨hmm5, S', hsub, hst5⟩ := HGOOD.out rfl
   have X5 : Hid (Ext W w5) := Lh (X4.out.mod hmm5 (fun k hk => by have := HS3.out k hk; omega))
   have HCF : Hid (Calls Tryz.prog 20 #[.pointer (some ⟨sp, 0, none⟩)] w5 (ConfP w5 (Tj.runsC C l))) := Lh (sconf_any hst5)
   have hb5 := hmm5.heap (alwB (aH ((W.alloc (.cells (Yq0 F a1 m1 a2 m2 a3 m3 a4 m4 a5 m5 a6 m6 a7 m7 n7 a8 m8) 31)).alloc (.cells (Yq7 r0 c0 C r1 c1 r2 c2 r3 c3) 45)) (.cells (Yq5 ) 45)) w4) (fun h => by have := HS3.out _ h; simp only [szA] at this; omega)
   simp only [szA] at hb5
   have HB5 := Lh hb5
   clear hmm5 hsub hst5 hb5
   go_wp2_with fail
   refine HCF.out.mono ?_
   rintro e w6 ⟨v0, v1, v2, v3, vs, rfl, x6, hcf⟩
   obtain ⟨e0, d0, e1, d1, e2, d2, e3, d3, rfl, rfl, rfl, rfl⟩ := hcf.form
   have X6 := Lh (X5.out.trans x6)
   have HCO := Lh (hcf.low X5.out.le)
   have HRQ := Lh (x6.heap HB5.out)
   clear x6 hcf
   go_wp2_with (refine wpList_store_box rfl 45 (.tmp 6) (.tmp 34) rfl (W.heap.size + 2) #[.slice e0 (Tj.runsC C l).rows.length d0, .slice e1 (Tj.runsC C l).nx.length d1, .slice e2 (Tj.runsC C l).df.length d2, .slice e3 (Tj.runsC C l).rg.length d3] rfl rfl 45 (Yq5 ) HRQ.out (by kernel_rfl) rfl (by simp [Value.oneCell']) ?_)
   intro w7 hm hb
   have HM := Lh hm
   have q0 := cQ 0 hb
   have q1 := cQ 1 hb
   have q2 := cQ 2 hb
   have q3 := cQ 3 hb
   clear hm hb
   go_wp2_with fail
   exact bodyPost_ret (v := .tuple #[.agg #[.slice e0 (Tj.runsC C l).rows.length d0, .slice e1 (Tj.runsC C l).nx.length d1, .slice e2 (Tj.runsC C l).df.length d2, .slice e3 (Tj.runsC C l).rg.length d3], idv, .int .i64 0, .int .i64 0]) (by simp [results, Tryz.results22, go_sem, q0, q1, q2, q3]) rfl (⟨X6.out.mod HM.out (fun q hq => by omega), _, _, _, _, _, _, by rw [HT.out], by simp [Value.oneCell'], fun _ => ⟨vs, HCO.out.kp (Kp.box HM.out HRQ.out (by decide))⟩⟩)
  ·have z1 : (R != 0) = true := nT hz
   have hmm5 := HBAD.out hz
   have X5 : Hid (Ext W w5) := Lh (X4.out.mod hmm5 (fun k hk => by
    rcases hk with hk | hk
    ·have := HS3.out k hk; omega
    ·omega))
   have hb5 := hmm5.heap (alwB (aH ((W.alloc (.cells (Yq0 F a1 m1 a2 m2 a3 m3 a4 m4 a5 m5 a6 m6 a7 m7 n7 a8 m8) 31)).alloc (.cells (Yq7 r0 c0 C r1 c1 r2 c2 r3 c3) 45)) (.cells (Yq5 ) 45)) w4) (fun h => by
    simp only [szA] at h
    rcases h with h | h
    ·have := HS3.out _ h; omega
    ·omega)
   simp only [szA] at hb5
   have HRQ := Lh hb5
   have HZ := Lh hz
   clear hmm5 hb5 hz
   go_wp2_with (refine wpList_store_box rfl 45 (.tmp 6) (.tmp 30) rfl (W.heap.size + 2) (Yq5 ) rfl rfl 45 (Yq5 ) HRQ.out (by kernel_rfl) rfl (by simp [Value.oneCell']) ?_)
   intro w7 hm hb
   have HM := Lh hm
   have q0 := cQ 0 hb
   have q1 := cQ 1 hb
   have q2 := cQ 2 hb
   have q3 := cQ 3 hb
   clear hm hb
   go_wp2_with fail
   exact bodyPost_ret (v := .tuple #[.agg (Yq5 ), .slice none 0 0, .int .i64 at_, .int .i64 R]) (by simp [results, Tryz.results22, go_sem, q0, q1, q2, q3]) rfl (⟨X5.out.mod HM.out (fun q hq => by omega), _, _, _, _, _, _, by rw [HT.out], by simp [Value.oneCell'], fun h => absurd (HT.out.symm.trans h) HZ.out⟩)
namespace Cs
/-- a number's four bytes; bytes as a number -/
def wd (v : Int) : List Int := [v / 16777216, v / 65536 % 256, v / 256 % 256, v % 256]
def nmF (v b : Int) : Int := v * 256 % 4294967296 + b
def nm (l : List Int) : Int := l.foldl nmF 0
/-- one step of the hash; the hash -/
def hs (h b : Int) : Int := bits BinOp.xor IntKind.u32 h (b % 4294967296) * 16777619 % 4294967296
def fnv (h : Int) (l : List Int) : Int := l.foldl hs h
def fn (l : List Int) : Int := fnv 2166136261 l
/-- a record -/
def fr (l : List Int) : List Int := (wd l.length ++ l) ++ wd (fn (wd l.length ++ l))
theorem or_byte {v b : Int} (hb : 0 ≤ b ∧ b ≤ 255) : bits BinOp.or IntKind.u32 (v * 256 % 4294967296) (b % 4294967296) = nmF v b := by
 have e1 : v * 256 % 4294967296 = (v % 16777216) * Bv.pw 8 := by show _ = (v % 16777216) * 256; omega
 have e2 : b % 4294967296 = b := by omega
 unfold nmF
 rw [e2, e1]
 exact Bv.or_disj (by omega) (by show v % 16777216 * 256 < _; omega) hb.1 (by show b < 256; omega) (by omega)
theorem nmF_u32 {v b : Int} (hb : 0 ≤ b ∧ b ≤ 255) : U32 (nmF v b) := by
 unfold nmF; constructor <;> omega
theorem hs_u32 (h b : Int) : U32 (hs h b) := by unfold hs; constructor <;> omega
theorem fnv_u32 : ∀ (l : List Int) (h : Int), U32 h → U32 (fnv h l)
 | [], _, h => h
 | b :: l, h, _ => fnv_u32 l (hs h b) (hs_u32 h b)
theorem fn_u32 (l : List Int) : U32 (fn l) := fnv_u32 l _ ⟨by decide, by decide⟩
theorem wd_bytes {v : Int} (h : U32 v) : Io.Bytes (wd v) := by
 obtain ⟨h0, h1⟩ := h
 intro x hx
 simp only [wd, List.mem_cons, List.not_mem_nil, or_false] at hx
 rcases hx with rfl | rfl | rfl | rfl <;> constructor <;> omega
theorem nm_wd {v : Int} (h : U32 v) : nm (wd v) = v := by
 obtain ⟨h0, h1⟩ := h
 simp only [nm, wd, List.foldl_cons, List.foldl_nil, nmF]
 omega
theorem wd_len (v : Int) : (wd v).length = 4 := rfl
theorem fr_len (l : List Int) : (fr l).length = l.length + 8 := by simp [fr, wd_len]; omega
theorem fnv_snoc (h : Int) (l : List Int) (b : Int) : fnv h (l ++ [b]) = hs (fnv h l) b := by simp [fnv, List.foldl_append]
theorem nm_snoc (l : List Int) (b : Int) : nm (l ++ [b]) = nmF (nm l) b := by simp [nm, List.foldl_append]
end Cs
/-- bytes in memory -/
def Byt (w : World) (v : Value) (l : List Int) : Prop := (∃ a c, v = .slice a l.length c ∧ l.length ≤ c ∧ c ≤ 9223372036854775807) ∧ Src w v 1 l.length (u8s l) ∧ Io.Bytes l
theorem Byt.ext {w w' : World} {v : Value} {l : List Int} (h : Byt w v l) (hx : Ext w w') : Byt w' v l := ⟨h.1, h.2.1.ext hx, h.2.2⟩
theorem Byt.of_own {B : Nat} {w : World} {v : Value} {l : List Int} (h : w.ownsRow B 5 1 v l.length (u8s l)) (hb : Io.Bytes l) : Byt w v l := by
 obtain ⟨a, c, e, h1, h2⟩ := own_form h
 exact ⟨⟨a, c, e, h1, by unfold maxLen at h2; omega⟩, own_src h (u8s_one l), hb⟩
theorem Byt.at {w : World} {a : Option Addr} {n c : Nat} {l : List Int} (h : Byt w (.slice a n c) l) (hl : 0 < l.length) : ∃ b o, a = some ⟨b, o, none⟩ ∧ n = l.length ∧ ∀ (j : Nat) (x : Int), l[j]? = some x → w.cell? ⟨b, o + j, none⟩ = some (.int .u8 x) := by
 obtain ⟨⟨a', c', e, _⟩, hs, _⟩ := h
 simp only [Value.slice.injEq] at e
 obtain ⟨rfl, rfl, rfl⟩ := e
 rcases hs.2.2 with ⟨_, h0⟩ | ⟨ad, c2, e2, _⟩
 ·omega
 ·simp only [Value.slice.injEq] at e2
  obtain ⟨rfl, _, rfl⟩ := e2
  obtain ⟨e3, _, h4⟩ := Src.at hs hl
  exact ⟨ad.block, ad.off, by rw [← e3], rfl, fun j x hj => h4 j _ (by simp [u8s, hj])⟩
theorem cword_any {W : World} {v : Int} (h : U32 v) : Calls Tryz.prog 64 #[.int .u32 v] W (fun e w' => ∃ ov, e = .returned ov ∧ Ext W w' ∧ w'.ownsRow W.heap.size 5 1 ov 4 (u8s (Cs.wd v))) := by
 obtain ⟨h0, h1⟩ := h
 go_enter Tryz.func64, Tryz.ntmps64
 go_wp2_with fail
 go_ret
 refine ⟨_, rfl, grows, rfl, .inr ⟨W.heap.size, 4, _, rfl, Nat.le_refl _, aH _ _, Nat.le_refl _, by unfold maxLen; omega, rfl, rfl⟩⟩
theorem cnumber_any {W : World} {v : Value} {l : List Int} (h : Byt W v l) (h4 : 4 ≤ l.length) : Calls Tryz.prog 70 #[v] W (Rets W (.int .u32 (Cs.nm (l.take 4)))) := by
 have HB := Lh h
 obtain ⟨⟨a, c, rfl, hc1, hc2⟩, _, _⟩ := h
 obtain ⟨b, o, rfl, _, hat⟩ := HB.out.at (by omega)
 have HAT := Lh hat
 clear hat
 go_enter Tryz.func70, Tryz.ntmps70
 go_wp2_with fail
 go_loopw [3, 9] (fun u q wr => ∃ k : Nat, k ≤ 4 ∧ q = .int .i64 k ∧ ∃ n : Int, u = .int .u32 n ∧ Hid (Ext W wr ∧ n = Cs.nm (l.take k) ∧ U32 n)) (fun _ q _ => 4 - (intOf q).toNat)
 case atStart => exact ⟨0, Nat.zero_le _, rfl, 0, rfl, Lh ⟨eR _, rfl, by decide, by decide⟩⟩
 case round =>
  obtain ⟨k, hk, rfl, n, rfl, HZ⟩ := hrel
  have sx := Sm HZ.out.1
  by_cases hlt : k < 4
  ·obtain ⟨x, hx⟩ : ∃ x, l[k]? = some x := ⟨_, gE (by omega)⟩
   have y0 := alw (HAT.out k x hx)
   have hxb := HB.out.2.2 x (List.mem_of_getElem? hx)
   have hor := Cs.or_byte (v := n) hxb
   have HTK := Lh (take_succ_get hx)
   have HXB := Lh hxb
   clear hx hxb
   go_wp2_with fail
   go_roundw
   case rel => exact ⟨k + 1, by omega, by go_num, _, rfl, Lh ⟨grows, by rw [HTK.out, Cs.nm_snoc, ← HZ.out.2.1], Cs.nmF_u32 HXB.out⟩⟩
   case measure => simp [intOf]; omega
  ·obtain rfl : k = 4 := by omega
   have HE := Lh HZ.out.2.1
   go_wp2_with fail
   go_ret
   exact ⟨by rw [← HE.out]; rfl, grows⟩
theorem cadd_any {w : World} {g : Nat} {h b : Int} {x : Value} (hg : w.heap[g]? = some (.cells #[.int .u32 h, x] 204 (0, 0))) : Calls Tryz.prog 151 #[.pointer (some ⟨g, 0, none⟩), .int .u8 b] w (fun e w' => e = .returned (.tuple #[]) ∧ Mod (· = g) w w' ∧ w'.heap[g]? = some (.cells #[.int .u32 (Cs.hs h b), x] 204 (0, 0))) := by
 have k0 := alw (cQ 0 hg)
 have f0 : w.frozen? ⟨g, 0, none⟩ = false := free_of hg
 have HG := Lh hg
 clear hg
 go_enter Tryz.func151, Tryz.ntmps151
 go_wp2_with fail
 refine ⟨rfl, .tuple #[], by simp [results, Tryz.results151, go_sem], rfl, Mod.setCell (S := fun k => k = g) (p := ⟨g, 0, none⟩) (Mod.refl _ _) (.inl rfl) _, ?_⟩
 rw [setCell_heap HG.out]; rfl
theorem cwrite_any {W : World} {g : Nat} {h : Int} {v : Value} {l : List Int} (hg : W.heap[g]? = some (.cells #[.int .u32 h, .int .i64 0] 204 (0, 0))) (hv : Byt W v l) (hne : ∀ w', Mod (· = g) W w' → Byt w' v l) :
 Calls Tryz.prog 113 #[.pointer (some ⟨g, 0, none⟩), v] W (fun e w' => e = .returned (.tuple #[]) ∧ Mod (· = g) W w' ∧ w'.heap[g]? = some (.cells #[.int .u32 (Cs.fnv h l), .int .i64 l.length] 204 (0, 0))) := by
 obtain ⟨⟨a, c, rfl, hc1, hc2⟩, _, _⟩ := hv
 have HNE := Lh hne
 have HG := Lh hg
 have hmf : ∀ (fn : Fn) (first cap : Array Value) (w : World), (Instr.makeFunc fn first cap).run Tryz.prog w = .ok (.func fn first cap) w := fun _ _ _ _ => rfl
 clear hg hne
 go_enter Tryz.func113, Tryz.ntmps113
 go_wp2_with fail
 go_loopw [13] (fun q wr => ∃ k : Nat, k ≤ l.length ∧ q = .int .i64 k ∧ Hid (Mod (· = g) W wr ∧ wr.heap[g]? = some (.cells #[.int .u32 (Cs.fnv h (l.take k)), .int .i64 0] 204 (0, 0)))) (fun q _ => l.length - (intOf q).toNat)
 case atStart => exact ⟨0, Nat.zero_le _, rfl, Lh ⟨Mod.refl _ _, HG.out⟩⟩
 case round =>
  obtain ⟨k, hk, rfl, HZ⟩ := hrel
  by_cases hlt : k < l.length
  ·obtain ⟨x, hx⟩ : ∃ x, l[k]? = some x := ⟨_, gE hlt⟩
   obtain ⟨b, o, rfl, _, hat⟩ := (HNE.out wr HZ.out.1).at (by omega)
   have y0 := alw (hat k x hx)
   have HTK := Lh (take_succ_get hx)
   have HAD : Hid (Calls Tryz.prog 151 #[.pointer (some ⟨g, 0, none⟩), .int .u8 x] wr (fun e w' => e = .returned (.tuple #[]) ∧ Mod (· = g) wr w' ∧ w'.heap[g]? = some (.cells #[.int .u32 (Cs.hs (Cs.fnv h (l.take k)) x), .int .i64 0] 204 (0, 0)))) := Lh (cadd_any HZ.out.2)
   clear hat hx
   go_wp2_with fail
   refine HAD.out.mono ?_
   rintro e w3 ⟨rfl, m3, g3⟩
   have HM3 := Lh (HZ.out.1.trans m3)
   have HG3 := Lh g3
   clear m3 g3
   go_wp2_with fail
   go_roundw
   case rel => exact ⟨k + 1, by omega, by go_num, Lh ⟨HM3.out, by rw [HTK.out, Cs.fnv_snoc]; exact HG3.out⟩⟩
   case measure => simp [intOf]; omega
  ·obtain rfl : k = l.length := by omega
   have hgr := HZ.out.2
   rw [List.take_length] at hgr
   have HGR := Lh hgr
   have k1 := alw (cQ 1 hgr)
   have f1 : wr.frozen? ⟨g, 1, none⟩ = false := free_of hgr
   clear hgr
   go_wp2_with fail
   refine ⟨rfl, .tuple #[], by simp [results, Tryz.results113, go_sem], rfl, HZ.out.1.trans (Mod.setCell (S := fun k => k = g) (p := ⟨g, 1, none⟩) (Mod.refl _ _) (.inl rfl) _), ?_⟩
   rw [setCell_heap HGR.out]; rfl
theorem cfnv_any {W : World} {v : Value} {l : List Int} (hv : Byt W v l) : Calls Tryz.prog 65 #[v] W (Rets W (.int .u32 (Cs.fn l))) := by
 have HWR : Hid (Calls Tryz.prog 113 #[.pointer (some ⟨W.heap.size, 0, none⟩), v] (W.alloc (.cells #[.int .u32 2166136261, .int .i64 0] 204)) (fun e w' => e = .returned (.tuple #[]) ∧ Mod (· = W.heap.size) (W.alloc (.cells #[.int .u32 2166136261, .int .i64 0] 204)) w' ∧ w'.heap[W.heap.size]? = some (.cells #[.int .u32 (Cs.fn l), .int .i64 l.length] 204 (0, 0)))) := Lh (
  cwrite_any (aH _ _) (hv.ext grows) (fun w' hm => hv.ext (((eR W).alloc _).mod hm (fun k hk => by subst hk; exact Nat.le_refl _))))
 obtain ⟨⟨a, c, rfl, hc1, hc2⟩, _, _⟩ := hv
 go_enter Tryz.func65, Tryz.ntmps65
 go_wp2_with fail
 refine HWR.out.mono ?_
 rintro e w3 ⟨rfl, m3, g3⟩
 have k0 := alw (cQ 0 g3)
 have X3 := Lh (((eR W).alloc _).mod m3 (fun k hk => by subst hk; exact Nat.le_refl _))
 clear m3 g3
 go_wp2_with fail
 go_ret
 exact ⟨rfl, X3.out⟩
theorem u8s_app (a b : List Int) : u8s (a ++ b) = u8s a ++ u8s b := by simp [u8s]
theorem u8s_take (a : List Int) (n : Nat) : u8s (a.take n) = (u8s a).take n := by simp [u8s, List.map_take]
theorem u8s_drop (a : List Int) (n : Nat) : u8s (a.drop n) = (u8s a).drop n := by simp [u8s, List.map_drop]
theorem Byt.len {w : World} {v : Value} {l : List Int} (h : Byt w v l) : l.length ≤ 9223372036854775807 := by
 obtain ⟨⟨a, c, _, h1, h2⟩, _⟩ := h; omega
/-- a part of bytes -/
theorem Byt.sub {w : World} {a : Option Addr} {c : Nat} {l : List Int} (h : Byt w (.slice a l.length c) l) {s t : Nat} (hst : s ≤ t) (ht : t ≤ l.length) :
 Byt w (.slice (a.map fun x => if c - s = 0 then x else x.add s) (t - s) (c - s)) ((l.take t).drop s) := by
 have hlen : ((l.take t).drop s).length = t - s := by rw [List.length_drop, List.length_take, Nat.min_eq_left ht]
 obtain ⟨⟨a', c', e, h1, h2⟩, ⟨g1, g2, g3⟩, hb⟩ := h
 simp only [Value.slice.injEq, true_and] at e
 obtain ⟨rfl, rfl⟩ := e
 refine ⟨⟨_, c - s, by rw [hlen], by omega, by omega⟩, ⟨by rw [u8s_len, Nat.mul_one], fun u hu => g2 u (by rw [u8s_drop, u8s_take] at hu; exact List.mem_of_mem_take (List.mem_of_mem_drop hu)), ?_⟩, fun x hx => hb x (List.mem_of_mem_take (List.mem_of_mem_drop hx))⟩
 rcases g3 with ⟨h5, h6⟩ | ⟨ad, c2, h5, h6⟩
 ·simp only [Value.slice.injEq] at h5
  obtain ⟨rfl, h7, rfl⟩ := h5
  obtain rfl : t = 0 := by omega
  obtain rfl : s = 0 := by omega
  exact .inl ⟨by simp, by rw [hlen]⟩
 ·simp only [Value.slice.injEq] at h5
  obtain ⟨rfl, _, rfl⟩ := h5
  refine .inr ⟨if c - s = 0 then ad else ad.add s, c - s, by rw [hlen]; rfl, fun j u hj => ?_⟩
  have h8 := (List.getElem?_eq_some_iff.1 hj).1
  rw [u8s_len, hlen] at h8
  rw [u8s_drop, u8s_take, List.getElem?_drop, List.getElem?_take] at hj
  rw [if_pos (by omega)] at hj
  have h7 := h6 _ u hj
  rw [if_neg (by omega)]
  rw [Addr.add_add]; exact h7
theorem Byt.lo {w : World} {a : Option Addr} {c : Nat} {l : List Int} (h : Byt w (.slice a l.length c) l) {t : Nat} (ht : t ≤ l.length) :
 (∀ w, (Instr.sliceAt 48 (.slice a l.length c) none (some (.int .i64 (t : Int))) none).run Tryz.prog w = .ok (.slice a t c) w) ∧ Byt w (.slice a t c) (l.take t) := by
 have hc : l.length ≤ c := by
  obtain ⟨⟨a', c', e, h1, h2⟩, _⟩ := h
  simp only [Value.slice.injEq, true_and] at e
  obtain ⟨rfl, rfl⟩ := e
  exact h1
 constructor
 ·intro w
  have ht' : (t : Int) ≤ (c : Int) := by omega
  simp [go_sem, Tryz.underlying48, ht', sliced]
 ·have h2 := h.sub (Nat.zero_le t) ht
  by_cases h0 : c - 0 = 0
  ·simp only [h0, if_true, Option.map_id', Nat.sub_zero, dpZ] at h2
   rw [Nat.sub_zero] at h0
   rw [h0]; exact h2
  ·simp only [Nat.sub_zero, dpZ] at h2
   have e : (a.map fun x => if c = 0 then x else x.add 0) = a := by
    cases a with
    | none => rfl
    | some x => simp only [Option.map_some]; rw [if_neg (by omega)]; rfl
   rw [e] at h2; exact h2
theorem Byt.hi {w : World} {a : Option Addr} {c : Nat} {l : List Int} (h : Byt w (.slice a l.length c) l) {s : Nat} (hs : s ≤ l.length) :
 ∃ o, (∀ w, (Instr.sliceAt 48 (.slice a l.length c) (some (.int .i64 (s : Int))) none none).run Tryz.prog w = .ok (.slice o (l.length - s) (c - s)) w) ∧ Byt w (.slice o (l.length - s) (c - s)) (l.drop s) := by
 refine ⟨a.map fun x => if c - s = 0 then x else x.add s, fun w => ?_, ?_⟩
 ·have ht' : (s : Int) ≤ (l.length : Int) := by omega
  have hc : l.length ≤ c := by
   obtain ⟨⟨a', c', e, h1, h2⟩, _⟩ := h
   simp only [Value.slice.injEq, true_and] at e
   obtain ⟨rfl, rfl⟩ := e
   exact h1
  simp [go_sem, Tryz.underlying48, ht', sliced]
  by_cases hct : c = s
  ·rw [if_pos hct, show c - s = 0 by omega]; cases a <;> rfl
  ·rw [if_neg hct]; cases a with
   | none => rfl
   | some x => simp only [Option.map_some]; rw [if_neg (by omega)]
 ·have h2 := h.sub hs (Nat.le_refl _)
  rw [List.take_length] at h2; exact h2
theorem frame_any {W : World} {v : Value} {l : List Int} (hv : Byt W v l) (hl : l.length ≤ 1073741824) : Calls Tryz.prog 23 #[v] W (RowP W 5 1 (l.length + 8) (u8s (Cs.fr l))) := by
 have hu : U32 (l.length : Int) := ⟨by omega, by omega⟩
 have HU := Lh hu
 have HV := Lh hv
 have HW1 : Hid (Calls Tryz.prog 64 #[.int .u32 (l.length : Int)] W (fun e w' => ∃ ov, e = .returned ov ∧ Ext W w' ∧ w'.ownsRow W.heap.size 5 1 ov 4 (u8s (Cs.wd l.length)))) := Lh (cword_any hu)
 obtain ⟨⟨a, c, rfl, hc1, hc2⟩, _, _⟩ := hv
 clear hu
 have ew : (l.length : Int) % 4294967296 = l.length := by omega
 go_enter Tryz.func23, Tryz.ntmps23
 go_wp2_with fail
 refine HW1.out.mono ?_
 rintro e w1 ⟨v1, rfl, x1, o1⟩
 obtain ⟨a1, c1, rfl⟩ := own_slice o1
 have s1 := Sm x1
 have HO1 := Lh o1
 have HX1 := Lh x1
 have HS1 := Lh (HV.out.ext x1).2.1
 have hle1 := x1.le
 clear o1 x1
 go_wp2_with (at_builtin; refine wpList_append_fresh rfl (.tmp 7) (.tmp 8) 48 rfl W.heap.size 5 (.int .u8 0) 1 1 Tryz.underlying48 cinf_byt rfl (by decide) (.slice a1 4 c1) (4) (u8s (Cs.wd l.length)) rfl HO1.out _ (l.length) (u8s l) rfl HS1.out ?d1 ?d2 ?d3 ?_)
 case d1 => unfold maxLen; omega
 case d2 => omega
 case d3 => (try simp only [szA]); omega
 intro v' w2 hown hgr hfr
 obtain ⟨a2, c2, rfl⟩ := own_slice hown
 have x2 := HX1.out.mod (grown_mod hgr) (fun q hq => row_ge HO1.out hq.symm)
 have hln : (Cs.wd l.length ++ l).length = 4 + l.length := by rw [List.length_append]; rfl
 have HO2 : Hid (w2.ownsRow W.heap.size 5 1 (.slice a2 (4 + l.length) c2) (4 + l.length) (u8s (Cs.wd l.length ++ l))) := Lh (by rw [u8s_app]; exact hown)
 have HB2 : Hid (Byt w2 (.slice a2 (4 + l.length) c2) (Cs.wd l.length ++ l)) := Lh (Byt.of_own (B := W.heap.size) (by rw [hln]; exact HO2.out) (by
  intro x hx
  rcases List.mem_append.1 hx with hx | hx
  ·exact Cs.wd_bytes HU.out x hx
  ·exact HV.out.2.2 x hx))
 have HX2 := Lh x2
 have s2 := Sm x2
 have HF := Lh (fun (w : World) (hw : Ext w2 w) => cfnv_any (HB2.out.ext hw))
 have HFU := Lh (Cs.fn_u32 (Cs.wd l.length ++ l))
 have hle2 := x2.le
 clear hown hgr hfr x2 hln
 go_wp2_with fail
 refine via (HF.out _ grows) fun w3 x3 s3 => ?_
 have HX3 := Lh x3
 have hle3 := x3.le
 clear x3
 go_wp2_with fail
 refine (cword_any HFU.out).mono ?_
 rintro e w4 ⟨v4, rfl, x4, o4⟩
 obtain ⟨a4, c4, rfl⟩ := own_slice o4
 have s4 := Sm x4
 have HO4 := Lh (own_ext HO2.out (HX3.out.trans x4))
 have HS4 := Lh (own_src o4 (u8s_one _))
 have HX4 := Lh (HX2.out.trans (HX3.out.trans x4))
 have hle4 := x4.le
 clear o4 x4
 go_wp2_with (at_builtin; refine wpList_append_fresh rfl (.tmp 10) (.tmp 13) 48 rfl W.heap.size 5 (.int .u8 0) 1 1 Tryz.underlying48 cinf_byt rfl (by decide) (.slice a2 (4 + l.length) c2) (4 + l.length) (u8s (Cs.wd l.length ++ l)) rfl HO4.out _ (4) (u8s (Cs.wd (Cs.fn (Cs.wd l.length ++ l)))) rfl HS4.out ?d1 ?d2 ?d3 ?_)
 case d1 => unfold maxLen; omega
 case d2 => omega
 case d3 => (try simp only [szA]); omega
 intro v' w5 hown hgr hfr
 have x5 := HX4.out.mod (grown_mod hgr) (fun q hq => row_ge HO4.out hq.symm)
 have HO5 := Lh hown
 have HX5 := Lh x5
 clear hown hgr hfr x5
 go_wp2_with fail
 go_ret
 refine ⟨_, rfl, HX5.out, ?_⟩
 have h := HO5.out
 rw [show 4 + l.length + 4 = l.length + 8 by omega, ← u8s_app] at h
 exact h
theorem Byt.pre {w : World} {v : Value} {l : List Int} (h : Byt w v l) : ∃ a c, v = .slice a l.length c ∧ l.length ≤ c ∧ c ≤ 9223372036854775807 := h.1
theorem Cs.nm_nat (l : List Int) (h : Io.Bytes l) : ∃ z : Nat, Cs.nm (l.take 4) = (z : Int) ∧ z ≤ 4294967295 := by
 have h2 : ∀ (l : List Int) (v : Int), 0 ≤ v ∧ v ≤ 4294967295 → Io.Bytes l → 0 ≤ l.foldl Cs.nmF v ∧ l.foldl Cs.nmF v ≤ 4294967295 := by
  intro l
  induction l with
  | nil => intro v hv _; exact hv
  | cons b l ih =>
   intro v hv hb
   have h3 := hb b (List.mem_cons_self ..)
   refine ih (Cs.nmF v b) ?_ (fun x hx => hb x (List.mem_cons_of_mem _ hx))
   unfold Cs.nmF; constructor <;> omega
 have h4 := h2 (l.take 4) 0 (by omega) (fun x hx => h x (List.mem_of_mem_take hx))
 unfold Cs.nm
 exact ⟨(List.foldl Cs.nmF 0 (l.take 4)).toNat, by omega, by omega⟩
theorem unframe_short {W : World} {v : Value} {l : List Int} (hv : Byt W v l) (hs : l.length < 8 ∨ (l.length : Int) - 8 < Cs.nm (l.take 4)) : Calls Tryz.prog 29 #[v] W (fun e w' => e = .returned (.tuple #[.slice none 0 0, .int .i64 0, .int .i64 3]) ∧ Ext W w') := by
 have HV := Lh hv
 obtain ⟨a, c, rfl, hc1, hc2⟩ := hv.pre
 obtain ⟨z, hz, hz2⟩ := Cs.nm_nat l hv.2.2
 rw [hz] at hs
 clear hv
 by_cases h8 : l.length < 8
 ·clear hz hs
  go_enter Tryz.func29, Tryz.ntmps29
  go_wp2_with fail
  refine bodyPost_ret (v := .tuple #[.slice none 0 0, .int .i64 0, .int .i64 3]) (by simp [results, Tryz.results29, go_sem]) rfl ⟨rfl, ?_⟩
  exact grows
 ·have hs' : l.length - 8 < z := by omega
  have HN : Hid (Calls Tryz.prog 70 #[.slice a l.length c] W (Rets W (.int .u32 (z : Int)))) := Lh (by rw [← hz]; exact cnumber_any HV.out (by omega))
  have e1 : (z : Int) % 18446744073709551616 = z := by omega
  have e2 : (l.length : Int) % 18446744073709551616 = l.length := by omega
  have e3 : ((l.length : Int) - 8) % 18446744073709551616 = ((l.length - 8 : Nat) : Int) := by omega
  clear hz hs
  go_enter Tryz.func29, Tryz.ntmps29
  go_wp2_with fail
  refine HN.out.mono ?_
  rintro e w1 ⟨rfl, x1⟩
  have s1 := Sm x1
  have HX := Lh x1
  clear x1
  go_wp2_with fail
  refine bodyPost_ret (v := .tuple #[.slice none 0 0, .int .i64 0, .int .i64 3]) (by simp [results, Tryz.results29, go_sem]) rfl ⟨rfl, ?_⟩
  exact HX.out
theorem unframe_any {W : World} {v : Value} {l r : List Int} (hv : Byt W v (Cs.fr l ++ r)) (hl : l.length ≤ 1073741824) : Calls Tryz.prog 29 #[v] W (fun e w' => ∃ vb, e = .returned (.tuple #[vb, .int .i64 ((l.length + 8 : Nat) : Int), .int .i64 0]) ∧ Ext W w' ∧ w'.ownsRow W.heap.size 5 1 vb l.length (u8s l)) := by
 obtain ⟨L, hL⟩ : ∃ z, z = Cs.fr l ++ r := ⟨_, rfl⟩
 have hlen : L.length = l.length + 8 + r.length := by rw [hL, List.length_append, Cs.fr_len]
 have hU : U32 (l.length : Int) := ⟨by omega, by omega⟩
 have t4 : L.take 4 = Cs.wd l.length := by rw [hL]; rfl
 have te : L.take (l.length + 4) = Cs.wd l.length ++ l := by
  rw [hL]; unfold Cs.fr
  rw [List.append_assoc, List.take_append_of_le_length (by simp [Cs.wd_len]; omega), List.take_of_length_le (by simp [Cs.wd_len]; omega)]
 have tm : (L.take (l.length + 4)).drop 4 = l := by rw [te]; rfl
 have td : (L.drop (l.length + 4)).take 4 = Cs.wd (Cs.fn (Cs.wd l.length ++ l)) := by
  rw [hL]; unfold Cs.fr
  rw [List.append_assoc, List.drop_append_of_le_length (by simp [Cs.wd_len]; omega), List.drop_eq_nil_of_le (by simp [Cs.wd_len]; omega)]
  rfl
 rw [← hL] at hv
 have HV := Lh hv
 have HM := Lh (hv.len)
 obtain ⟨a, c, rfl, hc1, hc2⟩ := hv.pre
 have HN : Hid (Calls Tryz.prog 70 #[.slice a L.length c] W (Rets W (.int .u32 (l.length : Int)))) := Lh (by
  have h := cnumber_any hv (by omega)
  rw [t4, Cs.nm_wd hU] at h; exact h)
 obtain ⟨n, hn⟩ : ∃ n : Nat, n = l.length + 4 := ⟨_, rfl⟩
 rw [← hn] at te tm td
 obtain ⟨q1, b1⟩ := hv.lo (t := n) (by omega)
 obtain ⟨o2, q2, b2⟩ := hv.hi (s := n) (by omega)
 have b3 := hv.sub (s := 4) (t := n) (by omega) (by omega)
 rw [show (fun x : Addr => if c - 4 = 0 then x else x.add 4) = (fun x => x.add 4) from funext fun x => if_neg (by omega)] at b3
 rw [te] at b1
 rw [tm] at b3
 have HF := Lh (fun (w : World) (hw : Ext W w) => cfnv_any (b1.ext hw))
 have HG := Lh (fun (w : World) (hw : Ext W w) => by
  have h := cnumber_any (b2.ext hw) (by rw [List.length_drop]; omega)
  rw [td, Cs.nm_wd (Cs.fn_u32 _)] at h; exact h)
 have HC := Lh (fun (w : World) (hw : Ext W w) => clone_byt (b3.ext hw).2.1 (by omega))
 obtain ⟨f, hf⟩ : ∃ f, f = Cs.fn (Cs.wd l.length ++ l) := ⟨_, rfl⟩
 rw [← hf] at HF HG
 have e1 : (l.length : Int) % 18446744073709551616 = l.length := by omega
 have e2 : (L.length : Int) % 18446744073709551616 = L.length := by omega
 have e3 : ((L.length : Int) - 8) % 18446744073709551616 = ((L.length - 8 : Nat) : Int) := by omega
 have h8 : ¬ L.length < 8 := by omega
 have h9 : ¬ L.length - 8 < l.length := by omega
 have e4 : (4 : Int) + (l.length : Int) = (n : Int) := by omega
 have e5 : (n : Int) + 4 = ((l.length + 8 : Nat) : Int) := by omega
 clear hL t4 te tm td hv b1 b2 b3 hf hlen hn
 go_enter Tryz.func29, Tryz.ntmps29
 go_wp2_with fail
 refine HN.out.mono ?_
 rintro e w1 ⟨rfl, x1⟩
 have s1 := Sm x1
 have HX1 := Lh x1
 clear x1
 go_wp2_with fail
 refine wp_region_later (W := w1) (by kernel_rfl) (by kernel_rfl) (eR _) ?_
 repeat (go_big_quiet_step (first | (go_at_call 65; exact Rets.later_at (HF.out _ grows)) | (go_at_call 70; exact Rets.later_at (HG.out _ grows)) | fail))
 refine wpQuiet_nil ?_
 intro w2 x2
 have s2 := Sm x2
 have HX2 := Lh (HX1.out.trans x2)
 clear x2
 go_wp2_with fail
 refine (HC.out _ HX2.out).mono ?_
 rintro e w3 ⟨v3, rfl, x3, o3'⟩
 have hx := HX2.out.trans x3
 have hle := HX2.out.le
 have HO := Lh (own_base o3' hle)
 have HX := Lh hx
 clear x3 o3' hx
 go_wp2_with fail
 refine bodyPost_ret (v := .tuple #[v3, .int .i64 ((l.length + 8 : Nat) : Int), .int .i64 0]) (by simp [results, Tryz.results29, go_sem]) rfl ⟨_, rfl, HX.out, HO.out⟩
namespace Jn
/-- the n least bytes of a number, the greatest first -/
def bn : Nat → Int → List Int
 | 0, _ => []
 | n + 1, v => (v / 256 ^ n % 256) :: bn n v
def eCall (c : Tj.Call) : List Int := bn 2 c.a ++ ((c.ar.length : Int) :: c.ar.flatMap (bn 4))
def eKM (k : Tj.KM) : List Int := bn 4 k.v ++ bn 4 k.m
def eOp (o : Tj.TOp) : List Int := o.k :: (bn 2 o.t ++
 (if o.k = 1 then bn 2 o.e.pr ++ ((o.e.ks.length : Int) :: (o.e.ks.flatMap eKM ++ eCall o.e.cl)) else if o.k = 2 then bn 4 o.id ++ eCall o.c else if o.k = 3 then bn 4 o.id else eCall o.c))
def enc (l : List Tj.TOp) : List Int := (l.length : Int) :: l.flatMap eOp
def sh (x : Int) : Prop := 0 ≤ x ∧ x ≤ 65535
def okC (c : Tj.Call) : Prop := sh c.a ∧ c.ar.length ≤ 255
/-- an operation that can be encoded -/
def ok (o : Tj.TOp) : Prop := sh o.t ∧ ((o.k = 1 ∧ sh o.e.pr ∧ o.e.ks.length ≤ 255 ∧ okC o.e.cl) ∨ (o.k = 2 ∧ (0 ≤ o.id ∧ o.id ≤ 2147483647) ∧ okC o.c) ∨ (o.k = 3 ∧ 0 ≤ o.id ∧ o.id ≤ 2147483647) ∨ (o.k = 4 ∧ okC o.c))
theorem bn_len : ∀ (n : Nat) (v : Int), (bn n v).length = n
 | 0, _ => rfl
 | n + 1, v => by show (bn n v).length + 1 = _; rw [bn_len n v]
theorem bn_bytes : ∀ (n : Nat) (v : Int), Io.Bytes (bn n v)
 | 0, _ => fun _ h => by cases h
 | n + 1, v => fun x h => by
  rcases List.mem_cons.1 h with rfl | h
  ·constructor <;> omega
  ·exact bn_bytes n v x h
theorem bytes_app {a b : List Int} (ha : Io.Bytes a) (hb : Io.Bytes b) : Io.Bytes (a ++ b) := fun x h => (List.mem_append.1 h).elim (ha x) (hb x)
theorem bytes_cons {x : Int} {b : List Int} (hx : 0 ≤ x ∧ x ≤ 255) (hb : Io.Bytes b) : Io.Bytes (x :: b) := fun y h => (List.mem_cons.1 h).elim (fun e => by rw [e]; exact hx) (hb y)
theorem bytes_flat {α : Type} {f : α → List Int} {l : List α} (h : ∀ x ∈ l, Io.Bytes (f x)) : Io.Bytes (l.flatMap f) := fun y hy => by
 obtain ⟨x, hx, h2⟩ := List.mem_flatMap.1 hy
 exact h x hx y h2
theorem eCall_bytes {c : Tj.Call} (h : okC c) : Io.Bytes (eCall c) := by
 have := h.2
 exact bytes_app (bn_bytes _ _) (bytes_cons ⟨by omega, by omega⟩ (bytes_flat fun x _ => bn_bytes _ _))
theorem flat_len {α : Type} {f : α → List Int} {n : Nat} : ∀ {l : List α}, (∀ x ∈ l, (f x).length ≤ n) → (l.flatMap f).length ≤ l.length * n
 | [], _ => by simp
 | x :: l, h => by
  have h1 := h x (List.mem_cons_self ..)
  have h2 := flat_len (l := l) (fun y hy => h y (List.mem_cons_of_mem _ hy))
  rw [List.flatMap_cons, List.length_append, List.length_cons, Nat.succ_mul]; omega
theorem eCall_len {c : Tj.Call} (h : c.ar.length ≤ 255) : (eCall c).length ≤ 1023 := by
 have h2 := flat_len (f := bn 4) (n := 4) (l := c.ar) (fun x _ => by rw [bn_len]; omega)
 unfold eCall
 rw [List.length_append, bn_len, List.length_cons]; omega
theorem eOp_bytes {o : Tj.TOp} (h : ok o) : Io.Bytes (eOp o) := by
 obtain ⟨_, ⟨hk, _, h1, h2⟩ | ⟨hk, _, h2⟩ | ⟨hk, _⟩ | ⟨hk, h2⟩⟩ := h
 ·refine bytes_cons (by omega) (bytes_app (bn_bytes _ _) ?_)
  rw [if_pos hk]
  exact bytes_app (bn_bytes _ _) (bytes_cons (by omega) (bytes_app (bytes_flat fun x _ => bytes_app (bn_bytes _ _) (bn_bytes _ _)) (eCall_bytes h2)))
 ·refine bytes_cons (by omega) (bytes_app (bn_bytes _ _) ?_)
  rw [if_neg (by omega), if_pos hk]
  exact bytes_app (bn_bytes _ _) (eCall_bytes h2)
 ·refine bytes_cons (by omega) (bytes_app (bn_bytes _ _) ?_)
  rw [if_neg (by omega), if_neg (by omega), if_pos hk]
  exact bn_bytes _ _
 ·refine bytes_cons (by omega) (bytes_app (bn_bytes _ _) ?_)
  rw [if_neg (by omega), if_neg (by omega), if_neg (by omega)]
  exact eCall_bytes h2
theorem eOp_len {o : Tj.TOp} (h : ok o) : (eOp o).length ≤ 4096 := by
 unfold eOp
 rw [List.length_cons, List.length_append, bn_len]
 obtain ⟨_, ⟨hk, _, h1, h2⟩ | ⟨hk, _, h2⟩ | ⟨hk, _⟩ | ⟨hk, h2⟩⟩ := h
 ·have h3 := eCall_len h2.2
  have h4 := flat_len (f := eKM) (n := 8) (l := o.e.ks) (fun x _ => by unfold eKM; rw [List.length_append, bn_len, bn_len]; omega)
  rw [if_pos hk, List.length_append, bn_len, List.length_cons, List.length_append]; omega
 ·have h3 := eCall_len h2.2
  rw [if_neg (by omega), if_pos hk, List.length_append, bn_len]; omega
 ·rw [if_neg (by omega), if_neg (by omega), if_pos hk, bn_len]; omega
 ·have h3 := eCall_len h2.2
  rw [if_neg (by omega), if_neg (by omega), if_neg (by omega)]; omega
theorem enc_bytes {l : List Tj.TOp} (hl : l.length ≤ 64) (h : ∀ o ∈ l, ok o) : Io.Bytes (enc l) := bytes_cons (by omega) (bytes_flat fun o ho => eOp_bytes (h o ho))
theorem enc_len {l : List Tj.TOp} (hl : l.length ≤ 64) (h : ∀ o ∈ l, ok o) : (enc l).length ≤ 300000 := by
 have h2 := flat_len (f := eOp) (n := 4096) (l := l) (fun o ho => eOp_len (h o ho))
 show (l.flatMap eOp).length + 1 ≤ _
 omega
end Jn
/-- kinds that the encoding keeps -/
abbrev JT : List TypeId := [63, 67, 209]
/-- the bytes ys in a row made after W -/
def EncP (W w : World) (ys : List Int) (e : Ending) (w' : World) : Prop := ∃ v, e = .returned v ∧ Ext W w' ∧ w'.ownsRow W.heap.size 5 1 v ys.length (u8s ys) ∧ Kp JT w w'
theorem kp_grown {W w w' : World} {sz n : Nat} {v : Value} {xs : List Value} {x : Obj} (ho : w.ownsRow W.heap.size 5 sz v n xs) (hg : (w.alloc x).grownBy w' v.ownBlock) : Kp JT w w' :=
 (Kp.ext ((eR w).alloc x)).trans (Kp.grown hg (own_ext ho ((eR w).alloc x)) (by decide))
theorem ext_grown {W w w' : World} {e : TypeId} {sz n : Nat} {v : Value} {xs : List Value} {x : Obj} (h : Ext W w) (ho : w.ownsRow W.heap.size e sz v n xs) (hg : (w.alloc x).grownBy w' v.ownBlock) : Ext W w' :=
 (h.trans ((eR w).alloc x)).mod (grown_mod hg) (fun _ hq => row_ge (own_ext ho ((eR w).alloc x)) hq.symm)
/-- one byte more -/
theorem own_byte {W w' : World} {v : Value} {xs : List Int} {b : Int} (h : w'.ownsRow W.heap.size 5 1 v (xs.length + 1) (u8s xs ++ [.int .u8 b])) : w'.ownsRow W.heap.size 5 1 v (xs ++ [b]).length (u8s (xs ++ [b])) := by
 rw [u8s_app, List.length_append]; exact h
theorem anum_step {W w w' : World} {D Y xs : List Int} {x b : Int} {m k n : Nat} {o : Option Addr} {c : Nat} (hY : Y = xs ++ D) (h : D ++ Jn.bn (m + 1) x = Jn.bn k x) (hx : Ext W w') (ho : w'.ownsRow W.heap.size 5 1 (.slice o n c) (Y ++ [b]).length (u8s (Y ++ [b]))) (hl : D.length + 1 ≤ 4) (hk : Kp JT w w') (hb : b = x / 256 ^ m % 256) :
 ∃ D' : List Int, D'.length ≤ 4 ∧ Hid (D' ++ Jn.bn m x = Jn.bn k x ∧ Ext W w' ∧ w'.ownsRow W.heap.size 5 1 (.slice o n c) (xs ++ D').length (u8s (xs ++ D')) ∧ Kp JT w w') := by
 refine ⟨D ++ [b], by rw [List.length_append]; exact hl, Lh ⟨?_, hx, by rw [← List.append_assoc, ← hY]; exact ho, hk⟩⟩
 rw [← h, List.append_assoc, hb]; rfl
theorem anum_any {W w : World} {v : Value} {xs : List Int} (hx : Ext W w) (ho : w.ownsRow W.heap.size 5 1 v xs.length (u8s xs)) (hl : xs.length ≤ 1000000) (k : Nat) (hk : k ≤ 4) (x : Int) (hx0 : 0 ≤ x ∧ x ≤ 4294967295) :
 Calls Tryz.prog 116 #[v, .int .i64 x, .int .i64 (k : Int)] w (EncP W w (xs ++ Jn.bn k x)) := by
 have HX := Lh hx
 have HO := Lh ho
 clear hx ho
 go_enter Tryz.func116, Tryz.ntmps116
 go_wp2_with fail
 go_loopw [0, 7] (fun q i wr => ∃ j : Nat, j ≤ k ∧ i = .int .i64 ((j : Int) - 1) ∧ ∃ D : List Int, D.length ≤ 4 ∧ Hid (D ++ Jn.bn j x = Jn.bn k x ∧ Ext W wr ∧ wr.ownsRow W.heap.size 5 1 q (xs ++ D).length (u8s (xs ++ D)) ∧ Kp JT w wr)) (fun _ i _ => (intOf i + 1).toNat)
 case atStart => exact ⟨k, Nat.le_refl _, rfl, [], by simp, Lh ⟨rfl, HX.out, by rw [List.append_nil]; exact HO.out, Kp.refl _ _⟩⟩
 case round =>
  obtain ⟨j, hj, rfl, D, hD, HZ⟩ := hrel
  obtain ⟨a0, c0, rfl⟩ := own_slice HZ.out.2.2.1
  have hDj : D.length + j = k := by
   have h := congrArg List.length HZ.out.1
   rw [List.length_append, Jn.bn_len, Jn.bn_len] at h; exact h
  have hxl : (xs ++ D).length ≤ 1000004 := by rw [List.length_append]; omega
  obtain ⟨Y, hY⟩ : ∃ y, y = xs ++ D := ⟨_, rfl⟩
  have HZY : Hid (D ++ Jn.bn j x = Jn.bn k x ∧ Ext W wr ∧ wr.ownsRow W.heap.size 5 1 (.slice a0 Y.length c0) Y.length (u8s Y) ∧ Kp JT w wr) := Lh (by rw [hY]; exact HZ.out)
  rw [← hY] at hxl ⊢
  have HYD := Lh hY
  clear hY HZ
  have hle := HZY.out.2.1.le
  by_cases hj0 : j = 0
  ·subst hj0
   go_wp2_with fail
   go_ret
   have hD2 : D = Jn.bn k x := by have h := HZY.out.1; rw [show Jn.bn 0 x = [] from rfl, List.append_nil] at h; exact h
   have h2 := HZY.out.2.2.1
   rw [HYD.out, hD2] at h2
   rw [HYD.out, hD2]
   exact ⟨_, rfl, HZY.out.2.1, h2, HZY.out.2.2.2⟩
  ·obtain ⟨m, rfl⟩ : ∃ m, j = m + 1 := ⟨j - 1, by omega⟩
   have e1 : ((m + 1 : Nat) : Int) - 1 = (m : Int) := by omega
   rw [e1]
   have hm : m = 0 ∨ m = 1 ∨ m = 2 ∨ m = 3 := by omega
   clear e1
   rcases hm with rfl | rfl | rfl | rfl
   all_goals (go_wp2_with (at_builtin; refine wpList_append_fresh rfl (.tmp 14) (.tmp 20) 48 rfl W.heap.size 5 (.int .u8 0) 1 1 Tryz.underlying48 cinf_byt rfl (by decide) (.slice a0 Y.length c0) Y.length (u8s Y) rfl (own_now HZY.out.2.2.1) _ 1 _ rfl (src_one wr _ _ rfl) (by unfold maxLen; omega) (by omega) (by simp only [szA]; omega) ?_))
   all_goals (
    intro v' w' hown hgr hfr
    obtain ⟨o3, c3, rfl⟩ := own_slice hown
    have x2 := ext_grown HZY.out.2.1 HZY.out.2.2.1 hgr
    have HX2 := Lh x2
    have HO2 := Lh (own_byte hown)
    have HK2 := Lh (HZY.out.2.2.2.trans (kp_grown HZY.out.2.2.1 hgr))
    clear hown hgr hfr x2
    go_wp2_with fail
    go_roundw)
   all_goals first
    | exact ⟨0, by omega, rfl, anum_step HYD.out HZY.out.1 HX2.out HO2.out (by omega) HK2.out (by simp)⟩
    | exact ⟨1, by omega, rfl, anum_step HYD.out HZY.out.1 HX2.out HO2.out (by omega) HK2.out rfl⟩
    | exact ⟨2, by omega, rfl, anum_step HYD.out HZY.out.1 HX2.out HO2.out (by omega) HK2.out rfl⟩
    | exact ⟨3, by omega, rfl, anum_step HYD.out HZY.out.1 HX2.out HO2.out (by omega) HK2.out (by show _ = x / 16777216 % 256; omega)⟩
    | simp [intOf]
end Go.Proofs.YthmokhkkdgnbhaaGreat
