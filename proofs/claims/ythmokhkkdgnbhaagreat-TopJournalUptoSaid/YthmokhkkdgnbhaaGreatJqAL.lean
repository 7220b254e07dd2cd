/- What a store holds, in memory of its own; copies of calls, entries, rows, walked. Configurations in memory of their own; cloneConfig, walked. Copies of configurations: cloneConfig, walked. No condition. -/
import Derived.Test.YthmokhkkdgnbhaaGreatJqAK
set_option maxRecDepth 8000
set_option maxHeartbeats 16000000
namespace Go.Proofs.YthmokhkkdgnbhaaGreat
open Go.RowKit
/-- blocks of these element types stay as they are -/
def Kp (Ts : List TypeId) (w w' : World) : Prop := ∀ (k : Nat) (cur : Array Value) (t : TypeId) (f : Nat × Nat), t ∈ Ts → w.heap[k]? = some (.cells cur t f) → w'.heap[k]? = some (.cells cur t f)
theorem Kp.refl (Ts : List TypeId) (w : World) : Kp Ts w w := fun _ _ _ _ _ h => h
theorem Kp.trans {Ts : List TypeId} {a b c : World} (h : Kp Ts a b) (g : Kp Ts b c) : Kp Ts a c := fun k cur t f ht hk => g k cur t f ht (h k cur t f ht hk)
theorem Kp.ext {Ts : List TypeId} {a b : World} (h : Ext a b) : Kp Ts a b := fun _ _ _ _ _ hk => h.heap hk
theorem Kp.mod {Ts : List TypeId} {a b : World} {S : Nat → Prop} (h : Mod S a b) (hs : ∀ k cur t f, S k → a.heap[k]? = some (.cells cur t f) → t ∉ Ts) : Kp Ts a b := fun k cur t f ht hk => h.heap hk (fun hS => hs k cur t f hS hk ht)
theorem Kp.box {Ts : List TypeId} {a b : World} {g : Nat} {c : Array Value} {t0 : TypeId} {f0 : Nat × Nat} (h : Mod (· = g) a b) (hg : a.heap[g]? = some (.cells c t0 f0)) (h0 : t0 ∉ Ts) : Kp Ts a b := Kp.mod h (fun k cur t f hk h1 => by
 subst hk; rw [hg] at h1; simp only [Option.some.injEq, Obj.cells.injEq] at h1; obtain ⟨_, rfl, _⟩ := h1; exact h0)
theorem row_heap {w : World} {base : Nat} {e : TypeId} {size : Nat} {v : Value} {n : Nat} {xs : List Value} (h : w.ownsRow base e size v n xs) {k : Nat} (hk : v.ownBlock = some k) : ∃ cur, w.heap[k]? = some (.cells cur e (0, 0)) := by
 rcases h.2 with ⟨rfl, _⟩ | ⟨g, cap, cur, rfl, hb, hg, _⟩
 ·cases hk
 ·simp only [Value.ownBlock, Option.some.injEq] at hk; subst hk; exact ⟨cur, hg⟩
theorem Kp.grown {Ts : List TypeId} {a b : World} {B sz n : Nat} {e : TypeId} {v : Value} {xs : List Value} (h : a.grownBy b v.ownBlock) (ho : a.ownsRow B e sz v n xs) (h0 : e ∉ Ts) : Kp Ts a b := Kp.mod (grown_mod h) (fun k cur t f hk h1 => by
 obtain ⟨c, h2⟩ := row_heap ho hk.symm
 rw [h2] at h1; simp only [Option.some.injEq, Obj.cells.injEq] at h1; obtain ⟨_, rfl, _⟩ := h1; exact h0)
theorem Kp.sub {Ts Us : List TypeId} {a b : World} (h : Kp Ts a b) (hs : ∀ t ∈ Us, t ∈ Ts) : Kp Us a b := fun k cur t f ht hk => h k cur t f (hs t ht) hk
theorem own_kp {Ts : List TypeId} {w w' : World} {base : Nat} {e : TypeId} {size : Nat} {v : Value} {n : Nat} {xs : List Value} (h : w.ownsRow base e size v n xs) (k : Kp Ts w w') (he : e ∈ Ts) : w'.ownsRow base e size v n xs := by
 obtain ⟨h1, h2⟩ := h
 refine ⟨h1, ?_⟩
 rcases h2 with h2 | ⟨g, cap, cur, rfl, hb, hg, r⟩
 ·exact .inl h2
 ·exact .inr ⟨g, cap, cur, rfl, hb, k _ _ _ _ he hg, r⟩
theorem own_form {w : World} {base : Nat} {e : TypeId} {size : Nat} {v : Value} {n : Nat} {xs : List Value} (h : w.ownsRow base e size v n xs) : ∃ a c, v = .slice a n c ∧ n ≤ c ∧ c ≤ maxLen := by
 rcases h.2 with ⟨rfl, h0⟩ | ⟨g, cap, cur, rfl, _, _, h1, h2, _⟩
 ·exact ⟨none, 0, by rw [h0], by omega, Nat.zero_le _⟩
 ·exact ⟨_, cap, rfl, h1, h2⟩
theorem agg_inj {cs cs' : List Value} (h : Value.agg cs.toArray = .agg cs'.toArray) : cs = cs' := by simpa using h
namespace Tj
def kmC (k : KM) : List Value := [.int .u32 k.v, .int .u32 k.m]
def uC (l : List Int) : List Value := l.map (.int .u32)
/-- keys and arguments of one's own -/
def KOwn (B : Nat) (w : World) (v : Value) (l : List KM) : Prop := w.ownsRow B 209 2 v l.length (l.flatMap kmC) ∧ ∀ k ∈ l, U32 k.v ∧ U32 k.m
def UOwn (B : Nat) (w : World) (v : Value) (l : List Int) : Prop := w.ownsRow B 118 1 v l.length (uC l) ∧ ∀ x ∈ l, U32 x
def Leaf : List TypeId := [209, 118]
theorem KOwn.ext {B : Nat} {w w' : World} {v : Value} {l : List KM} (h : KOwn B w v l) (hx : Ext w w') : KOwn B w' v l := ⟨own_ext h.1 hx, h.2⟩
theorem UOwn.ext {B : Nat} {w w' : World} {v : Value} {l : List Int} (h : UOwn B w v l) (hx : Ext w w') : UOwn B w' v l := ⟨own_ext h.1 hx, h.2⟩
theorem KOwn.kp {B : Nat} {w w' : World} {v : Value} {l : List KM} (h : KOwn B w v l) (hx : Kp Leaf w w') : KOwn B w' v l := ⟨own_kp h.1 hx (by decide), h.2⟩
theorem UOwn.kp {B : Nat} {w w' : World} {v : Value} {l : List Int} (h : UOwn B w v l) (hx : Kp Leaf w w') : UOwn B w' v l := ⟨own_kp h.1 hx (by decide), h.2⟩
theorem KOwn.low {B C : Nat} {w : World} {v : Value} {l : List KM} (h : KOwn B w v l) (hc : C ≤ B) : KOwn C w v l := ⟨own_base h.1 hc, h.2⟩
theorem UOwn.low {B C : Nat} {w : World} {v : Value} {l : List Int} (h : UOwn B w v l) (hc : C ≤ B) : UOwn C w v l := ⟨own_base h.1 hc, h.2⟩
theorem KOwn.mod {B : Nat} {w w' : World} {v : Value} {l : List KM} {S : Nat → Prop} (h : KOwn B w v l) (hm : Mod S w w') (hs : ∀ k, S k → k < B) : KOwn B w' v l := ⟨own_mod h.1 hm (fun k hk hS => by have := row_ge h.1 hk; have := hs k hS; omega), h.2⟩
theorem UOwn.mod {B : Nat} {w w' : World} {v : Value} {l : List Int} {S : Nat → Prop} (h : UOwn B w v l) (hm : Mod S w w') (hs : ∀ k, S k → k < B) : UOwn B w' v l := ⟨own_mod h.1 hm (fun k hk hS => by have := row_ge h.1 hk; have := hs k hS; omega), h.2⟩
theorem KOwn.kms {B : Nat} {w : World} {v : Value} {l : List KM} (h : KOwn B w v l) : KMs w v l := rows_flat (f := kmC) (fun _ => rfl) (fun k hk => ⟨rfl, (h.2 k hk).1, (h.2 k hk).2⟩) h.1
theorem UOwn.us {B : Nat} {w : World} {v : Value} {l : List Int} (h : UOwn B w v l) : Us w v l := by
 obtain ⟨a, c, _, h1, h2⟩ := own_form h.1
 exact ⟨⟨own_src h.1 (fun u hu => by obtain ⟨x, _, rfl⟩ := List.mem_map.1 hu; rfl), by omega⟩, h.2⟩
/-- the cells of an entry, of a row -/
def EntO (B : Nat) (w : World) (cs : List Value) (x : Ent) : Prop := ∃ ka kc ga gc, cs = [.slice ka x.ks.length kc, .int .i64 x.pr, .int .i64 x.cl.a, .slice ga x.cl.ar.length gc] ∧ (B64 x.pr ∧ B64 x.cl.a) ∧ KOwn B w (.slice ka x.ks.length kc) x.ks ∧ UOwn B w (.slice ga x.cl.ar.length gc) x.cl.ar
def RwO (B : Nat) (w : World) (cs : List Value) (r : Rw) : Prop := ∃ es, cs = .int .i64 r.id :: es ∧ B64 r.id ∧ EntO B w es r.e
def CallO (B : Nat) (w : World) (cs : List Value) (c : Call) : Prop := ∃ ga gc, cs = [.int .i64 c.a, .slice ga c.ar.length gc] ∧ B64 c.a ∧ UOwn B w (.slice ga c.ar.length gc) c.ar
theorem EntO.kp {B : Nat} {w w' : World} {cs : List Value} {x : Ent} (h : EntO B w cs x) (hx : Kp Leaf w w') : EntO B w' cs x := by
 obtain ⟨ka, kc, ga, gc, h1, h2, h3, h4⟩ := h; exact ⟨ka, kc, ga, gc, h1, h2, h3.kp hx, h4.kp hx⟩
theorem EntO.ext {B : Nat} {w w' : World} {cs : List Value} {x : Ent} (h : EntO B w cs x) (hx : Ext w w') : EntO B w' cs x := h.kp (Kp.ext hx)
theorem EntO.low {B C : Nat} {w : World} {cs : List Value} {x : Ent} (h : EntO B w cs x) (hc : C ≤ B) : EntO C w cs x := by
 obtain ⟨ka, kc, ga, gc, h1, h2, h3, h4⟩ := h; exact ⟨ka, kc, ga, gc, h1, h2, h3.low hc, h4.low hc⟩
theorem EntO.mod {B : Nat} {w w' : World} {cs : List Value} {x : Ent} {S : Nat → Prop} (h : EntO B w cs x) (hm : Mod S w w') (hs : ∀ k, S k → k < B) : EntO B w' cs x := by
 obtain ⟨ka, kc, ga, gc, h1, h2, h3, h4⟩ := h; exact ⟨ka, kc, ga, gc, h1, h2, h3.mod hm hs, h4.mod hm hs⟩
theorem RwO.kp {B : Nat} {w w' : World} {cs : List Value} {x : Rw} (h : RwO B w cs x) (hx : Kp Leaf w w') : RwO B w' cs x := by
 obtain ⟨es, h1, h2, h3⟩ := h; exact ⟨es, h1, h2, h3.kp hx⟩
theorem RwO.low {B C : Nat} {w : World} {cs : List Value} {x : Rw} (h : RwO B w cs x) (hc : C ≤ B) : RwO C w cs x := by
 obtain ⟨es, h1, h2, h3⟩ := h; exact ⟨es, h1, h2, h3.low hc⟩
theorem CallO.kp {B : Nat} {w w' : World} {cs : List Value} {x : Call} (h : CallO B w cs x) (hx : Kp Leaf w w') : CallO B w' cs x := by
 obtain ⟨ga, gc, h1, h2, h3⟩ := h; exact ⟨ga, gc, h1, h2, h3.kp hx⟩
theorem CallO.ext {B : Nat} {w w' : World} {cs : List Value} {x : Call} (h : CallO B w cs x) (hx : Ext w w') : CallO B w' cs x := h.kp (Kp.ext hx)
theorem CallO.low {B C : Nat} {w : World} {cs : List Value} {x : Call} (h : CallO B w cs x) (hc : C ≤ B) : CallO C w cs x := by
 obtain ⟨ga, gc, h1, h2, h3⟩ := h; exact ⟨ga, gc, h1, h2, h3.low hc⟩
theorem EntO.ent {B : Nat} {w : World} {cs : List Value} {x : Ent} (h : EntO B w cs x) : EntR w cs x := by
 obtain ⟨ka, kc, ga, gc, h1, h2, h3, h4⟩ := h; exact ⟨ka, kc, ga, gc, h1, h2, h3.kms, h4.us⟩
theorem RwO.rw {B : Nat} {w : World} {cs : List Value} {x : Rw} (h : RwO B w cs x) : RwR w cs x := by
 obtain ⟨es, h1, h2, h3⟩ := h; exact ⟨es, h1, h2, h3.ent⟩
theorem CallO.call {B : Nat} {w : World} {cs : List Value} {x : Call} (h : CallO B w cs x) : CallR w cs x := by
 obtain ⟨ga, gc, h1, h2, h3⟩ := h; exact ⟨_, h1, h2, h3.us⟩
/-- a copy of one's own -/
def OwnP {α : Type} (W : World) (R : Nat → World → List Value → α → Prop) (d : α) (e : Ending) (w' : World) : Prop := ∃ cs : List Value, e = .returned (.agg cs.toArray) ∧ Ext W w' ∧ R W.heap.size w' cs d
end Tj
theorem cl_kown {W : World} {v : Value} {l : List Tj.KM} (h : Tj.KMs W v l) (hn : l.length ≤ 1073741824) : Calls Tryz.prog 176 #[v] W (fun e w' => ∃ v, e = .returned v ∧ Ext W w' ∧ Tj.KOwn W.heap.size w' v l) := by
 have hm : ∀ k ∈ l, U32 k.v ∧ U32 k.m := by
  intro d hd
  rcases h with ⟨_, rfl⟩ | ⟨ad, c, _, _, _, _, h4⟩
  ·simp at hd
  ·obtain ⟨i, hi⟩ := List.getElem?_of_mem hd
   obtain ⟨cs, _, h5, _⟩ := h4 i d hi
   exact h5.2
 refine (clone_kmt (rows_src Tj.kmC (by decide) (fun _ => rfl) (fun d u hu => by simp only [Tj.kmC, List.mem_cons, List.not_mem_nil, or_false] at hu; rcases hu with rfl | rfl <;> rfl) (fun cs d h => h.1) h) hn).mono ?_
 rintro e w' ⟨v, h1, h2, h3⟩
 exact ⟨v, h1, h2, h3, hm⟩
theorem cl_uown {W : World} {v : Value} {l : List Int} (h : Tj.Us W v l) (hn : l.length ≤ 1073741824) : Calls Tryz.prog 101 #[v] W (fun e w' => ∃ v, e = .returned v ∧ Ext W w' ∧ Tj.UOwn W.heap.size w' v l) := by
 refine (clone_u32 h.1.1 hn).mono ?_
 rintro e w' ⟨v, h1, h2, h3⟩
 exact ⟨v, h1, h2, h3, h.2⟩
theorem ccall_own {W : World} {cs : List Value} {x : Tj.Call} (hR : Tj.CallR W cs x) (hb : x.ar.length ≤ 1073741824) : Calls Tryz.prog 59 #[.agg cs.toArray] W (Tj.OwnP W Tj.CallO x) := by
 obtain ⟨av, rfl, hs, hu⟩ := hR
 obtain ⟨ga, gc, rfl⟩ := ns_slice hu.1
 have HC0 := Lh (fun (w : World) (hx : Ext W w) => cl_uown (hu.ext hx) hb)
 clear hu
 have HS := Lh hs
 clear hs hb
 have bx := aH W (.cells #[.int .i64 x.a, .slice ga x.ar.length gc] 63)
 have k0 := alw (cQ 0 bx)
 have k1 := alw (cQ 1 bx)
 clear bx
 go_enter Tryz.func59, Tryz.ntmps59
 go_wp2_with fail
 refine Rel.region_tail (W := ((W.alloc (.cells #[.int .i64 x.a, .slice ga x.ar.length gc] 63)).alloc (.cells #[.int .i64 0, .slice none 0 0] 63))) 5 (Rel.tab [(4, fun v w => Tj.UOwn ((W.alloc (.cells #[.int .i64 x.a, .slice ga x.ar.length gc] 63)).alloc (.cells #[.int .i64 0, .slice none 0 0] 63)).heap.size w v x.ar)]) (Rel.tab_lasts (by intro p hp v w w' hr hx; simp only [List.mem_cons, List.not_mem_nil, or_false] at hp; subst hp; exact hr.ext hx)) (by kernel_rfl) (by kernel_rfl) (eR _) ?_
 simp only [tkS, tkZ]
 refine Rel.chunkT 4 rfl rfl rfl ?_
 simp only [tkS, tkZ, dpS, dpZ, Nat.reduceAdd]
 repeat (go_big_quiet_step (fail))
 refine wpQuiet_nil ?_
 refine Rel.callG _ rfl rfl rfl Tryz.func101 (by nofun) (by decide) #[.slice ga x.ar.length gc] rfl (fun w hx _ => by refine (HC0.out w ((grows (a := W) (b := ((W.alloc (.cells #[.int .i64 x.a, .slice ga x.ar.length gc] 63)).alloc (.cells #[.int .i64 0, .slice none 0 0] 63)))).trans hx)).mono ?_; rintro e w9 ⟨v, h1, h2, h3⟩; exact ⟨v, h1, h2, h3.low hx.le⟩) ?_
 intro u0 v0 _ _ r0
 simp only [Act.put, stA, stS, stZ]
 refine Rel.fin ?_
 intro w7 x7 hf7
 have O0 := Lh ((hf7 4).2 rfl)
 obtain ⟨ua, uc, rfl, _⟩ := own_form r0.1
 clear r0
 have hr7 := x7.heap (aH (W.alloc (.cells #[.int .i64 x.a, .slice ga x.ar.length gc] 63)) (.cells #[.int .i64 0, .slice none 0 0] 63))
 rw [szA] at hr7
 have HR7 := Lh hr7
 have X7 := Lh ((grows (a := W) (b := ((W.alloc (.cells #[.int .i64 x.a, .slice ga x.ar.length gc] 63)).alloc (.cells #[.int .i64 0, .slice none 0 0] 63)))).trans x7)
 clear hr7 x7 hf7
 go_wp2_with (refine wpList_store_box rfl 63 (.tmp 2) (.tmp 8) rfl (W.heap.size + 1) #[.int .i64 x.a, .slice ua x.ar.length uc] rfl rfl 63 #[.int .i64 0, .slice none 0 0] HR7.out (by kernel_rfl) rfl (by simp [Value.oneCell']) ?_)
 intro wf hmf hbf
 have HMF := Lh hmf
 have q0 := cQ 0 hbf; have q1 := cQ 1 hbf
 clear hmf hbf
 go_wp2_with fail
 refine bodyPost_ret (v := .agg #[.int .i64 x.a, .slice ua x.ar.length uc]) (by simp [results, Tryz.results59, go_sem, q0, q1]) rfl ⟨_, rfl, X7.out.mod HMF.out (fun q hq => by omega), ?_⟩
 exact ⟨_, _, rfl, HS.out, (O0.out.mod HMF.out (fun k hk => by simp; omega)).low (by simp; omega)⟩
abbrev Yq11 (ka : Option Addr) (kc : Nat) (x : Tj.Ent) (ga : Option Addr) (gc : Nat) : Array Value := #[.slice ka x.ks.length kc, .int .i64 x.pr, .int .i64 x.cl.a, .slice ga x.cl.ar.length gc]
abbrev Yq18  : Array Value := #[.int .i64 0, .slice none 0 0, .int .i64 0, .int .i64 0, .slice none 0 0]
abbrev Yq26 (x : Tj.Rw) (ka : Option Addr) (kc : Nat) (ga : Option Addr) (gc : Nat) : Array Value := #[.int .i64 x.id, .slice ka x.e.ks.length kc, .int .i64 x.e.pr, .int .i64 x.e.cl.a, .slice ga x.e.cl.ar.length gc]
abbrev Yq30  : Array Value := #[.slice none 0 0, .int .i64 0, .int .i64 0, .slice none 0 0]
theorem centry_own {W : World} {cs : List Value} {x : Tj.Ent} (hR : Tj.EntR W cs x) (hb : x.ks.length ≤ 1073741824 ∧ x.cl.ar.length ≤ 1073741824) : Calls Tryz.prog 146 #[.agg cs.toArray] W (Tj.OwnP W Tj.EntO x) := by
 obtain ⟨ka, kc, ga, gc, rfl, hs, hk, hu⟩ := hR
 have HC0 : Hid (∀ w, Ext W w → Calls Tryz.prog 176 #[.slice ka x.ks.length kc] w (fun e w' => ∃ v, e = .returned v ∧ Ext w w' ∧ Tj.KOwn w.heap.size w' v x.ks)) := Lh (fun w hx => cl_kown (Rows.ext hk (fun _ _ h => h) hx) hb.1)
 have HC1 : Hid (∀ w, Ext W w → Calls Tryz.prog 59 #[.agg #[.int .i64 x.cl.a, .slice ga x.cl.ar.length gc]] w (Tj.OwnP w Tj.CallO x.cl)) := Lh (fun w hx => ccall_own (cs := [.int .i64 x.cl.a, .slice ga x.cl.ar.length gc]) ⟨_, rfl, hs.2, hu.ext hx⟩ hb.2)
 clear hk hu
 have HS := Lh hs
 clear hs hb
 have bx := aH W (.cells (Yq11 ka kc x ga gc) 65)
 have k0 := alw (cQ 0 bx)
 have k1 := alw (cQ 1 bx)
 have k2 := alw (cQ 2 bx)
 have k3 := alw (cQ 3 bx)
 clear bx
 go_enter Tryz.func146, Tryz.ntmps146
 go_wp2_with fail
 refine Rel.region_tail (W := ((W.alloc (.cells (Yq11 ka kc x ga gc) 65)).alloc (.cells (Yq30 ) 65))) 8 (Rel.tab [(2, fun v w => Tj.KOwn ((W.alloc (.cells (Yq11 ka kc x ga gc) 65)).alloc (.cells (Yq30 ) 65)).heap.size w v x.ks), (7, fun v w => ∃ cs : List Value, v = .agg cs.toArray ∧ Tj.CallO ((W.alloc (.cells (Yq11 ka kc x ga gc) 65)).alloc (.cells (Yq30 ) 65)).heap.size w cs x.cl)]) (Rel.tab_lasts (by intro p hp v w w' hr hx; simp only [List.mem_cons, List.not_mem_nil, or_false] at hp; rcases hp with rfl | rfl; (· exact hr.ext hx); (· obtain ⟨cs, h1, h2⟩ := hr; exact ⟨cs, h1, h2.ext hx⟩))) (by kernel_rfl) (by kernel_rfl) (eR _) ?_
 simp only [tkS, tkZ]
 refine Rel.chunkT 2 rfl rfl rfl ?_
 simp only [tkS, tkZ, dpS, dpZ, Nat.reduceAdd]
 repeat (go_big_quiet_step (fail))
 refine wpQuiet_nil ?_
 refine Rel.callG _ rfl rfl rfl Tryz.func176 (by nofun) (by decide) #[.slice ka x.ks.length kc] rfl (fun w hx _ => by refine (HC0.out w ((grows (a := W) (b := ((W.alloc (.cells (Yq11 ka kc x ga gc) 65)).alloc (.cells (Yq30 ) 65)))).trans hx)).mono ?_; rintro e w9 ⟨v, h1, h2, h3⟩; exact ⟨v, h1, h2, h3.low hx.le⟩) ?_
 intro u0 v0 _ _ r0
 simp only [Act.put, stA, stS, stZ]
 refine Rel.chunkT 4 rfl rfl rfl ?_
 simp only [tkS, tkZ, dpS, dpZ, Nat.reduceAdd]
 repeat (go_big_quiet_step (fail))
 refine wpQuiet_nil ?_
 refine Rel.callG _ rfl rfl rfl Tryz.func59 (by nofun) (by decide) #[.agg #[.int .i64 x.cl.a, .slice ga x.cl.ar.length gc]] rfl (fun w hx _ => by refine (HC1.out w ((grows (a := W) (b := ((W.alloc (.cells (Yq11 ka kc x ga gc) 65)).alloc (.cells (Yq30 ) 65)))).trans hx)).mono ?_; rintro e w9 ⟨cs, h1, h2, h3⟩; exact ⟨_, h1, h2, cs, rfl, h3.low hx.le⟩) ?_
 intro u1 v1 _ _ r1
 obtain ⟨cs, rfl, ua, uc, rfl, _, _⟩ := r1
 simp only [Act.put, stA, stS, stZ]
 refine Rel.fin ?_
 intro w7 x7 hf7
 have O0 := Lh ((hf7 2).1.2 rfl)
 have O1 := (hf7 7).2 rfl
 obtain ⟨pa, pc, rfl, _⟩ := own_form r0.1
 clear r0
 obtain ⟨cs, he, ga2, gc2, rfl, _, O1⟩ := O1
 replace he := agg_inj he
 simp only [List.cons.injEq, Value.slice.injEq, and_true, true_and] at he
 obtain ⟨rfl, rfl⟩ := he
 replace O1 := Lh O1
 have hr7 := x7.heap (aH (W.alloc (.cells (Yq11 ka kc x ga gc) 65)) (.cells (Yq30 ) 65))
 rw [szA] at hr7
 have HR7 := Lh hr7
 have X7 := Lh ((grows (a := W) (b := ((W.alloc (.cells (Yq11 ka kc x ga gc) 65)).alloc (.cells (Yq30 ) 65)))).trans x7)
 clear hr7 x7 hf7
 go_wp2_with (refine wpList_store_box rfl 65 (.tmp 2) (.tmp 11) rfl (W.heap.size + 1) #[.slice pa x.ks.length pc, .int .i64 x.pr, .int .i64 x.cl.a, .slice ua x.cl.ar.length uc] rfl rfl 65 (Yq30 ) HR7.out (by kernel_rfl) rfl (by simp [Value.oneCell']) ?_)
 intro wf hmf hbf
 have HMF := Lh hmf
 have q0 := cQ 0 hbf; have q1 := cQ 1 hbf; have q2 := cQ 2 hbf; have q3 := cQ 3 hbf
 clear hmf hbf
 go_wp2_with fail
 refine bodyPost_ret (v := .agg #[.slice pa x.ks.length pc, .int .i64 x.pr, .int .i64 x.cl.a, .slice ua x.cl.ar.length uc]) (by simp [results, Tryz.results146, go_sem, q0, q1, q2, q3]) rfl ⟨_, rfl, X7.out.mod HMF.out (fun q hq => by omega), ?_⟩
 exact ⟨_, _, _, _, rfl, HS.out, (O0.out.mod HMF.out (fun k hk => by simp; omega)).low (by simp; omega), (O1.out.mod HMF.out (fun k hk => by simp; omega)).low (by simp; omega)⟩
theorem crow_own {W : World} {cs : List Value} {x : Tj.Rw} (hR : Tj.RwR W cs x) (hb : x.e.ks.length ≤ 1073741824 ∧ x.e.cl.ar.length ≤ 1073741824) : Calls Tryz.prog 108 #[.agg cs.toArray] W (Tj.OwnP W Tj.RwO x) := by
 obtain ⟨es, rfl, hs, hE⟩ := hR
 have hE2 := hE
 obtain ⟨ka, kc, ga, gc, rfl, _, _, _⟩ := hE2
 have HC0 := Lh (fun (w : World) (hx : Ext W w) => centry_own (hE.ext hx) hb)
 clear hE
 have HS := Lh hs
 clear hs hb
 have bx := aH W (.cells (Yq26 x ka kc ga gc) 151)
 have k0 := alw (cQ 0 bx)
 have k1 := alw (cQ 1 bx)
 have k2 := alw (cQ 2 bx)
 have k3 := alw (cQ 3 bx)
 have k4 := alw (cQ 4 bx)
 clear bx
 go_enter Tryz.func108, Tryz.ntmps108
 go_wp2_with fail
 refine Rel.region_tail (W := ((W.alloc (.cells (Yq26 x ka kc ga gc) 151)).alloc (.cells (Yq18 ) 151))) 5 (Rel.tab [(4, fun v w => ∃ cs : List Value, v = .agg cs.toArray ∧ Tj.EntO ((W.alloc (.cells (Yq26 x ka kc ga gc) 151)).alloc (.cells (Yq18 ) 151)).heap.size w cs x.e)]) (Rel.tab_lasts (by intro p hp v w w' hr hx; simp only [List.mem_cons, List.not_mem_nil, or_false] at hp; subst hp; obtain ⟨cs, h1, h2⟩ := hr; exact ⟨cs, h1, h2.ext hx⟩)) (by kernel_rfl) (by kernel_rfl) (eR _) ?_
 simp only [tkS, tkZ]
 refine Rel.chunkT 4 rfl rfl rfl ?_
 simp only [tkS, tkZ, dpS, dpZ, Nat.reduceAdd]
 repeat (go_big_quiet_step (fail))
 refine wpQuiet_nil ?_
 refine Rel.callG _ rfl rfl rfl Tryz.func146 (by nofun) (by decide) #[.agg #[.slice ka x.e.ks.length kc, .int .i64 x.e.pr, .int .i64 x.e.cl.a, .slice ga x.e.cl.ar.length gc]] rfl (fun w hx _ => by refine (HC0.out w ((grows (a := W) (b := ((W.alloc (.cells (Yq26 x ka kc ga gc) 151)).alloc (.cells (Yq18 ) 151)))).trans hx)).mono ?_; rintro e w9 ⟨cs, h1, h2, h3⟩; exact ⟨_, h1, h2, cs, rfl, h3.low hx.le⟩) ?_
 intro u1 v1 _ _ r1
 obtain ⟨cs, rfl, pa, pc, ua, uc, rfl, _, _⟩ := r1
 simp only [Act.put, stA, stS, stZ]
 refine Rel.fin ?_
 intro w7 x7 hf7
 have O1 := (hf7 4).2 rfl
 obtain ⟨cs, he, O1⟩ := O1
 obtain rfl := agg_inj he
 replace O1 := Lh O1
 have hr7 := x7.heap (aH (W.alloc (.cells (Yq26 x ka kc ga gc) 151)) (.cells (Yq18 ) 151))
 rw [szA] at hr7
 have HR7 := Lh hr7
 have X7 := Lh ((grows (a := W) (b := ((W.alloc (.cells (Yq26 x ka kc ga gc) 151)).alloc (.cells (Yq18 ) 151)))).trans x7)
 clear hr7 x7 hf7
 go_wp2_with (refine wpList_store_box rfl 151 (.tmp 2) (.tmp 8) rfl (W.heap.size + 1) #[.int .i64 x.id, .slice pa x.e.ks.length pc, .int .i64 x.e.pr, .int .i64 x.e.cl.a, .slice ua x.e.cl.ar.length uc] rfl rfl 151 (Yq18 ) HR7.out (by kernel_rfl) rfl (by simp [Value.oneCell']) ?_)
 intro wf hmf hbf
 have HMF := Lh hmf
 have q0 := cQ 0 hbf; have q1 := cQ 1 hbf; have q2 := cQ 2 hbf; have q3 := cQ 3 hbf; have q4 := cQ 4 hbf
 clear hmf hbf
 go_wp2_with fail
 refine bodyPost_ret (v := .agg #[.int .i64 x.id, .slice pa x.e.ks.length pc, .int .i64 x.e.pr, .int .i64 x.e.cl.a, .slice ua x.e.cl.ar.length uc]) (by simp [results, Tryz.results108, go_sem, q0, q1, q2, q3, q4]) rfl ⟨_, rfl, X7.out.mod HMF.out (fun q hq => by omega), ?_⟩
 exact ⟨_, rfl, HS.out, (O1.out.mod HMF.out (fun k hk => by simp; omega)).low (by simp; omega)⟩
theorem grown_at {a b : World} {B sz n g : Nat} {e t : TypeId} {v : Value} {xs : List Value} {c : Array Value} {f : Nat × Nat} (h : a.grownBy b v.ownBlock) (ho : a.ownsRow B e sz v n xs) (hg : a.heap[g]? = some (.cells c t f)) (hne : e ≠ t) : b.heap[g]? = some (.cells c t f) :=
 (grown_mod h).heap hg (fun e1 => by
  obtain ⟨cur, h1⟩ := row_heap ho e1.symm
  rw [hg] at h1; simp only [Option.some.injEq, Obj.cells.injEq] at h1; exact hne h1.2.1.symm)
namespace Tj
/-- a list of one's own: its elements' cells, each in the relation R to its datum -/
def OLc {α : Type} (B : Nat) (T : TypeId) (sz : Nat) (R : World → List Value → α → Prop) (w : World) (v : Value) (l : List α) (css : List (List Value)) : Prop :=
 css.length = l.length ∧ (∀ x ∈ css, x.length = sz) ∧ (∀ x ∈ css, ∀ u ∈ x, u.oneCell' = true) ∧ w.ownsRow B T sz v l.length css.flatten ∧ ∀ (i : Nat) (cs : List Value) (d : α), css[i]? = some cs → l[i]? = some d → R w cs d
def OL {α : Type} (B : Nat) (T : TypeId) (sz : Nat) (R : World → List Value → α → Prop) (w : World) (v : Value) (l : List α) : Prop := ∃ css, OLc B T sz R w v l css
theorem OLc.start {α : Type} (B : Nat) (T : TypeId) (sz : Nat) (R : World → List Value → α → Prop) (w : World) : OLc B T sz R w (.slice none 0 0) [] [] :=
 ⟨rfl, by simp, by simp, World.ownsRow_nil _ _ _ _, fun i cs d h => by simp at h⟩
theorem OLc.push {α : Type} {B : Nat} {T : TypeId} {sz : Nat} {R : World → List Value → α → Prop} {w w3 : World} {o o' : Value} {l : List α} {css : List (List Value)} {d : α} {cs : List Value} (h : OLc B T sz R w o l css) (hx : ∀ cs d, R w cs d → R w3 cs d)
 (ho : w3.ownsRow B T sz o' (l.length + 1) (css.flatten ++ cs)) (hd : R w3 cs d) (hl : cs.length = sz) (hc : ∀ u ∈ cs, u.oneCell' = true) : OLc B T sz R w3 o' (l ++ [d]) (css ++ [cs]) := by
 obtain ⟨h1, h2, h3, h4, h5⟩ := h
 refine ⟨by simp [h1], fun x hx => ?_, fun x hx => ?_, by simpa using ho, fun i ys e hy he => ?_⟩
 ·rcases List.mem_append.1 hx with hx | hx
  ·exact h2 x hx
  ·simp at hx; subst hx; exact hl
 ·rcases List.mem_append.1 hx with hx | hx
  ·exact h3 x hx
  ·simp at hx; subst hx; exact hc
 ·rcases Nat.lt_or_ge i l.length with hi | hi
  ·rw [List.getElem?_append_left (by omega)] at hy he
   exact hx _ _ (h5 i ys e hy he)
  ·rw [List.getElem?_append_right (by omega)] at hy he
   have h0 : i - l.length = 0 := by
    have := (List.getElem?_eq_some_iff.1 he).1; simp at this; omega
   rw [h1, h0] at hy; rw [h0] at he
   simp at hy he; subst hy he; exact hd
theorem OL.kp {α : Type} {Ts : List TypeId} {B : Nat} {T : TypeId} {sz : Nat} {R : World → List Value → α → Prop} {w w' : World} {v : Value} {l : List α} (h : OL B T sz R w v l) (k : Kp Ts w w') (hT : T ∈ Ts) (hR : ∀ cs d, R w cs d → R w' cs d) : OL B T sz R w' v l := by
 obtain ⟨css, h1, h2, h3, h4, h5⟩ := h
 exact ⟨css, h1, h2, h3, own_kp h4 k hT, fun i cs d a b => hR _ _ (h5 i cs d a b)⟩
theorem OL.low {α : Type} {B C : Nat} {T : TypeId} {sz : Nat} {R R' : World → List Value → α → Prop} {w : World} {v : Value} {l : List α} (h : OL B T sz R w v l) (hc : C ≤ B) (hR : ∀ cs d, R w cs d → R' w cs d) : OL C T sz R' w v l := by
 obtain ⟨css, h1, h2, h3, h4, h5⟩ := h
 exact ⟨css, h1, h2, h3, own_base h4 hc, fun i cs d a b => hR _ _ (h5 i cs d a b)⟩
theorem OL.rows {α : Type} {B : Nat} {T : TypeId} {sz : Nat} {R R' : World → List Value → α → Prop} {w : World} {v : Value} {l : List α} (h : OL B T sz R w v l) (hR : ∀ cs d, R w cs d → R' w cs d) : Rows w sz R' v l := by
 obtain ⟨css, h1, h2, h3, h4, h5⟩ := h
 have h9 := h4
 rcases h4.2 with ⟨rfl, h0⟩ | ⟨g, cap, cur, rfl, _, hg, hc, hm, _⟩
 ·exact .inl ⟨rfl, List.eq_nil_of_length_eq_zero h0⟩
 ·refine .inr ⟨⟨g, 0, none⟩, cap, rfl, hc, hm, fun _ => rfl, fun i d hi => ?_⟩
  have hlt := (List.getElem?_eq_some_iff.1 hi).1
  obtain ⟨cs, hcs⟩ : ∃ cs, css[i]? = some cs := ⟨_, gE (by omega)⟩
  refine ⟨cs, h2 cs (List.mem_of_getElem? hcs), hR _ _ (h5 i cs d hcs hi), fun j u hj => ?_⟩
  have h4 := h9.cells (g := g) rfl _ _ (flatten_one h2 hcs hj)
  rw [add_mk] at h4
  rw [Nat.add_assoc]; exact h4
def RT : List TypeId := [151, 209, 118]
def CfT : List TypeId := [68, 3, 63, 151, 209, 118, 61]
abbrev RwsO (B : Nat) (w : World) (v : Value) (rs : List Rw) : Prop := OL B 151 5 (RwO B) w v rs
theorem RwsO.kp {B : Nat} {w w' : World} {v : Value} {rs : List Rw} (h : RwsO B w v rs) (k : Kp RT w w') : RwsO B w' v rs := OL.kp h k (by decide) (fun _ _ h => h.kp (k.sub (by decide)))
theorem RwsO.low {B C : Nat} {w : World} {v : Value} {rs : List Rw} (h : RwsO B w v rs) (hc : C ≤ B) : RwsO C w v rs := OL.low h hc (fun _ _ h => h.low hc)
theorem RwsO.rws {B : Nat} {w : World} {v : Value} {rs : List Rw} (h : RwsO B w v rs) : Rws w v rs := OL.rows h (fun _ _ h => h.rw)
/-- the lists of the first k tables' rows, all apart -/
structure RI (B : Nat) (w : World) (v0 : Value) (k : Nat) (vs : List Value) (rows : List (List Rw)) : Prop where
 r0 : w.ownsRow B 68 1 v0 k vs
 rl : vs.length = k
 r1 : ∀ (i : Nat) (v : Value) (rs : List Rw), vs[i]? = some v → rows[i]? = some rs → RwsO B w v rs
 rj : ∀ (i j : Nat) (v u : Value) (q : Nat), vs[i]? = some v → vs[j]? = some u → v.ownBlock = some q → u.ownBlock = some q → i = j
 ro : ∀ (i : Nat) (v : Value), vs[i]? = some v → ∃ rs, rows[i]? = some rs
theorem RI.start (B : Nat) (w : World) (rows : List (List Rw)) : RI B w (.slice none 0 0) 0 [] rows := ⟨World.ownsRow_nil _ _ _ _, rfl, fun i v rs h => by simp at h, fun i j v u q h => by simp at h, fun i v h => by simp at h⟩
theorem RI.kp {B : Nat} {w w' : World} {v0 : Value} {k : Nat} {vs : List Value} {rows : List (List Rw)} (h : RI B w v0 k vs rows) (hk : Kp CfT w w') : RI B w' v0 k vs rows :=
 ⟨own_kp h.r0 hk (by decide), h.rl, fun i v rs a b => (h.r1 i v rs a b).kp (hk.sub (by decide)), h.rj, h.ro⟩
theorem OL.block {α : Type} {B : Nat} {T : TypeId} {sz : Nat} {R : World → List Value → α → Prop} {w : World} {v : Value} {l : List α} (h : OL B T sz R w v l) {q : Nat} (hq : v.ownBlock = some q) : B ≤ q ∧ q < w.heap.size := by
 obtain ⟨css, _, _, _, h4, _⟩ := h; exact h4.lt q hq
theorem OL.one {α : Type} {B : Nat} {T : TypeId} {sz : Nat} {R : World → List Value → α → Prop} {w : World} {v : Value} {l : List α} (h : OL B T sz R w v l) : ∃ a c, v = .slice a l.length c ∧ l.length ≤ c ∧ c ≤ maxLen := by
 obtain ⟨css, _, _, _, h4, _⟩ := h; exact own_form h4
theorem RI.kpx {Ts : List TypeId} {B : Nat} {w w' : World} {v0 : Value} {k : Nat} {vs : List Value} {rows : List (List Rw)} (h : RI B w v0 k vs rows) (hk : Kp Ts w w') (h1 : 68 ∈ Ts) (h2 : ∀ t ∈ RT, t ∈ Ts) : RI B w' v0 k vs rows :=
 ⟨own_kp h.r0 hk h1, h.rl, fun i v rs a b => (h.r1 i v rs a b).kp (hk.sub h2), h.rj, h.ro⟩
theorem RI.low {B C : Nat} {w : World} {v0 : Value} {k : Nat} {vs : List Value} {rows : List (List Rw)} (h : RI B w v0 k vs rows) (hc : C ≤ B) : RI C w v0 k vs rows :=
 ⟨own_base h.r0 hc, h.rl, fun i v rs a b => (h.r1 i v rs a b).low hc, h.rj, h.ro⟩
theorem RI.push {B : Nat} {w w1 w2 w3 : World} {v0 v0' rv : Value} {k : Nat} {vs : List Value} {rows : List (List Rw)} {rs : List Rw} (h : RI B w v0 k vs rows) (hrs : rows[k]? = some rs) (hB : B ≤ w.heap.size) (hx : Ext w w1) (ho : RwsO w.heap.size w1 rv rs) (h2 : Ext w1 w2) (hg : w2.grownBy w3 v0.ownBlock)
 (hv : w3.ownsRow B 68 1 v0' (k + 1) (vs ++ [rv])) : RI B w3 v0' (k + 1) (vs ++ [rv]) rows := by
 have hk3 : Kp RT w2 w3 := Kp.grown hg (own_ext (own_ext h.r0 hx) h2) (by decide)
 have hk : Kp RT w w3 := (Kp.ext (hx.trans h2)).trans hk3
 have last : ∀ {i : Nat} {v : Value}, (vs ++ [rv])[i]? = some v → (vs[i]? = some v ∧ i < k) ∨ (v = rv ∧ i = k) := by
  intro i v hi
  rcases Nat.lt_or_ge i vs.length with h1 | h1
  ·rw [List.getElem?_append_left h1] at hi; exact .inl ⟨hi, by have := h.rl; omega⟩
  ·have h3 := (List.getElem?_eq_some_iff.1 hi).1
   rw [List.getElem?_append_right h1] at hi
   have h4 := h.rl
   simp at h3
   rw [show i - vs.length = 0 by omega] at hi
   simp at hi
   exact .inr ⟨hi.symm, by omega⟩
 have old : ∀ {i : Nat} {v : Value} {q : Nat}, vs[i]? = some v → v.ownBlock = some q → q < w.heap.size := fun hi hq => by
  obtain ⟨rs, hr⟩ := h.ro _ _ hi
  exact ((h.r1 _ _ rs hi hr).block hq).2
 refine ⟨hv, by simp [h.rl], fun i v r hi hr => ?_, fun i j v u q hi hj hv1 hu => ?_, fun i v hi => ?_⟩
 ·rcases last hi with ⟨h1, _⟩ | ⟨rfl, rfl⟩
  ·exact (h.r1 i v r h1 hr).kp hk
  ·rw [hrs] at hr; simp only [Option.some.injEq] at hr; subst hr
   exact (RwsO.kp ho ((Kp.ext h2).trans hk3)).low hB
 ·rcases last hi with ⟨h1, _⟩ | ⟨rfl, rfl⟩ <;> rcases last hj with ⟨h3, _⟩ | ⟨rfl, rfl⟩
  ·exact h.rj i j v u q h1 h3 hv1 hu
  ·have := old h1 hv1; have := (ho.block hu).1; omega
  ·have := old h3 hu; have := (ho.block hv1).1; omega
  ·rfl
 ·rcases last hi with ⟨h1, _⟩ | ⟨rfl, rfl⟩
  ·exact h.ro i v h1
  ·exact ⟨_, hrs⟩
def RegO (B : Nat) (w : World) (cs : List Value) (l : List Int) : Prop := ∃ a c, cs = [.slice a l.length c] ∧ UOwn B w (.slice a l.length c) l
theorem RegO.kp {B : Nat} {w w' : World} {cs : List Value} {l : List Int} (h : RegO B w cs l) (k : Kp Leaf w w') : RegO B w' cs l := by
 obtain ⟨a, c, h1, h2⟩ := h; exact ⟨a, c, h1, h2.kp k⟩
theorem RegO.ext {B : Nat} {w w' : World} {cs : List Value} {l : List Int} (h : RegO B w cs l) (hx : Ext w w') : RegO B w' cs l := h.kp (Kp.ext hx)
theorem RegO.low {B C : Nat} {w : World} {cs : List Value} {l : List Int} (h : RegO B w cs l) (hc : C ≤ B) : RegO C w cs l := by
 obtain ⟨a, c, h1, h2⟩ := h; exact ⟨a, c, h1, h2.low hc⟩
theorem RegO.row {B : Nat} {w : World} {cs : List Value} {l : List Int} (h : RegO B w cs l) : RowR w cs l := by
 obtain ⟨a, c, h1, h2⟩ := h; exact ⟨_, h1, h2.us.1, h2.2⟩
abbrev ClsO (B : Nat) (w : World) (v : Value) (l : List Call) : Prop := OL B 63 2 (CallO B) w v l
abbrev RgsO (B : Nat) (w : World) (v : Value) (l : List (List Int)) : Prop := OL B 61 1 (RegO B) w v l
def IOwn (B : Nat) (w : World) (v : Value) (l : List Int) : Prop := w.ownsRow B 3 1 v l.length (l.map (.int .i64)) ∧ ∀ x ∈ l, B64 x
/-- a configuration in memory of its own -/
structure CfgO (B : Nat) (w : World) (v0 v1 v2 v3 : Value) (vs : List Value) (C : Cfg) : Prop where
 rows : RI B w v0 C.rows.length vs C.rows
 nx : IOwn B w v1 C.nx
 df : ClsO B w v2 C.df
 rg : RgsO B w v3 C.rg
theorem ClsO.kp {Ts : List TypeId} {B : Nat} {w w' : World} {v : Value} {l : List Call} (h : ClsO B w v l) (k : Kp Ts w w') (h1 : 63 ∈ Ts) (h2 : ∀ t ∈ Leaf, t ∈ Ts) : ClsO B w' v l := OL.kp h k h1 (fun _ _ h => h.kp (k.sub h2))
theorem RgsO.kp {Ts : List TypeId} {B : Nat} {w w' : World} {v : Value} {l : List (List Int)} (h : RgsO B w v l) (k : Kp Ts w w') (h1 : 61 ∈ Ts) (h2 : ∀ t ∈ Leaf, t ∈ Ts) : RgsO B w' v l := OL.kp h k h1 (fun _ _ h => h.kp (k.sub h2))
theorem CfgO.kp {B : Nat} {w w' : World} {v0 v1 v2 v3 : Value} {vs : List Value} {C : Cfg} (h : CfgO B w v0 v1 v2 v3 vs C) (k : Kp CfT w w') : CfgO B w' v0 v1 v2 v3 vs C :=
 ⟨h.rows.kp k, ⟨own_kp h.nx.1 k (by decide), h.nx.2⟩, h.df.kp k (by decide) (by decide), h.rg.kp k (by decide) (by decide)⟩
theorem CfgO.cfg {B : Nat} {w : World} {v0 v1 v2 v3 : Value} {vs : List Value} {C : Cfg} (h : CfgO B w v0 v1 v2 v3 vs C) : CfgV w (.agg #[v0, v1, v2, v3]) C := by
 refine ⟨v0, v1, v2, v3, rfl, ?_, ⟨⟨own_src h.nx.1 (fun u hu => by obtain ⟨x, _, rfl⟩ := List.mem_map.1 hu; rfl), by obtain ⟨a, c, _, h1, h2⟩ := own_form h.nx.1; omega⟩, h.nx.2⟩, OL.rows h.df (fun _ _ h => h.call), OL.rows h.rg (fun _ _ h => h.row)⟩
 have h1 := h.rows
 refine OL.rows (B := B) (T := 68) (R := fun w cs rs => ∃ v, cs = [v] ∧ RwsO B w v rs) ⟨vs.map (fun v => [v]), by simp [h1.rl], by simp, fun x hx u hu => ?_, ?_, fun i cs rs hi hr => ?_⟩ (fun cs rs ⟨v, h1, h2⟩ => ⟨v, h1, h2.rws⟩)
 ·obtain ⟨v, hv, rfl⟩ := List.mem_map.1 hx
  simp at hu; subst hu
  obtain ⟨i, hi⟩ := List.getElem?_of_mem hv
  obtain ⟨rs, hr⟩ := h1.ro i _ hi
  obtain ⟨a, c, e, _⟩ := OL.one (h1.r1 i _ rs hi hr)
  subst e; rfl
 ·rw [show (vs.map (fun v => [v])).flatten = vs by rw [← List.flatMap_def]; simp]; exact h1.r0
 ·rw [List.getElem?_map] at hi
  obtain ⟨v, hv, rfl⟩ := Option.map_eq_some_iff.1 hi
  exact ⟨v, rfl, h1.r1 i v rs hv hr⟩
/-- the sizes of a configuration's lists -/
structure CB (C : Cfg) : Prop where
 r0 : C.rows.length ≤ 1073741824
 r1 : ∀ rs ∈ C.rows, rs.length ≤ 1073741824 ∧ ∀ r ∈ rs, r.e.ks.length ≤ 1073741824 ∧ r.e.cl.ar.length ≤ 1073741824
 nx : C.nx.length ≤ 1073741824
 df : C.df.length ≤ 1073741824
 d1 : ∀ c ∈ C.df, c.ar.length ≤ 1073741824
 rg : C.rg.length ≤ 1073741824
 g1 : ∀ l ∈ C.rg, l.length ≤ 1073741824
end Tj
theorem cinf_Row : (Tryz.prog.info? 151).map (fun i => (i.zero, i.size, i.bytes)) = some (some (.agg (Yq18 )), 5, 72) := by kernel_rfl
theorem cinf_Rows : (Tryz.prog.info? 68).map (fun i => (i.zero, i.size, i.bytes)) = some (some (.slice none 0 0), 1, 24) := by kernel_rfl
theorem cinf_Call : (Tryz.prog.info? 63).map (fun i => (i.zero, i.size, i.bytes)) = some (some (.agg #[.int .i64 0, .slice none 0 0]), 2, 32) := by kernel_rfl
theorem cinf_Regs : (Tryz.prog.info? 61).map (fun i => (i.zero, i.size, i.bytes)) = some (some (.slice none 0 0), 1, 24) := by kernel_rfl
theorem src_at {w : World} {g : Nat} {cs : List Value} {t : TypeId} (h : w.heap[g]? = some (.cells cs.toArray t (0, 0))) (h1 : ∀ u ∈ cs, u.oneCell' = true) : Src w (.slice (some ⟨g, 0, none⟩) 1 1) cs.length 1 cs :=
 ⟨by simp, h1, .inr ⟨_, _, rfl, fun j u hj => by rw [add_mk, Nat.zero_add, cell_of h]; simpa using hj⟩⟩
theorem take_succ_get {α : Type} {l : List α} {k : Nat} {x : α} (h : l[k]? = some x) : l.take (k + 1) = l.take k ++ [x] := by rw [List.take_add_one, h]; rfl
abbrev Yq5  : Array Value := #[.slice none 0 0, .slice none 0 0, .slice none 0 0, .slice none 0 0]
theorem cconfig_any {W : World} {v : Value} {C : Tj.Cfg} (h : Tj.CfgV W v C) (hb : Tj.CB C) : Calls Tryz.prog 62 #[v] W (fun e w' => ∃ v0 v1 v2 v3 vs, e = .returned (.agg #[v0, v1, v2, v3]) ∧ Ext W w' ∧ Tj.CfgO W.heap.size w' v0 v1 v2 v3 vs C) := by
 obtain ⟨r0, c0, r1, c1, r2, c2, r3, c3, rfl, h0, h1, h2, h3⟩ := h.form
 have HCN := Lh (fun (w : World) (hx : Ext W w) => clone_int (h1.1.1.ext hx) hb.nx)
 have HB := Lh hb
 have H0 := Lh h0
 have H2 := Lh h2
 have H3 := Lh h3
 have HI := Lh h1.2
 have hr0 := hb.r0
 have hdf := hb.df
 have hrg := hb.rg
 clear h h0 h1 h2 h3 hb
 have bx := aH W (.cells (Yq7 r0 c0 C r1 c1 r2 c2 r3 c3) 45)
 have k0 := alw (cQ 0 bx)
 have k1 := alw (cQ 1 bx)
 have k2 := alw (cQ 2 bx)
 have k3 := alw (cQ 3 bx)
 clear bx
 have bx := aH (W.alloc (.cells (Yq7 r0 c0 C r1 c1 r2 c2 r3 c3) 45)) (.cells (Yq5 ) 45)
 rw [szA] at bx
 have z0 := alw (cQ 0 bx)
 have z1 := alw (cQ 1 bx)
 have z2 := alw (cQ 2 bx)
 have z3 := alw (cQ 3 bx)
 clear bx
 go_enter Tryz.func62, Tryz.ntmps62
 go_wp2_with fail
 refine (HCN.out _ grows).mono ?_
 rintro e w3 ⟨v1, rfl, x3, own1⟩
 have s3 := Sm x3
 have hle3 := x3.le
 simp only [szA] at hle3
 obtain ⟨ua1, uc1, rfl, _⟩ := own_form own1
 have HN1 : Hid (Tj.IOwn W.heap.size w3 (.slice ua1 C.nx.length uc1) C.nx) := Lh ⟨own_base own1 (by simp; omega), HI.out⟩
 clear own1 x3
 go_wp2_with fail
 go_loopw [20] (fun q wr => ∃ k : Nat, k ≤ C.rows.length ∧ q = .int .i64 k ∧ ∃ v0 va vc, v0 = .slice va k vc ∧ Hid (Ext w3 wr ∧ wr.heap[w3.heap.size]? = some (.cells #[v0, .slice ua1 C.nx.length uc1, .slice none 0 0, .slice none 0 0] 45 (0, 0)) ∧ ∃ vs, Tj.RI w3.heap.size wr v0 k vs C.rows)) (fun q _ => C.rows.length - (intOf q).toNat)
 case atStart => exact ⟨0, Nat.zero_le _, rfl, .slice none 0 0, none, 0, rfl, Lh ⟨grows, aH _ _, _, Tj.RI.start _ _ _⟩⟩
 case round =>
  obtain ⟨k, hk, rfl, v0, va, vc, rfl, HZ⟩ := hrel
  obtain ⟨xr, hbd, vs, hri⟩ := HZ.out
  have HBD := Lh hbd
  have HRI := Lh hri
  have XR := Lh xr
  have sx := Sm xr
  clear xr hbd hri HZ
  by_cases hlt : k < C.rows.length
  ·obtain ⟨rs, hx⟩ : ∃ x, C.rows[k]? = some x := ⟨_, gE hlt⟩
   obtain ⟨b, o, rfl, _, _⟩ := Rows.at H0.out (by omega)
   obtain ⟨ra, rcc, hrws, g0⟩ := crows_at H0.out k rs hx rfl
   have y9 := alw g0
   have HRS := Lh hrws
   have HRX := Lh hx
   have HBR := Lh (HB.out.r1 rs (List.mem_of_getElem? hx))
   have hrl : rs.length ≤ 1073741824 := HBR.out.1
   clear hrws g0 hx
   obtain ⟨wo, hwo⟩ : ∃ z : World, z = wr := ⟨_, rfl⟩
   subst hwo
   go_wp2_with fail
   go_loopw [6, 26] (fun o q wr => ∃ k2 : Nat, k2 ≤ rs.length ∧ q = .int .i64 k2 ∧ ∃ oo co, o = .slice oo k2 co ∧ Hid (Ext wo wr ∧ ∃ css, Tj.OLc wo.heap.size 151 5 (Tj.RwO wo.heap.size) wr o (rs.take k2) css)) (fun _ q _ => rs.length - (intOf q).toNat)
   case atStart => exact ⟨0, Nat.zero_le _, rfl, _, _, rfl, Lh ⟨eR _, _, Tj.OLc.start _ _ _ _ _⟩⟩
   case round =>
    obtain ⟨k2, hk2, rfl, oo, co, rfl, HZI⟩ := hrel
    obtain ⟨xi, css, hol0⟩ := HZI.out
    have HOL := Lh hol0
    have XI := Lh xi
    have si := Sm xi
    clear hol0 xi HZI
    by_cases hlt2 : k2 < rs.length
    ·obtain ⟨r, hx2⟩ : ∃ x, rs[k2]? = some x := ⟨_, gE hlt2⟩
     obtain ⟨ob, oo2, rfl, _, hat⟩ := Rows.at HRS.out (by omega)
     obtain ⟨cs, _, hR, hc⟩ := hat k2 r hx2
     have HMR := Lh (List.mem_of_getElem? hx2)
     have HCR := Lh (fun (w : World) (hw : Ext W w) => crow_own (hR.ext hw) (HBR.out.2 r HMR.out))
     obtain ⟨es, rfl, _, ka, kc, ga, gc, rfl, _, _, _⟩ := hR
     have t0 := hc 0 _ rfl
     rw [Nat.add_zero] at t0
     have y0 := alw t0
     clear t0
     have t1 := hc 1 _ rfl
     have y1 := alw t1
     clear t1
     have t2 := hc 2 _ rfl
     have y2 := alw t2
     clear t2
     have t3 := hc 3 _ rfl
     have y3 := alw t3
     clear t3
     have t4 := hc 4 _ rfl
     have y4 := alw t4
     clear t4
     have HTK := Lh (take_succ_get hx2)
     clear hc hat hx2
     have hsz := XI.out.le
     have bx := aH wr (.cells (Yq15 r ka kc ga gc) 151)
     have m0 := alw (cQ 0 bx)
     have m1 := alw (cQ 1 bx)
     have m2 := alw (cQ 2 bx)
     have m3 := alw (cQ 3 bx)
     have m4 := alw (cQ 4 bx)
     clear bx
     go_wp2_with fail
     refine (HCR.out _ grows).mono ?_
     rintro e w7 ⟨cs2, rfl, x7, hown7⟩
     have HOW := Lh (Tj.RwO.low hown7 (C := wo.heap.size) (by simp only [szA]; omega))
     obtain ⟨es, rfl, _, pa, pc, qa, qc, rfl, _, _, _⟩ := hown7
     have s7 := Sm x7
     have hle7 := x7.le
     simp only [szA] at hle7
     have HS1 := Lh (src_agg w7 [.int .i64 r.id, .slice pa r.e.ks.length pc, .int .i64 r.e.pr, .int .i64 r.e.cl.a, .slice qa r.e.cl.ar.length qc] 151 (by simp [Value.oneCell']))
     have hl2 : (rs.take k2).length = k2 := by rw [List.length_take]; omega
     have ho1 := own_now HOL.out.2.2.2.1 (w := (w7.alloc (.cells #[.int .i64 r.id, .slice pa r.e.ks.length pc, .int .i64 r.e.pr, .int .i64 r.e.cl.a, .slice qa r.e.cl.ar.length qc] 151)))
     rw [hl2] at ho1
     have HO1 := Lh ho1
     clear ho1 hl2
     go_wp2_with (at_builtin; refine wpList_append_fresh rfl (.tmp 30) (.tmp 33) 68 rfl wo.heap.size 151 (.agg (Yq18 )) 5 72 Tryz.underlying68 cinf_Row rfl (by decide) (.slice oo k2 co) (k2) (css.flatten) rfl HO1.out _ 1 [.int .i64 r.id, .slice pa r.e.ks.length pc, .int .i64 r.e.pr, .int .i64 r.e.cl.a, .slice qa r.e.cl.ar.length qc] rfl HS1.out ?d1 ?d2 ?d3 ?_)
     case d1 => unfold maxLen; omega
     case d2 => omega
     case d3 => (try simp only [szA]); omega
     intro v' w' hown hgr hfr
     obtain ⟨o3, c3, rfl⟩ := own_slice hown
     have hk8 : Kp Tj.Leaf w7 w' := (Kp.ext (grows (a := w7) (b := (w7.alloc (.cells #[.int .i64 r.id, .slice pa r.e.ks.length pc, .int .i64 r.e.pr, .int .i64 r.e.cl.a, .slice qa r.e.cl.ar.length qc] 151))))).trans (Kp.grown hgr HO1.out (by decide))
     have hkp : Kp Tj.Leaf wr w' := (Kp.ext (grows (a := wr) (b := w7))).trans hk8
     have HN := Lh (Tj.OLc.push HOL.out (fun _ _ h => h.kp hkp) (by rw [List.length_take, Nat.min_eq_left hk2]; exact hown) (HOW.out.kp hk8) rfl (by simp [Value.oneCell']))
     have HXN := Lh ((XI.out.trans (grows (a := wr) (b := (w7.alloc (.cells #[.int .i64 r.id, .slice pa r.e.ks.length pc, .int .i64 r.e.pr, .int .i64 r.e.cl.a, .slice qa r.e.cl.ar.length qc] 151))))).mod (grown_mod hgr) (fun q hq => row_ge HO1.out hq.symm))
     clear hgr hown hfr hkp hk8
     go_wp2_with fail
     go_roundw
     case rel => exact ⟨k2 + 1, by omega, by go_num, o3, c3, rfl, Lh ⟨HXN.out, _, by rw [HTK.out]; exact HN.out⟩⟩
     case measure => simp [intOf]; omega
    ·obtain rfl : k2 = rs.length := by omega
     have hol := HOL.out
     rw [List.take_length] at hol
     have HRW : Hid (Tj.RwsO wo.heap.size wr (.slice oo rs.length co) rs) := Lh ⟨css, hol⟩
     clear hol HOL
     have hle8 := XI.out.le
     have hle9 := XR.out.le
     have HS2 := Lh (src_one wr (.slice oo rs.length co) 68 rfl)
     have HO2 := Lh (own_now HRI.out.r0 (w := (wr.alloc (.cells #[.slice oo rs.length co] 68))))
     have z0 := cQ 0 HBD.out
     have z0 := alw z0
     go_wp2_with (at_builtin; refine wpList_append_fresh rfl (.tmp 37) (.tmp 39) 41 rfl w3.heap.size 68 (.slice none 0 0) 1 24 Tryz.underlying41 cinf_Rows rfl (by decide) (.slice va k vc) (k) (vs) rfl HO2.out _ 1 [.slice oo rs.length co] rfl HS2.out ?d1 ?d2 ?d3 ?_)
     case d1 => unfold maxLen; omega
     case d2 => omega
     case d3 => (try simp only [szA]); omega
     intro v' w' hown hgr hfr
     obtain ⟨o3, c3, rfl⟩ := own_slice hown
     have hb8 := grown_at hgr HO2.out ((grows (a := wo) (b := (wr.alloc (.cells #[.slice oo rs.length co] 68)))).heap HBD.out) (by decide)
     have HN := Lh (Tj.RI.push HRI.out HRX.out (by omega) XI.out HRW.out (grows (a := wr) (b := (wr.alloc (.cells #[.slice oo rs.length co] 68)))) hgr hown)
     have HX8 := Lh ((XR.out.trans (grows (a := wo) (b := (wr.alloc (.cells #[.slice oo rs.length co] 68))))).mod (grown_mod hgr) (fun q hq => row_ge HO2.out hq.symm))
     have HB8 := Lh hb8
     have c80 := cQ 0 hb8
     have f80 := free_of (o := 0) hb8
     clear hgr hown hfr hb8
     go_wp2_with fail
     go_roundw
     case rel => exact ⟨k + 1, by omega, by go_num, .slice o3 (k + 1) c3, o3, c3, rfl, Lh ⟨HX8.out.setCell (Nat.le_refl _) _, setCell_heap HB8.out, _, HN.out.kp (Kp.box (Mod.setCell (S := fun k => k = w3.heap.size) (p := ⟨w3.heap.size, 0, none⟩) (Mod.refl _ _) (.inl rfl) _) HB8.out (by decide))⟩⟩
     case measure => simp [intOf]; omega
  ·obtain rfl : k = C.rows.length := by omega
   obtain ⟨wA, hwA⟩ : ∃ z : World, z = wr := ⟨_, rfl⟩
   have XA2 : Hid (Ext w3 wA) := Lh (by rw [hwA]; exact XR.out)
   have HA2 : Hid (wA.heap[w3.heap.size]? = some (.cells #[.slice va C.rows.length vc, .slice ua1 C.nx.length uc1, .slice none 0 0, .slice none 0 0] 45 (0, 0))) := Lh (by rw [hwA]; exact HBD.out)
   have HRA : Hid (Tj.RI w3.heap.size wA (.slice va C.rows.length vc) C.rows.length vs C.rows) := Lh (by rw [hwA]; exact HRI.out)
   subst hwA
   clear HBD HRI XR
   go_wp2_with fail
   go_loopw [46] (fun q wr => ∃ k : Nat, k ≤ C.df.length ∧ q = .int .i64 k ∧ ∃ v0 vq vp, v0 = .slice vq k vp ∧ Hid (Ext w3 wr ∧ wr.heap[w3.heap.size]? = some (.cells #[.slice va C.rows.length vc, .slice ua1 C.nx.length uc1, v0, .slice none 0 0] 45 (0, 0)) ∧ Kp [68, 3, 151, 209, 118, 61] wA wr ∧ ∃ css, Tj.OLc w3.heap.size 63 2 (Tj.CallO w3.heap.size) wr v0 (C.df.take k) css)) (fun q _ => C.df.length - (intOf q).toNat)
   case atStart => exact ⟨0, Nat.zero_le _, rfl, .slice none 0 0, none, 0, rfl, Lh ⟨XA2.out, HA2.out, Kp.refl _ _, _, Tj.OLc.start _ _ _ _ _⟩⟩
   case round =>
    obtain ⟨k, hk, rfl, v0, va2, vc2, rfl, HZ⟩ := hrel
    obtain ⟨xr, hbd, hkeep, css, hol⟩ := HZ.out
    have HBD := Lh hbd
    have HOL := Lh hol
    have XR := Lh xr
    have HKP := Lh hkeep
    have sx := Sm xr
    clear xr hbd hol HZ hkeep
    by_cases hlt : k < C.df.length
    ·obtain ⟨x, hx⟩ : ∃ x, C.df[k]? = some x := ⟨_, gE hlt⟩
     obtain ⟨b, o, rfl, _, hat⟩ := Rows.at H2.out (by omega)
     obtain ⟨cs, _, hR, hc⟩ := hat k x hx
     have HMR := Lh (List.mem_of_getElem? hx)
     have HCR := Lh (fun (w : World) (hw : Ext W w) => ccall_own (hR.ext hw) (HB.out.d1 x HMR.out))
     obtain ⟨av, rfl, _, hu⟩ := hR
     obtain ⟨ga, gc, rfl⟩ := ns_slice hu.1
     clear hu
     have t0 := hc 0 _ rfl
     rw [Nat.add_zero] at t0
     have y0 := alw t0
     clear t0
     have t1 := hc 1 _ rfl
     have y1 := alw t1
     clear t1
     have HTK := Lh (take_succ_get hx)
     have hsz := XR.out.le
     have hd2 := cQ 2 HBD.out
     have hd2 := alw hd2
     clear hc hat hx
     have bx := aH wr (.cells #[.int .i64 x.a, .slice ga x.ar.length gc] 63)
     have m0 := alw (cQ 0 bx)
     have m1 := alw (cQ 1 bx)
     clear bx
     go_wp2_with fail
     refine Rel.region_tail (W := (wr.alloc (.cells #[.int .i64 x.a, .slice ga x.ar.length gc] 63))) 5 (Rel.tab [(3, fun v w => ∃ cs : List Value, v = .agg cs.toArray ∧ Tj.CallO (wr.alloc (.cells #[.int .i64 x.a, .slice ga x.ar.length gc] 63)).heap.size w cs x), (4, fun v w => ∃ (g : Nat) (cs : List Value), v = .slice (some ⟨g, 0, none⟩) 1 1 ∧ w.heap[g]? = some (.cells cs.toArray 63 (0, 0)) ∧ Tj.CallO (wr.alloc (.cells #[.int .i64 x.a, .slice ga x.ar.length gc] 63)).heap.size w cs x)]) (Rel.tab_lasts (by intro p hp v w w' hr hx; simp only [List.mem_cons, List.not_mem_nil, or_false] at hp; rcases hp with rfl | rfl; (· obtain ⟨cs, h1, h2⟩ := hr; exact ⟨cs, h1, h2.ext hx⟩); (· obtain ⟨g, cs, h1, h2, h3⟩ := hr; exact ⟨g, cs, h1, hx.heap h2, h3.ext hx⟩))) (by kernel_rfl) (by kernel_rfl) (eR _) ?_
     simp only [tkS, tkZ]
     refine Rel.chunkT 3 rfl rfl rfl ?_
     simp only [tkS, tkZ, dpS, dpZ, Nat.reduceAdd]
     repeat (go_big_quiet_step (fail))
     refine wpQuiet_nil ?_
     refine Rel.callG _ rfl rfl rfl Tryz.func59 (by nofun) (by decide) #[.agg #[.int .i64 x.a, .slice ga x.ar.length gc]] rfl (fun w hx _ => by refine (HCR.out w ((grows (a := W) (b := (wr.alloc (.cells #[.int .i64 x.a, .slice ga x.ar.length gc] 63)))).trans hx)).mono ?_; rintro e w9 ⟨cs, h1, h2, h3⟩; exact ⟨_, h1, h2, cs, rfl, h3.low hx.le⟩) ?_
     intro u3 v3 _ _ r3
     obtain ⟨cs3, rfl, ua, uc, rfl, _, _⟩ := r3
     simp only [Act.put, stA, stS, stZ]
     refine Rel.call (fun v w => ∃ (g : Nat) (cs : List Value), v = .slice (some ⟨g, 0, none⟩) 1 1 ∧ w.heap[g]? = some (.cells cs.toArray 63 (0, 0)) ∧ Tj.CallO (wr.alloc (.cells #[.int .i64 x.a, .slice ga x.ar.length gc] 63)).heap.size w cs x) rfl rfl rfl (fun w hx hf => Rel.made (v := .slice (some ⟨w.heap.size, 0, none⟩) 1 1) (ob := .cells #[.int .i64 x.a, .slice ua x.ar.length uc] 63 (0, 0)) (by kernel_rfl) (by obtain ⟨cs, h1, h2⟩ := (hf 3 (by kernel_rfl)).2 rfl; exact ⟨w.heap.size, cs, rfl, by rw [← agg_inj h1]; exact heap_alloc_new w _, h2.ext ((eR w).alloc _)⟩)) ?_
     intro u4 v4 _ _ r4
     obtain ⟨g4, cs4, rfl, _, h4⟩ := r4
     clear h4
     simp only [Act.put, stA, stS, stZ]
     refine Rel.fin ?_
     intro w7 x7 hf7
     obtain ⟨g4', cs5, e4, hg4, ho4⟩ := (hf7 4).2 rfl
     simp only [Value.slice.injEq, Option.some.injEq, Addr.mk.injEq, and_true] at e4
     subst e4
     have HO4 := Lh (ho4.low (C := w3.heap.size) (by (try simp only [szA]); omega))
     obtain ⟨a5, c5, rfl, _, _⟩ := ho4
     have HG4 := Lh hg4
     have s7 := Sm x7
     have X7 := Lh (grows (a := wr) (b := w7))
     have HBD7 := Lh (X7.out.heap HBD.out)
     have hle7 := X7.out.le
     clear hf7 hg4 x7
     have HS1 := Lh (src_at HG4.out (by simp [Value.oneCell']))
     have hl2 : (C.df.take k).length = k := by rw [List.length_take]; omega
     have ho1 := own_now HOL.out.2.2.2.1 (w := w7)
     rw [hl2] at ho1
     have HO1 := Lh ho1
     clear ho1 hl2
     go_wp2_with (at_builtin; refine wpList_append_fresh rfl (.tmp 51) (.tmp 54) 42 rfl w3.heap.size 63 (.agg #[.int .i64 0, .slice none 0 0]) 2 32 Tryz.underlying42 cinf_Call rfl (by decide) (.slice va2 k vc2) (k) (css.flatten) rfl HO1.out _ 1 [.int .i64 x.a, .slice a5 x.ar.length c5] rfl HS1.out ?d1 ?d2 ?d3 ?_)
     case d1 => unfold maxLen; omega
     case d2 => omega
     case d3 => (try simp only [szA]); omega
     intro v' w' hown hgr hfr
     obtain ⟨o3, c3, rfl⟩ := own_slice hown
     have hk8 : Kp Tj.Leaf w7 w' := Kp.grown hgr HO1.out (by decide)
     have hkp : Kp Tj.Leaf wr w' := (Kp.ext X7.out).trans hk8
     have hb8 := grown_at hgr HO1.out HBD7.out (by decide)
     have HN := Lh (Tj.OLc.push HOL.out (fun _ _ h => h.kp hkp) (by rw [List.length_take, Nat.min_eq_left hk]; exact hown) (HO4.out.kp hk8) rfl (by simp [Value.oneCell']))
     have HX8 := Lh ((XR.out.trans X7.out).mod (grown_mod hgr) (fun q hq => row_ge HO1.out hq.symm))
     have HKC : Hid (Kp [68, 3, 151, 209, 118, 61] wA w') := Lh (HKP.out.trans ((Kp.ext X7.out).trans (Kp.grown hgr HO1.out (by decide))))
     have HB8 := Lh hb8
     have c80 := cQ 2 hb8
     have f80 := free_of (o := 2) hb8
     clear hgr hown hfr hb8 hkp hk8
     go_wp2_with fail
     go_roundw
     case rel =>
      have hkb : Kp Tj.CfT w' (w'.setCell ⟨w3.heap.size, 2, none⟩ (.slice o3 (k + 1) c3)) := Kp.box (Mod.setCell (S := fun k => k = w3.heap.size) (p := ⟨w3.heap.size, 2, none⟩) (Mod.refl _ _) (.inl rfl) _) HB8.out (by decide)
      refine ⟨k + 1, by omega, by go_num, .slice o3 (k + 1) c3, o3, c3, rfl, Lh ⟨HX8.out.setCell (Nat.le_refl _) _, setCell_heap HB8.out, HKC.out.trans (hkb.sub (by decide)), css ++ [[.int .i64 x.a, .slice a5 x.ar.length c5]], ?_⟩⟩
      rw [HTK.out]
      obtain ⟨a1, a2, a3, a4, a5⟩ := HN.out
      exact ⟨a1, a2, a3, own_kp a4 hkb (by decide), fun i cs d p q => (a5 i cs d p q).kp (hkb.sub (by decide))⟩
     case measure => simp [intOf]; omega
    ·obtain rfl : k = C.df.length := by omega
     have hol := HOL.out
     rw [List.take_length] at hol
     have HRS2 := Lh (⟨css, hol⟩ : Tj.OL w3.heap.size 63 2 (Tj.CallO w3.heap.size) wr (.slice va2 C.df.length vc2) C.df)
     clear hol HOL
     obtain ⟨w2e, hw2e⟩ : ∃ z : World, z = wr := ⟨_, rfl⟩
     have XA3 : Hid (Ext w3 w2e) := Lh (by rw [hw2e]; exact XR.out)
     have HA3 : Hid (w2e.heap[w3.heap.size]? = some (.cells #[.slice va C.rows.length vc, .slice ua1 C.nx.length uc1, .slice va2 C.df.length vc2, .slice none 0 0] 45 (0, 0))) := Lh (by rw [hw2e]; exact HBD.out)
     have HK2 : Hid (Kp [68, 3, 151, 209, 118, 61] wA w2e) := Lh (by rw [hw2e]; exact HKP.out)
     subst hw2e
     clear HBD HKP XR
     go_wp2_with fail
     go_loopw [61] (fun q wr => ∃ k : Nat, k ≤ C.rg.length ∧ q = .int .i64 k ∧ ∃ v0 vq vp, v0 = .slice vq k vp ∧ Hid (Ext w3 wr ∧ wr.heap[w3.heap.size]? = some (.cells #[.slice va C.rows.length vc, .slice ua1 C.nx.length uc1, .slice va2 C.df.length vc2, v0] 45 (0, 0)) ∧ Kp [68, 3, 151, 209, 118, 63] w2e wr ∧ ∃ css, Tj.OLc w3.heap.size 61 1 (Tj.RegO w3.heap.size) wr v0 (C.rg.take k) css)) (fun q _ => C.rg.length - (intOf q).toNat)
     case atStart => exact ⟨0, Nat.zero_le _, rfl, .slice none 0 0, none, 0, rfl, Lh ⟨XA3.out, HA3.out, Kp.refl _ _, _, Tj.OLc.start _ _ _ _ _⟩⟩
     case round =>
      obtain ⟨k, hk, rfl, v0, va3, vc3, rfl, HZ⟩ := hrel
      obtain ⟨xr, hbd, hkeep, css, hol⟩ := HZ.out
      have HBD := Lh hbd
      have HOL := Lh hol
      have XR := Lh xr
      have HKP := Lh hkeep
      have sx := Sm xr
      clear xr hbd hol HZ hkeep
      by_cases hlt : k < C.rg.length
      ·obtain ⟨x, hx⟩ : ∃ x, C.rg[k]? = some x := ⟨_, gE hlt⟩
       obtain ⟨b, o, rfl, _, hat⟩ := Rows.at H3.out (by omega)
       obtain ⟨cs, _, hR, hc⟩ := hat k x hx
       have HMR := Lh (List.mem_of_getElem? hx)
       obtain ⟨rv, rfl, hu, hu2⟩ := hR
       have HCR := Lh (fun (w : World) (hw : Ext W w) => cl_uown (Tj.Us.ext ⟨hu, hu2⟩ hw) (HB.out.g1 x HMR.out))
       obtain ⟨ga, gc, rfl⟩ := ns_slice hu
       clear hu hu2
       have t0 := hc 0 _ rfl
       rw [Nat.mul_one, Nat.add_zero] at t0
       have y0 := alw t0
       clear t0
       have HTK := Lh (take_succ_get hx)
       have hsz := XR.out.le
       have hd3 := cQ 3 HBD.out
       have hd3 := alw hd3
       clear hc hat hx
       go_wp2_with fail
       refine Rel.region_tail (W := wr) 5 (Rel.tab [(3, fun v w => ∃ cs : List Value, Value.agg #[v] = .agg cs.toArray ∧ Tj.RegO wr.heap.size w cs x), (4, fun v w => ∃ (g : Nat) (cs : List Value), v = .slice (some ⟨g, 0, none⟩) 1 1 ∧ w.heap[g]? = some (.cells cs.toArray 61 (0, 0)) ∧ Tj.RegO wr.heap.size w cs x)]) (Rel.tab_lasts (by intro p hp v w w' hr hx; simp only [List.mem_cons, List.not_mem_nil, or_false] at hp; rcases hp with rfl | rfl; (· obtain ⟨cs, h1, h2⟩ := hr; exact ⟨cs, h1, h2.ext hx⟩); (· obtain ⟨g, cs, h1, h2, h3⟩ := hr; exact ⟨g, cs, h1, hx.heap h2, h3.ext hx⟩))) (by kernel_rfl) (by kernel_rfl) (eR _) ?_
       simp only [tkS, tkZ]
       refine Rel.chunkT 3 rfl rfl rfl ?_
       simp only [tkS, tkZ, dpS, dpZ, Nat.reduceAdd]
       repeat (go_big_quiet_step (fail))
       refine wpQuiet_nil ?_
       refine Rel.callG _ rfl rfl rfl Tryz.func101 (by nofun) (by decide) #[.slice ga x.length gc] rfl (fun w hx _ => by refine (HCR.out w ((grows (a := W) (b := wr)).trans hx)).mono ?_; rintro e w9 ⟨v, h1, h2, h3⟩; obtain ⟨a, c, rfl, _⟩ := own_form h3.1; exact ⟨_, h1, h2, _, rfl, _, _, rfl, h3.low hx.le⟩) ?_
       intro u3 v3 _ _ r3
       obtain ⟨cs3, e3, ua, uc, e33, _⟩ := r3
       subst e33
       obtain rfl := (List.cons.inj (agg_inj e3)).1
       clear e3
       simp only [Act.put, stA, stS, stZ]
       refine Rel.call (fun v w => ∃ (g : Nat) (cs : List Value), v = .slice (some ⟨g, 0, none⟩) 1 1 ∧ w.heap[g]? = some (.cells cs.toArray 61 (0, 0)) ∧ Tj.RegO wr.heap.size w cs x) rfl rfl rfl (fun w hx hf => Rel.made (v := .slice (some ⟨w.heap.size, 0, none⟩) 1 1) (ob := .cells #[.slice ua x.length uc] 61 (0, 0)) (by kernel_rfl) (by obtain ⟨cs, h1, h2⟩ := (hf 3 (by kernel_rfl)).2 rfl; exact ⟨w.heap.size, cs, rfl, by rw [← agg_inj h1]; exact heap_alloc_new w _, h2.ext ((eR w).alloc _)⟩)) ?_
       intro u4 v4 _ _ r4
       obtain ⟨g4, cs4, rfl, _, h4⟩ := r4
       clear h4
       simp only [Act.put, stA, stS, stZ]
       refine Rel.fin ?_
       intro w7 x7 hf7
       obtain ⟨g4', cs5, e4, hg4, ho4⟩ := (hf7 4).2 rfl
       simp only [Value.slice.injEq, Option.some.injEq, Addr.mk.injEq, and_true] at e4
       subst e4
       have HO4 := Lh (ho4.low (C := w3.heap.size) (by (try simp only [szA]); omega))
       obtain ⟨a5, c5, rfl, _⟩ := ho4
       have HG4 := Lh hg4
       have s7 := Sm x7
       have X7 := Lh (grows (a := wr) (b := w7))
       have HBD7 := Lh (X7.out.heap HBD.out)
       have hle7 := X7.out.le
       clear hf7 hg4 x7
       have HS1 := Lh (src_at HG4.out (by simp [Value.oneCell']))
       have hl2 : (C.rg.take k).length = k := by rw [List.length_take]; omega
       have ho1 := own_now HOL.out.2.2.2.1 (w := w7)
       rw [hl2] at ho1
       have HO1 := Lh ho1
       clear ho1 hl2
       go_wp2_with (at_builtin; refine wpList_append_fresh rfl (.tmp 66) (.tmp 69) 43 rfl w3.heap.size 61 (.slice none 0 0) 1 24 Tryz.underlying43 cinf_Regs rfl (by decide) (.slice va3 k vc3) (k) (css.flatten) rfl HO1.out _ 1 [.slice a5 x.length c5] rfl HS1.out ?d1 ?d2 ?d3 ?_)
       case d1 => unfold maxLen; omega
       case d2 => omega
       case d3 => (try simp only [szA]); omega
       intro v' w' hown hgr hfr
       obtain ⟨o3, c3, rfl⟩ := own_slice hown
       have hk8 : Kp Tj.Leaf w7 w' := Kp.grown hgr HO1.out (by decide)
       have hkp : Kp Tj.Leaf wr w' := (Kp.ext X7.out).trans hk8
       have hb8 := grown_at hgr HO1.out HBD7.out (by decide)
       have HN := Lh (Tj.OLc.push HOL.out (fun _ _ h => h.kp hkp) (by rw [List.length_take, Nat.min_eq_left hk]; exact hown) (HO4.out.kp hk8) rfl (by simp [Value.oneCell']))
       have HX8 := Lh ((XR.out.trans X7.out).mod (grown_mod hgr) (fun q hq => row_ge HO1.out hq.symm))
       have HKC : Hid (Kp [68, 3, 151, 209, 118, 63] w2e w') := Lh (HKP.out.trans ((Kp.ext X7.out).trans (Kp.grown hgr HO1.out (by decide))))
       have HB8 := Lh hb8
       have c80 := cQ 3 hb8
       have f80 := free_of (o := 3) hb8
       clear hgr hown hfr hb8 hkp hk8
       go_wp2_with fail
       go_roundw
       case rel =>
        have hkb : Kp Tj.CfT w' (w'.setCell ⟨w3.heap.size, 3, none⟩ (.slice o3 (k + 1) c3)) := Kp.box (Mod.setCell (S := fun k => k = w3.heap.size) (p := ⟨w3.heap.size, 3, none⟩) (Mod.refl _ _) (.inl rfl) _) HB8.out (by decide)
        refine ⟨k + 1, by omega, by go_num, .slice o3 (k + 1) c3, o3, c3, rfl, Lh ⟨HX8.out.setCell (Nat.le_refl _) _, setCell_heap HB8.out, HKC.out.trans (hkb.sub (by decide)), css ++ [[.slice a5 x.length c5]], ?_⟩⟩
        rw [HTK.out]
        obtain ⟨a1, a2, a3, a4, a5⟩ := HN.out
        exact ⟨a1, a2, a3, own_kp a4 hkb (by decide), fun i cs d p q => (a5 i cs d p q).kp (hkb.sub (by decide))⟩
       case measure => simp [intOf]; omega
      ·obtain rfl : k = C.rg.length := by omega
       have hol := HOL.out
       rw [List.take_length] at hol
       have HRS3 := Lh (⟨css, hol⟩ : Tj.OL w3.heap.size 61 1 (Tj.RegO w3.heap.size) wr (.slice va3 C.rg.length vc3) C.rg)
       clear hol HOL
       have hrq := alwB (aH (W.alloc (.cells (Yq7 r0 c0 C r1 c1 r2 c2 r3 c3) 45)) (.cells (Yq5 ) 45)) wr
       rw [szA] at hrq
       have HRQ := Lh hrq
       have hle0 := XR.out.le
       have HVQ : Hid (Tj.CfgO W.heap.size wr (.slice va C.rows.length vc) (.slice ua1 C.nx.length uc1) (.slice va2 C.df.length vc2) (.slice va3 C.rg.length vc3) vs C) := Lh ⟨((HRA.out.kpx HK2.out (by decide) (by decide)).kpx HKP.out (by decide) (by decide)).low (by omega), ⟨own_now HN1.out.1 (w := wr), HN1.out.2⟩, Tj.OL.low (Tj.ClsO.kp HRS2.out HKP.out (by decide) (by decide)) (by omega) (fun _ _ h => h.low (by omega)), Tj.OL.low HRS3.out (by omega) (fun _ _ h => h.low (by omega))⟩
       have XWR := Lh (grows (a := W) (b := wr))
       have d0 := cQ 0 HBD.out
       have d1 := cQ 1 HBD.out
       have d2 := cQ 2 HBD.out
       have d3 := cQ 3 HBD.out
       clear hrq
       go_wp2_with (refine wpList_store_box rfl 45 (.tmp 2) (.tmp 73) rfl (W.heap.size + 1) #[.slice va C.rows.length vc, .slice ua1 C.nx.length uc1, .slice va2 C.df.length vc2, .slice va3 C.rg.length vc3] rfl rfl 45 (Yq5 ) HRQ.out (by kernel_rfl) rfl (by simp [Value.oneCell']) ?_)
       intro wf hmf hbf
       have HMF := Lh hmf
       have q0 := cQ 0 hbf
       have q1 := cQ 1 hbf
       have q2 := cQ 2 hbf
       have q3 := cQ 3 hbf
       clear hmf hbf
       go_wp2_with fail
       exact bodyPost_ret (v := .agg #[.slice va C.rows.length vc, .slice ua1 C.nx.length uc1, .slice va2 C.df.length vc2, .slice va3 C.rg.length vc3]) (by simp [results, Tryz.results62, go_sem, q0, q1, q2, q3]) rfl ⟨_, _, _, _, vs, rfl, XWR.out.mod HMF.out (fun q hq => by omega), HVQ.out.kp (Kp.box HMF.out HRQ.out (by decide))⟩
end Go.Proofs.YthmokhkkdgnbhaaGreat
