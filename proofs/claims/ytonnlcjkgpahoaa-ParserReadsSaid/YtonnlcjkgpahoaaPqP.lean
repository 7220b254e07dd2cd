/- Parsers: the law Reads, walked. No condition. -/
import Derived.Test.YtonnlcjkgpahoaaPqN
import Derived.Test.YtonnlcjkgpahoaaHdR
import Derived.Test.YtonnlcjkgpahoaaIoV2
import Derived.Test.YtonnlcjkgpahoaaHd8
import Derived.Test.YtonnlcjkgpahoaaHdL
import Derived.Test.YtonnlcjkgpahoaaPqD
import Derived.Test.YtonnlcjkgpahoaaIoG
import Derived.Test.YtonnlcjkgpahoaaIoL
import Derived.Test.YtonnlcjkgpahoaaPqB
import Derived.Deep.RegionHeldLaw
namespace Go.Proofs.Ytonnlcjkgpahoaa
open Go.RowKit

namespace Ps
theorem fit_of_put : ∀ (vs ns L : List Int), Hd.Wd ns → vs.length = ns.length → (∀ x ∈ vs, 0 ≤ x) → (Io.putAll vs ns L).1 = 0 → Hd.Fit vs ns
  | [], [], _, _, _, _, _ => trivial
  | [], _ :: _, _, _, h, _, _ => by simp at h
  | _ :: _, [], _, _, h, _, _ => by simp at h
  | x :: xs, n :: ns, L, hw, hl, h0, h => by
    have h1 := hw n (by simp)
    unfold Io.putAll at h
    by_cases he : Io.wrE x n = 0
    · rw [if_pos he] at h
      refine ⟨h0 x (by simp), ?_, fit_of_put xs ns _ (fun m hm => hw m (by simp [hm])) (by simpa using hl) (fun y hy => h0 y (by simp [hy])) h⟩
      have hok := Bv.ok_of h1.1 h1.2
      unfold Io.wrE at he
      rw [if_pos hok] at he
      by_cases hf : Bv.fits x n = true
      · unfold Bv.fits at hf
        rw [hok, Bool.true_and] at hf
        simpa [Bv.pw] using of_decide_eq_true hf
      · rw [if_neg hf] at he; exact absurd he (by decide)
    · rw [if_neg he] at h; exact absurd h he
/-- the bits of one header's values, of all in order; the environment with them -/
def vsOf (E : Pg.Env) (h : Int) : List Int := E.fi.getD h.toNat []
def oneB (P : Pg.Prog) (E : Pg.Env) (h : Int) : List Int := Hd.bitsAll (vsOf E h) (Hd.wds (hd P h).2)
def wAll (P : Pg.Prog) (E : Pg.Env) : List Int → List Int
  | [] => []
  | h :: r => oneB P E h ++ wAll P E r
def setAll (E : Pg.Env) : List Int → Pg.Env → Pg.Env
  | [], F => F
  | h :: r, F => setAll E r (setH F h.toNat (vsOf E h))
theorem wAll_snoc (P : Pg.Prog) (E : Pg.Env) (h : Int) : ∀ (l : List Int), wAll P E (l ++ [h]) = wAll P E l ++ oneB P E h
  | [] => by simp [wAll]
  | a :: r => by simp [wAll, wAll_snoc P E h r]
theorem setAll_snoc (E : Pg.Env) (h : Int) : ∀ (l : List Int) (F : Pg.Env), setAll E (l ++ [h]) F = setH (setAll E l F) h.toNat (vsOf E h)
  | [], _ => rfl
  | _ :: r, _ => setAll_snoc E h r _
theorem setAll_me (E : Pg.Env) : ∀ (l : List Int) (F : Pg.Env), (setAll E l F).me = F.me ∧ (setAll E l F).pl = F.pl ∧ (setAll E l F).va.length = F.va.length ∧ (setAll E l F).fi.length = F.fi.length
  | [], _ => ⟨rfl, rfl, rfl, rfl⟩
  | h :: r, F => by
    have := setAll_me E r (setH F h.toNat (vsOf E h))
    show _ ∧ _ ∧ _ ∧ _
    unfold setAll
    rw [this.1, this.2.1, this.2.2.1, this.2.2.2]
    simp [setH]
/-- the values of each header fit its fields -/
def FitO (P : Pg.Prog) (E : Pg.Env) (ord : List Int) : Prop := ∀ h ∈ ord, Hd.chk (hd P h) = 0 ∧ Hd.Fit (vsOf E h) (Hd.wds (hd P h).2)
theorem oneB_len {P : Pg.Prog} {E : Pg.Env} {h : Int} (h1 : Hd.chk (hd P h) = 0) (h2 : Hd.Fit (vsOf E h) (Hd.wds (hd P h).2)) : ((oneB P E h).length : Int) = Hd.tot (Hd.wds (hd P h).2) := Hd.bitsAll_len _ _ (Hd.chk_ok h1).2.2.2.1 h2
theorem wAll_8 {P : Pg.Prog} {E : Pg.Env} : ∀ (ord : List Int), FitO P E ord → (wAll P E ord).length % 8 = 0
  | [], _ => rfl
  | h :: r, H => by
    have h1 := H h (by simp)
    have h2 := oneB_len h1.1 h1.2
    have h3 := (Hd.chk_ok h1.1).2.2.2.2
    have h4 := wAll_8 r (fun x hx => H x (by simp [hx]))
    show (oneB P E h ++ wAll P E r).length % 8 = 0
    rw [List.length_append]; omega
theorem wAll_bits (P : Pg.Prog) (E : Pg.Env) : ∀ (ord : List Int), Io.Bits (wAll P E ord)
  | [] => by intro b hb; simp [wAll] at hb
  | _ :: r => (Hd.bitsAll_bits _ _).append (wAll_bits P E r)
theorem read_all {P : Pg.Prog} {E : Pg.Env} {D : List Int} : ∀ (ord L : List Int) (F : Pg.Env), FitO P E ord → (∀ i, i < (L ++ wAll P E ord).length → Io.bit D i = (L ++ wAll P E ord).getD i 0) → (L ++ wAll P E ord).length ≤ 8 * D.length →
    exAll P D ord F L.length = (0, setAll E ord F, (L ++ wAll P E ord).length)
  | [], L, F, _, _, _ => by simp [exAll, setAll, wAll]
  | h :: r, L, F, H, hb, hl => by
    have h1 := H h (by simp)
    have hw := (Hd.chk_ok h1.1).2.2.2.1
    have ho := oneB_len h1.1 h1.2
    have e : L ++ wAll P E (h :: r) = (L ++ oneB P E h) ++ wAll P E r := by simp [wAll]
    rw [e] at hb hl
    have hlen : (L ++ oneB P E h).length ≤ 8 * D.length := by rw [List.length_append] at hl; omega
    have hE : Hd.rE (hd P h) D L.length = 0 := by
      unfold Hd.rE
      rw [if_pos h1.1, if_neg]
      rw [List.length_append] at hlen; omega
    have hV : Hd.rV (hd P h) D L.length = vsOf E h := by
      unfold Hd.rV
      rw [if_pos hE]
      refine Hd.vals_bits D (vsOf E h) _ L hw h1.2 (fun i hi => ?_)
      have hi' : i < (L ++ oneB P E h).length := hi
      rw [hb i (by rw [List.length_append]; omega), List.getD_eq_getElem?_getD, List.getElem?_append_left hi', ← List.getD_eq_getElem?_getD]
      rfl
    have hP : Hd.rP (hd P h) D L.length = (L ++ oneB P E h).length := by
      unfold Hd.rP
      rw [if_pos hE, List.length_append]; omega
    unfold exAll
    rw [if_pos hE, hV, hP, read_all r (L ++ oneB P E h) _ (fun x hx => H x (by simp [hx])) hb hl, e]
    rfl
/-- a parser with one state reads what was written -/
theorem reads_law {P : Pg.Prog} {E : Pg.Env} {x : St} {ord pl : List Int} (hx : x.ex = ord) (hs : x.sel = false) (hd' : x.df = -1) (hc : (chk P [x]).2.2 = 0) (hh : ∀ (k : Nat) (g : Hd.Hdr), P.hs[k]? = some g → Hd.chk g = 0) (H : FitO P E ord) (hD : (Io.pack (wAll P E ord)).length + pl.length ≤ 512) :
    parse P [x] (Io.pack (wAll P E ord) ++ pl) = (⟨(setAll E ord (En.new P)).va, (setAll E ord (En.new P)).fi, (setAll E ord (En.new P)).me, pl⟩, [0], 0) := by
  have h8 := wAll_8 ord H
  have hpl : (Io.pack (wAll P E ord)).length = (wAll P E ord).length / 8 := by rw [Io.pack_len]; omega
  have hb : bad P [x] (Io.pack (wAll P E ord) ++ pl).length = 0 := by
    unfold bad
    rw [if_pos hc, if_pos, if_neg]
    · rw [List.length_append]; omega
    · refine Pg.all_yes fun i hi => ?_
      have hg : P.hs[i]? = some P.hs[i] := List.getElem?_eq_getElem hi
      rw [List.getD_eq_getElem?_getD, hg]
      exact beq_iff_eq.2 (hh i _ hg)
  have hr := read_all (P := P) (E := E) (D := Io.pack (wAll P E ord) ++ pl) ord [] (En.new P) H (fun i hi => by
    rw [List.nil_append] at hi ⊢
    rw [bit_app (by rw [hpl]; omega), Io.bit_pack (wAll_bits P E ord) i hi]) (by rw [List.nil_append, List.length_append, hpl]; omega)
  rw [List.nil_append] at hr
  unfold parse
  rw [if_pos hb]
  have hk : ([x] : List St)[0]? = some x := rfl
  have h1 := go_read (P := P) (ss := [x]) (l := Io.pack (wAll P E ord) ++ pl) (n := 1) (E := En.new P) (pos := 0) (ent := []) hk (by rw [hx]; exact congrArg (·.1) hr)
  show go P [x] _ (1 + 1) ((0 : Nat) : Int) _ _ _ = _
  rw [h1, hx, nxt_off hs, hd']
  have e2 : exAll P (Io.pack (wAll P E ord) ++ pl) ord (En.new P) 0 = (0, setAll E ord (En.new P), (wAll P E ord).length) := hr
  rw [e2, go_acc]
  refine Prod.ext ?_ rfl
  show Pg.Env.mk _ _ _ _ = _
  congr 1
  rw [← hpl]; simp
end Ps
end Go.Proofs.Ytonnlcjkgpahoaa
namespace Go.Proofs.Ytonnlcjkgpahoaa
open Go.RowKit

theorem step_append_any {P : Program} {w : World} {ops : Array Oper} {o : Oper} {a : Act} {K : Act → World → Prop} {Q : Exit → Act → World → Prop} {E' : Prop} (hgd : o.guard = none) (s x : Operand) (t : TypeId)
    (ho : o.op = .call { callee := .builtin .append, args := #[s, x], argTypes := #[t, t] })
    (base : Nat) (e : TypeId) (z : Value) (size bytes : Nat) (ht : P.underlying t = some (.slice e)) (hi : (P.info? e).map (fun i => (i.zero, i.size, i.bytes)) = some (some z, size, bytes))
    (hzs : z.cells.size = size) (hsz : 0 < size)
    (v : Value) (n : Nat) (xs : List Value) (hs : a.eval s = v) (hown : w.ownsRow base e size v n xs)
    (y : Value) (m : Nat) (news : List Value) (hx : a.eval x = y) (hsrc : Src w y size m news)
    (h63 : n + m ≤ maxLen) (hbytes : (n + m) * bytes ≤ 140737488355328) (hbase : base ≤ w.heap.size)
    (h : ∀ v' w', w'.ownsRow base e size v' (n + m) (xs ++ news) → w.grownBy w' v.ownBlock → K (a.put o.dst v') w') :
    if Region.wanted o (yielded ops a.tmps) = true then Oper.wp P o a w K Q else E' := by
  have hw : Region.wanted o (yielded ops a.tmps) = true := by simp [Region.wanted, hgd]
  rw [if_pos hw]
  obtain ⟨i, hi, hz, hs1, hs2⟩ := info_parts hi
  obtain ⟨h1, h2, h3⟩ := hsrc
  rcases h3 with ⟨rfl, rfl⟩ | ⟨ad, c, rfl, h4⟩
  · obtain rfl : news = [] := List.eq_nil_of_length_eq_zero (by simpa using h1)
    have hr := run_append_owned_none (P := P) (w := w) base t o.type e i size ht hi v n xs hown
    unfold Oper.wp execOp
    simp only [ho, resolve, invoke, builtin, Sem.run_bind, Sem.run_pure, Result.andThen_ok, List.map_toArray, List.map_cons, List.map_nil, hs, hx, hr]
    exact h v w (by simpa using hown) ⟨rfl, rfl, rfl, Nat.le_refl _, fun _ _ _ => rfl⟩
  · obtain ⟨v', w', hr, k2, k3, k4⟩ := run_append_fresh (P := P) w base t o.type e i z size bytes ht hi hz hs1 hs2 hzs hsz v n xs hown ad m c news h1 h4 h2 h63 hbytes hbase
    unfold Oper.wp execOp
    simp only [ho, resolve, invoke, builtin, Sem.run_bind, Sem.run_pure, Result.andThen_ok, List.map_toArray, List.map_cons, List.map_nil, hs, hx, hr]
    exact h v' w' k2 k3
/-- an environment's parts but for its payload, in memory of their own -/
structure OwnF (B : Nat) (w : World) (e : Pg.EV) (vs : List Value) (E : Pg.Env) : Prop where
  va : w.ownsRow B 4 1 e.c0 E.va.length (E.va.map .bool)
  fi : Tab B w e.c1 vs E.fi
  me : w.ownsRow B 64 1 e.c2 E.me.length (E.me.map (.int .u32))
  mu : ∀ x ∈ E.me, U32 x
theorem OwnF.ext {B : Nat} {w w' : World} {e : Pg.EV} {vs : List Value} {E : Pg.Env} (h : OwnF B w e vs E) (hx : Ext w w') : OwnF B w' e vs E := ⟨own_ext h.va hx, h.fi.ext hx, own_ext h.me hx, h.mu⟩
theorem OwnF.grown {B C b : Nat} {w w' : World} {e : Pg.EV} {vs : List Value} {E : Pg.Env} {u : Value} {m : Nat} {ys : List Value} (h : OwnF B w e vs E) (ho : w.ownsRow C 5 b u m ys) (hg : w.grownBy w' u.ownBlock) : OwnF B w' e vs E :=
  ⟨own_side h.va ho hg (by decide), ⟨h.fi.1, own_side h.fi.2.1 ho hg (by decide), fun i u l hu hl => ⟨own_side (h.fi.2.2.1 i u l hu hl).1 ho hg (by decide), (h.fi.2.2.1 i u l hu hl).2⟩, h.fi.2.2.2⟩, own_side h.me ho hg (by decide), h.mu⟩
theorem OwnF.box {B g : Nat} {w w' : World} {e : Pg.EV} {vs : List Value} {E : Pg.Env} {c : Array Value} (h : OwnF B w e vs E) (m : Mod (· = g) w w') (hg : w.heap[g]? = some (.cells c 37 (0, 0))) : OwnF B w' e vs E :=
  ⟨own_box h.va m hg (by decide), ⟨h.fi.1, own_box h.fi.2.1 m hg (by decide), fun i u l hu hl => ⟨own_box (h.fi.2.2.1 i u l hu hl).1 m hg (by decide), (h.fi.2.2.1 i u l hu hl).2⟩, h.fi.2.2.2⟩, own_box h.me m hg (by decide), h.mu⟩
theorem OwnF.isE {B : Nat} {w : World} {e : Pg.EV} {vs : List Value} {E : Pg.Env} (h : OwnF B w e vs E) {v : Value} {l : List Int} (hv : Ns .u8 w v l) (hb : Io.Bytes l) : Pg.IsE w ⟨e.c0, e.c1, e.c2, v⟩ ⟨E.va, E.fi, E.me, l⟩ :=
  ⟨⟨own_src h.va bools_one, own_max h.va⟩, h.fi.rows, ⟨⟨own_src h.me ints_one, own_max h.me⟩, h.mu⟩, ⟨hv, hb⟩⟩
namespace Ps
def pr (hs : List Hd.Hdr) : Pg.Prog := ⟨hs, [], []⟩
theorem wE_zero {h : Hd.Hdr} {vs : List Int} (h0 : Hd.wE h vs = 0) (hv : ∀ x ∈ vs, 0 ≤ x) : Hd.chk h = 0 ∧ vs.length = h.2.length ∧ Hd.Fit vs (Hd.wds h.2) := by
  unfold Hd.wE at h0
  by_cases hc : Hd.chk h = 0
  · rw [if_pos hc] at h0
    by_cases hl : vs.length = h.2.length
    · rw [if_pos hl] at h0
      exact ⟨hc, hl, fit_of_put vs _ [] (Hd.chk_ok hc).2.2.2.1 (by rw [Hd.wds_len]; exact hl) hv h0⟩
    · rw [if_neg hl] at h0; exact absurd h0 (by decide)
  · rw [if_neg hc] at h0; exact absurd h0 hc
theorem take_snoc2 {l : List Int} {i : Nat} {y : Int} (h : l[i]? = some y) : l.take (i + 1) = l.take i ++ [y] := by
  rw [List.take_add_one, h]; rfl
theorem hd_nat {P : Pg.Prog} {hs : List Hd.Hdr} {m : Nat} {g : Hd.Hdr} (hp : P.hs = hs) (hg : hs[m]? = some g) : hd P (m : Int) = g := by
  subst hp; exact hd_of (by rw [Int.toNat_natCast]; exact hg)
theorem vsOf_nat {E : Pg.Env} {m : Nat} {row : List Int} (h : E.fi[m]? = some row) : vsOf E (m : Int) = row := by
  unfold vsOf; rw [Int.toNat_natCast, List.getD_eq_getElem?_getD, h]; rfl
theorem wL_one {h : Hd.Hdr} {vs L : List Int} (h0 : Hd.wE h vs = 0) (hv : ∀ x ∈ vs, 0 ≤ x) : Hd.wL h vs L = L ++ Hd.bitsAll vs (Hd.wds h.2) := by
  obtain ⟨h1, _, h3⟩ := wE_zero h0 hv
  unfold Hd.wL
  rw [if_pos h0, Hd.put_fit vs _ L (Hd.chk_ok h1).2.2.2.1 h3]
theorem wAll_len {P : Pg.Prog} {E : Pg.Env} : ∀ (ord : List Int), FitO P E ord → (wAll P E ord).length ≤ 1000 * ord.length
  | [], _ => Nat.zero_le _
  | h :: r, H => by
    have h1 := H h (by simp)
    have h2 := oneB_len h1.1 h1.2
    have h3 := Hd.tot_bd (Hd.chk_ok h1.1).2.2.2.1
    have h4 := (Hd.chk_ok h1.1).2.2.1
    have h5 := wAll_len r (fun x hx => H x (by simp [hx]))
    rw [Hd.wds_len] at h3
    show (oneB P E h ++ wAll P E r).length ≤ _
    rw [List.length_append, List.length_cons]; omega
def xr (ord : List Int) : St := ⟨⟨#[115]⟩, ord, false, 0, 0, [], -1⟩
end Ps
set_option maxRecDepth 100000 in
theorem hdrs_take {v : Value} {W : World} {H : Type} {enc : TypeId × Value → H} {d : DataW H} {ps : List MemPlace} {base : Nat} {r : Reach} (ok : Value.okWide Try.prog W r base 22 v)
    (h : DataW.Trod enc Try.prog W 0 (fun _ => true) true 22 v d ps) : ∃ l, Rows W 2 Hd.HdrR v l := by
  obtain ⟨a, n, c, rfl⟩ := Go.WideShapes.okWide_slice Try.underlying22 ok
  have hrd := Rd.of h
  simp only [Value.cells, List.toList_toArray] at hrd
  obtain ⟨u, l, h1, h2⟩ := Rd.rows (R := Hd.HdrR) Try.underlying22 (show Try.prog.cellsOf 72 = 2 by kernel_rfl) (by decide) (fun row hl hr => rd_header hl hr) hrd
  simp at h1
  subst h1
  exact ⟨l, h2⟩
set_option maxRecDepth 8000 in
set_option maxHeartbeats 8000000 in
theorem parserReads_walk (v0 : Value) (oa : Option Addr) (n0 oc : Nat) (zs : List Int) (v2 : Value) (W : World) {b0 b2 : Nat} {rr r2 : Reach} {H : Type} {enc : TypeId × Value → H} {d0 d2 : DataW H} {p0 p2 : List MemPlace}
    (ok0 : Value.okWide Try.prog W rr b0 22 v0) (h0 : DataW.Trod enc Try.prog W 0 (fun _ => true) true 22 v0 d0 p0) (r0 : IsRow .i64 W oa n0 oc zs) (ok2 : Value.okWide Try.prog W r2 b2 37 v2) (h2 : DataW.Trod enc Try.prog W 0 (fun _ => true) true 37 v2 d2 p2) :
    Calls Try.prog 10 #[v0, .slice oa n0 oc, v2] W (Rets W (.bool true)) := by
  obtain ⟨hs, hrows⟩ := hdrs_take ok0 h0
  obtain ⟨e, E, rfl, he⟩ := env_take ok2 h2
  obtain ⟨ord, rfl, ho0, hord, _⟩ := row_take r0
  clear ok0 h0 d0 r0 ok2 h2 d2
  obtain ⟨ha, hc, rfl, hhl, hhm⟩ := hrows.slice
  obtain ⟨b0, b1, b2, b3, d0, d1, d2, d3, hg⟩ := he.form
  obtain ⟨rfl, hva, hfi, hme, hpl, _, _, _, _⟩ := hg
  unfold maxLen at ho0 hhm
  obtain ⟨P, hP⟩ : ∃ z, z = Ps.pr hs := ⟨_, rfl⟩
  obtain ⟨x, hx⟩ : ∃ z, z = Ps.xr ord := ⟨_, rfl⟩
  have hw0 := alloc_heap (W.alloc (.cells #[.slice b0 E.va.length d0, .slice b1 E.fi.length d1, .slice b2 E.me.length d2, .slice b3 E.pl.length d3] 37)) (.cells #[.string ⟨#[115]⟩, .slice oa ord.length oc, .bool false, .int .i64 0, .int .i64 0, .slice none 0 0, .int .i64 (-1)] 61)
  rw [World.size_alloc] at hw0
  have xw : Ext W ((W.alloc (.cells #[.slice b0 E.va.length d0, .slice b1 E.fi.length d1, .slice b2 E.me.length d2, .slice b3 E.pl.length d3] 37)).alloc (.cells #[.string ⟨#[115]⟩, .slice oa ord.length oc, .bool false, .int .i64 0, .int .i64 0, .slice none 0 0, .int .i64 (-1)] 61)) := grows
  have hq : Ps.IsQ ((W.alloc (.cells #[.slice b0 E.va.length d0, .slice b1 E.fi.length d1, .slice b2 E.me.length d2, .slice b3 E.pl.length d3] 37)).alloc (.cells #[.string ⟨#[115]⟩, .slice oa ord.length oc, .bool false, .int .i64 0, .int .i64 0, .slice none 0 0, .int .i64 (-1)] 61)) ⟨.string ⟨#[]⟩, .slice ha hs.length hc, .slice none 0 0, .slice none 0 0, .slice none 0 0, .slice none 0 0, .slice (some ⟨W.heap.size + 1, 0, none⟩) 1 1, .slice none 0 0, .slice none 0 0⟩ P [x] := by
    subst hP hx
    exact ⟨⟨⟨_, rfl⟩, hrows.ext (fun _ _ h => h.ext xw) xw, .inl ⟨rfl, rfl⟩, ⟨_, _, _, rfl⟩, ⟨_, _, _, rfl⟩, ⟨_, _, _, rfl⟩, ⟨_, _, _, rfl⟩, ⟨_, _, _, rfl⟩, ⟨⟨rfl, by simp [Ps.pr], .inl ⟨rfl, rfl⟩⟩, Nat.zero_le _⟩⟩, rows_one [.string ⟨#[115]⟩, .slice oa ord.length oc, .bool false, .int .i64 0, .int .i64 0, .slice none 0 0, .int .i64 (-1)] rfl ⟨_, _, rfl, by show (1 : Nat) ≤ maxLen; decide, ⟨hord.ext xw, by unfold maxLen; exact ho0⟩, .inl ⟨rfl, rfl⟩⟩ hw0⟩
  clear hw0
  obtain ⟨⟨c1, c2, c3⟩, hR⟩ : ∃ z, z = Ps.chk P [x] := ⟨_, rfl⟩
  obtain ⟨ob, hob⟩ : ∃ z, z = Ps.okQ P [x] := ⟨_, rfl⟩
  obtain ⟨ce, hce⟩ : ∃ z, z = Pg.chkE P E := ⟨_, rfl⟩
  have HC : Hid (∀ w, Ext ((W.alloc (.cells #[.slice b0 E.va.length d0, .slice b1 E.fi.length d1, .slice b2 E.me.length d2, .slice b3 E.pl.length d3] 37)).alloc (.cells #[.string ⟨#[115]⟩, .slice oa ord.length oc, .bool false, .int .i64 0, .int .i64 0, .slice none 0 0, .int .i64 (-1)] 61)) w → Calls Try.prog 24 #[.agg #[.string ⟨#[]⟩, .slice ha hs.length hc, .slice none 0 0, .slice none 0 0, .slice none 0 0, .slice none 0 0, .slice (some ⟨W.heap.size + 1, 0, none⟩) 1 1, .slice none 0 0, .slice none 0 0]] w (Rets w (.tuple #[.int .i64 c1, .int .i64 c2, .int .i64 c3]))) := Lib.hid (fun w hx => by have h := rcheck_any (hq.ext hx); rw [← hR] at h; exact h)
  have HTL : Hid (∀ w, Ext ((W.alloc (.cells #[.slice b0 E.va.length d0, .slice b1 E.fi.length d1, .slice b2 E.me.length d2, .slice b3 E.pl.length d3] 37)).alloc (.cells #[.string ⟨#[115]⟩, .slice oa ord.length oc, .bool false, .int .i64 0, .int .i64 0, .slice none 0 0, .int .i64 (-1)] 61)) w → Calls Try.prog 21 #[.agg #[.string ⟨#[]⟩, .slice ha hs.length hc, .slice none 0 0, .slice none 0 0, .slice none 0 0, .slice none 0 0, .slice (some ⟨W.heap.size + 1, 0, none⟩) 1 1, .slice none 0 0, .slice none 0 0]] w (Rets w (.bool (!ob)))) := Lib.hid (fun w hx => by have h := qtoolarge_any (hq.ext hx); rw [← hob] at h; exact h)
  have HCE : Hid (∀ w, Ext ((W.alloc (.cells #[.slice b0 E.va.length d0, .slice b1 E.fi.length d1, .slice b2 E.me.length d2, .slice b3 E.pl.length d3] 37)).alloc (.cells #[.string ⟨#[115]⟩, .slice oa ord.length oc, .bool false, .int .i64 0, .int .i64 0, .slice none 0 0, .int .i64 (-1)] 61)) w → Calls Try.prog 34 #[.agg #[.string ⟨#[]⟩, .slice ha hs.length hc, .slice none 0 0, .slice none 0 0, .slice none 0 0, .slice none 0 0, .slice (some ⟨W.heap.size + 1, 0, none⟩) 1 1, .slice none 0 0, .slice none 0 0], .agg #[.slice b0 E.va.length d0, .slice b1 E.fi.length d1, .slice b2 E.me.length d2, .slice b3 E.pl.length d3]] w (Rets w (.int .i64 ce))) := Lib.hid (fun w hx => by have h := rcheck12_any (hq.1.ext hx) (he.ext (xw.trans hx)); rw [← hce] at h; exact h)
  have bz := alloc_heap ((W.alloc (.cells #[.slice b0 E.va.length d0, .slice b1 E.fi.length d1, .slice b2 E.me.length d2, .slice b3 E.pl.length d3] 37)).alloc (.cells #[.string ⟨#[115]⟩, .slice oa ord.length oc, .bool false, .int .i64 0, .int .i64 0, .slice none 0 0, .int .i64 (-1)] 61)) (.cells #[.string ⟨#[]⟩, .slice ha hs.length hc, .slice none 0 0, .slice none 0 0, .slice none 0 0, .slice none 0 0, .slice (some ⟨W.heap.size + 1, 0, none⟩) 1 1, .slice none 0 0, .slice none 0 0] 31)
  rw [World.size_alloc, World.size_alloc] at bz
  have pc0 := alw (cell_of (o := 0) bz)
  have pc1 := alw (cell_of (o := 1) bz)
  have pc2 := alw (cell_of (o := 2) bz)
  have pc3 := alw (cell_of (o := 3) bz)
  have pc4 := alw (cell_of (o := 4) bz)
  have pc5 := alw (cell_of (o := 5) bz)
  have pc6 := alw (cell_of (o := 6) bz)
  have pc7 := alw (cell_of (o := 7) bz)
  have pc8 := alw (cell_of (o := 8) bz)
  clear bz
  have bx := alloc_heap W (.cells #[.slice b0 E.va.length d0, .slice b1 E.fi.length d1, .slice b2 E.me.length d2, .slice b3 E.pl.length d3] 37)
  have ec0 := alw (cell_of (o := 0) bx)
  have ec1 := alw (cell_of (o := 1) bx)
  have ec2 := alw (cell_of (o := 2) bx)
  have ec3 := alw (cell_of (o := 3) bx)
  clear bx
  dsimp only [Pg.EV.val]
  cases ob with
  | false =>
    clear hq hrows he hva hfi hme hpl hR hob hce hP hx hord xw
    go_enter Try.func10, Try.ntmps10
    go_wp2_with fail
    refine (HC.out _ grows).mono ?_
    rintro e w1 ⟨rfl, xw1⟩
    have sw1 := Step.mk xw1
    clear xw1
    go_wp2_with fail
    refine (HTL.out _ grows).mono ?_
    rintro e w2 ⟨rfl, xw2⟩
    have sw2 := Step.mk xw2
    clear xw2
    go_wp2_with fail
    refine (pworks_any _).mono ?_
    rintro e wk ⟨rfl, xwk⟩
    have swk := Step.mk xwk
    clear xwk
    go_wp2_with fail
    go_ret
    exact ⟨rfl, grows⟩
  | true =>
    by_cases hc3 : c3 = 0
    · subst hc3
      by_cases hp1 : E.pl.length ≤ 100
      · have g1 : decide ((100 : Int) < (E.pl.length : Int)) = false := decide_eq_false (by omega)
        by_cases hc0 : ce = 0
        · subst hc0
          have hcp := Ps.okQ_cap hob.symm
          obtain ⟨_, _, hst⟩ := Ps.chk_good' (P := P) (ss := [x]) (by rw [← hR])
          have hso := hst 0 x rfl
          have hxe : x.ex = ord := by rw [hx]; rfl
          have hph : P.hs = hs := by rw [hP]; rfl
          have HOX : Hid (ord.length ≤ 4 ∧ ∀ (j : Nat) (h : Int), ord[j]? = some h → 0 ≤ h ∧ h < hs.length) := Lib.hid (by have h1 := hso.exl; have h2 := hso.ex; rw [hxe, hph] at h2; rw [hxe] at h1; exact ⟨h1, h2⟩)
          have hol : ord.length ≤ 4 := HOX.out.1
          have hsb : Pg.shB P E = true := by
            cases h : Pg.shB P E
            · rw [Pg.chk_sh h] at hce; exact absurd hce (by decide)
            · rfl
          have hfl := (Pg.shB_len hsb).2.1
          rw [hph] at hfl
          obtain ⟨F0, hF0⟩ : ∃ z, z = En.new P := ⟨_, rfl⟩
          have hfv : F0.va.length = hs.length ∧ F0.fi.length = hs.length := by rw [hF0, ← hph]; exact ⟨by simp [En.new], En.newF_len P⟩
          have HFV := Lib.hid hfv
          have HFL := Lib.hid hfl
          have HSB4 := Lib.hid (Pg.shB_len hsb).2.2.2
          have HNEW : Hid (∀ w, Ext ((W.alloc (.cells #[.slice b0 E.va.length d0, .slice b1 E.fi.length d1, .slice b2 E.me.length d2, .slice b3 E.pl.length d3] 37)).alloc (.cells #[.string ⟨#[115]⟩, .slice oa ord.length oc, .bool false, .int .i64 0, .int .i64 0, .slice none 0 0, .int .i64 (-1)] 61)) w → Calls Try.prog 32 #[.agg #[.string ⟨#[]⟩, .slice ha hs.length hc, .slice none 0 0, .slice none 0 0, .slice none 0 0, .slice none 0 0, .slice (some ⟨W.heap.size + 1, 0, none⟩) 1 1, .slice none 0 0, .slice none 0 0]] w (EnvP w F0)) := Lib.hid (fun w hx => by have h := refenew_any (hq.1.ext hx) hcp; rw [← hF0] at h; exact h)
          have HQ := Lib.hid hq
          have HROWS := Lib.hid hrows
          have HFI := Lib.hid hfi
          have HE := Lib.hid he
          have HORD : Hid (Ns .i64 W (.slice oa ord.length oc) ord) := Lib.hid ⟨hord, by unfold maxLen; exact ho0⟩
          have HCP := Lib.hid hcp
          have HCK0 : Hid ((Ps.chk P [x]).2.2 = 0) := Lib.hid (by rw [← hR])
          have HX := Lib.hid hx
          have HPH := Lib.hid hph
          have HF0 := Lib.hid hF0
          clear hq hrows he hva hfi hme hpl hR hob hce hP hx hord xw hst hso hxe hsb hfl hF0 hcp hph hfv
          go_enter Try.func10, Try.ntmps10
          go_wp2_with fail
          refine (HC.out _ grows).mono ?_
          rintro e w1 ⟨rfl, xw1⟩
          have sw1 := Step.mk xw1
          clear xw1
          go_wp2_with fail
          refine (HTL.out _ grows).mono ?_
          rintro e w2 ⟨rfl, xw2⟩
          have sw2 := Step.mk xw2
          clear xw2
          go_wp2_with fail
          refine (HCE.out _ grows).mono ?_
          rintro e w3 ⟨rfl, xw3⟩
          have sw3 := Step.mk xw3
          clear xw3
          go_wp2_with fail
          refine (rNewWriter_any _).mono ?_
          rintro e w5 ⟨rfl, xw5⟩
          have sw5 := Step.mk xw5
          clear xw5
          go_wp2_with fail
          refine (HNEW.out _ grows).mono ?_
          rintro e w6 ⟨ev, vs, rfl, x6, o6⟩
          obtain ⟨y0, y1, y2, y3, z0, z1, z2, z3, hg⟩ := o6.isE.form
          obtain ⟨rfl, _, _, _, _, _, _, _, _⟩ := hg
          dsimp only [Pg.EV.val]
          have s6 := Step.mk x6
          have hle6 := x6.le
          rw [World.size_alloc] at hle6
          have hle5 : W.heap.size + 3 ≤ w5.heap.size := by have h : Ext (((W.alloc (.cells #[.slice b0 E.va.length d0, .slice b1 E.fi.length d1, .slice b2 E.me.length d2, .slice b3 E.pl.length d3] 37)).alloc (.cells #[.string ⟨#[115]⟩, .slice oa ord.length oc, .bool false, .int .i64 0, .int .i64 0, .slice none 0 0, .int .i64 (-1)] 61)).alloc (.cells #[.string ⟨#[]⟩, .slice ha hs.length hc, .slice none 0 0, .slice none 0 0, .slice none 0 0, .slice none 0 0, .slice (some ⟨W.heap.size + 1, 0, none⟩) 1 1, .slice none 0 0, .slice none 0 0] 31)) w5 := grows; have := h.le; simp only [World.size_alloc] at this; omega
          have b11 := alloc_heap w5 (.cells #[.slice none 0 0] 67)
          obtain ⟨wb, hwb⟩ : ∃ z, z = w6.alloc (.cells #[.slice y0 F0.va.length z0, .slice y1 F0.fi.length z1, .slice y2 F0.me.length z2, .slice y3 F0.pl.length z3] 37) := ⟨_, rfl⟩
          have xb : Ext (((W.alloc (.cells #[.slice b0 E.va.length d0, .slice b1 E.fi.length d1, .slice b2 E.me.length d2, .slice b3 E.pl.length d3] 37)).alloc (.cells #[.string ⟨#[115]⟩, .slice oa ord.length oc, .bool false, .int .i64 0, .int .i64 0, .slice none 0 0, .int .i64 (-1)] 61)).alloc (.cells #[.string ⟨#[]⟩, .slice ha hs.length hc, .slice none 0 0, .slice none 0 0, .slice none 0 0, .slice none 0 0, .slice (some ⟨W.heap.size + 1, 0, none⟩) 1 1, .slice none 0 0, .slice none 0 0] 31)) wb := by rw [hwb]; exact grows
          have A12 : Hid (wb.heap[w6.heap.size]? = some (.cells #[.slice y0 F0.va.length z0, .slice y1 F0.fi.length z1, .slice y2 F0.me.length z2, .slice y3 F0.pl.length z3] 37 (0, 0))) := Lib.hid (by rw [hwb]; exact alloc_heap w6 _)
          have A11 : Hid (wb.heap[w5.heap.size]? = some (.cells #[.slice none 0 0] 67 (0, 0))) := Lib.hid (by rw [hwb]; exact (x6.alloc _).heap b11)
          have OB : Hid (OwnE (W.heap.size + 3) wb ⟨.slice y0 F0.va.length z0, .slice y1 F0.fi.length z1, .slice y2 F0.me.length z2, .slice y3 F0.pl.length z3⟩ vs F0) := Lib.hid (by rw [hwb]; exact (o6.ext ((Ext.refl w6).alloc _)).base (by rw [World.size_alloc]; omega))
          obtain ⟨g11, hg11⟩ : ∃ z, z = w5.heap.size := ⟨_, rfl⟩
          obtain ⟨g12, hg12⟩ : ∃ z, z = w6.heap.size := ⟨_, rfl⟩
          have H12 : Hid (W.heap.size + 3 ≤ g11 ∧ g11 < g12) := Lib.hid (by omega)
          rw [← hg11] at A11
          rw [← hg12] at A12
          have HWB := Lib.hid hwb.symm
          have HG11 := Lib.hid hg11.symm
          have HG12 := Lib.hid hg12.symm
          have XB := Lib.hid xb
          have HY0 : Hid (∀ k, (Value.slice y0 F0.va.length z0).ownBlock = some k → k < wb.heap.size) := Lib.hid (fun k hk => own_lt OB.out.va hk)
          clear x6 o6 b11 hwb hg11 hg12 hle5 hle6
          go_upto_region 7 with (fail)
          rw [HWB.out, HG11.out, HG12.out]
          clear sw1 sw2 sw3 sw5 s6
          have sb := Step.mk xb
          clear xb
          go_wp2_with fail
          go_loopw [13] (fun z wr => ∃ i : Nat, i ≤ ord.length ∧ z = .int .i64 i ∧ Hid (∃ (xa : Option Addr) (xc : Nat) (vs' : List Value) (L : List Int) (F : Pg.Env), wb.heap.size ≤ wr.heap.size ∧ Ext (((W.alloc (.cells #[.slice b0 E.va.length d0, .slice b1 E.fi.length d1, .slice b2 E.me.length d2, .slice b3 E.pl.length d3] 37)).alloc (.cells #[.string ⟨#[115]⟩, .slice oa ord.length oc, .bool false, .int .i64 0, .int .i64 0, .slice none 0 0, .int .i64 (-1)] 61)).alloc (.cells #[.string ⟨#[]⟩, .slice ha hs.length hc, .slice none 0 0, .slice none 0 0, .slice none 0 0, .slice none 0 0, .slice (some ⟨W.heap.size + 1, 0, none⟩) 1 1, .slice none 0 0, .slice none 0 0] 31)) wr ∧ wr.heap[g11]? = some (.cells #[.slice xa L.length xc] 67 (0, 0)) ∧ wr.heap[g12]? = some (.cells #[.slice y0 F0.va.length z0, .slice y1 F0.fi.length z1, .slice y2 F0.me.length z2, .slice y3 F0.pl.length z3] 37 (0, 0)) ∧ wr.ownsRow wb.heap.size 4 1 (.slice xa L.length xc) L.length (bls L) ∧ OwnE (W.heap.size + 3) wr ⟨.slice y0 F0.va.length z0, .slice y1 F0.fi.length z1, .slice y2 F0.me.length z2, .slice y3 F0.pl.length z3⟩ vs' F ∧ L = Ps.wAll P E (ord.take i) ∧ F = Ps.setAll E (ord.take i) F0 ∧ Ps.FitO P E (ord.take i))) (fun z _ => ord.length - (intOf z).toNat)
          case atStart => exact ⟨0, Nat.zero_le _, rfl, Lib.hid ⟨none, 0, vs, [], F0, Nat.le_refl _, XB.out, A11.out, A12.out, World.ownsRow_nil _ _ _ _, OB.out, rfl, rfl, fun h hh => by simp at hh⟩⟩
          case round =>
            obtain ⟨i, hi, rfl, HI⟩ := hrel
            obtain ⟨xa, xc, vs', L, F, hwbs, hx, k11, k12, hw, hoe, hL, hF, hfo⟩ := HI.out
            obtain ⟨wo, rfl⟩ : ∃ z : World, z = wr := ⟨_, rfl⟩
            have sx := Step.mk hx
            have HX2 := Lib.hid hx
            have K11 := Lib.hid k11
            have K12 := Lib.hid k12
            have HW := Lib.hid hw
            have HOE := Lib.hid hoe
            have HL := Lib.hid hL
            have HF := Lib.hid hF
            have HFO := Lib.hid hfo
            have hLl : L.length ≤ 4000 := by have := Ps.wAll_len _ hfo; rw [← hL, List.length_take] at this; omega
            clear HI hx k11 k12 hw hoe hL hF hfo
            by_cases hlt : i < ord.length
            · obtain ⟨h, hh⟩ : ∃ z, ord[i]? = some z := ⟨_, List.getElem?_eq_getElem hlt⟩
              obtain ⟨h0, h1⟩ := HOX.out.2 i h hh
              obtain ⟨m, rfl⟩ := Int.eq_ofNat_of_zero_le h0
              have hml : m < hs.length := by omega
              obtain ⟨ob', oo, rfl, n1⟩ := ns_at HORD.out (by omega)
              have r1 := n1 i _ hh
              obtain ⟨⟨hn, fs⟩, hg⟩ : ∃ g, hs[m]? = some g := ⟨_, List.getElem?_eq_getElem hml⟩
              obtain ⟨bh, oh, rfl, _, _⟩ := Rows.at HROWS.out (by omega)
              obtain ⟨fa, fc, q0, q1, hnm, hfl, _, _⟩ := hdrs_at HROWS.out m hn fs hg rfl
              obtain ⟨row, hrow⟩ : ∃ r, E.fi[m]? = some r := ⟨_, List.getElem?_eq_getElem (by rw [HFL.out]; exact hml)⟩
              obtain ⟨fb, fo, rfl, _, _⟩ := Rows.at HFI.out (by rw [HFL.out]; omega)
              obtain ⟨la, lc, r2, n2, u2⟩ := rows_at HFI.out m row hrow rfl
              obtain ⟨we, hwe⟩ : ∃ z, z = Hd.wE (hn, fs) row := ⟨_, rfl⟩
              obtain ⟨wl, hwl⟩ : ∃ z, z = Hd.wL (hn, fs) row L := ⟨_, rfl⟩
              have hrl : row.length = fs.length := by
                have h2 := HSB4.out m (by rw [HFL.out]; exact hml)
                rw [List.getD_eq_getElem?_getD, hrow, List.getD_eq_getElem?_getD, HPH.out, hg] at h2; exact h2
              have hrm : row.length ≤ 1000000 := by
                have h2 := HCP.out.2.2 (hn, fs) (by rw [HPH.out]; exact List.mem_of_getElem? hg)
                dsimp only at h2; omega
              have XW : Hid (Ext W wo) := Lib.hid grows
              have HWRT : Hid (∀ w, Ext wo w → Calls Try.prog 36 #[.agg #[.string hn, .slice fa fs.length fc], .slice la row.length lc, .agg #[.slice xa L.length xc]] w (fun e w' => ∃ oa' c', e = .returned (.tuple #[.agg #[.slice oa' wl.length c'], .int .i64 we]) ∧ Ext w w' ∧ w'.ownsRow wb.heap.size 4 1 (.slice oa' wl.length c') wl.length (bls wl))) := Lib.hid (fun w hxw => by
                have h := rhwrite_any (hn, fs) (v := .slice fa fs.length fc) (u := .slice la row.length lc) (vs := row) (hfl.ext (XW.out.trans hxw)) (n2.1.ext (XW.out.trans hxw)) hnm (own_ext HW.out hxw) (Nat.le_trans hwbs hxw.le) (by omega) u2 hrm
                rw [← hwe, ← hwl] at h; exact h)
              have HWE := Lib.hid hwe
              have HWL := Lib.hid hwl
              have HN2 := Lib.hid n2
              have HU2 := Lib.hid u2
              have HHH := Lib.hid hh
              have HGH := Lib.hid hg
              have HRW := Lib.hid hrow
              have D1 : Hid (wo.cell? ⟨bh, oh + m * 2, none⟩ = some (.string hn)) := Lib.hid (q0 wo)
              have D2 : Hid (wo.cell? ⟨bh, oh + m * 2 + 1, none⟩ = some (.slice fa fs.length fc)) := Lib.hid (q1 wo)
              have D3 : Hid (wo.cell? ⟨W.heap.size, 1, none⟩ = some (.slice (some ⟨fb, fo, none⟩) E.fi.length d1)) := Lib.hid (ec1 wo)
              have D4 : Hid (wo.cell? ⟨fb, fo + m, none⟩ = some (.slice la row.length lc)) := Lib.hid (r2 wo)
              have D5 : Hid (wo.cell? ⟨g11, 0, none⟩ = some (.slice xa L.length xc)) := Lib.hid (cell_of K11.out)
              have hml2 : m < E.fi.length := by rw [HFL.out]; exact hml
              have dq1 := D1.out
              have dq2 := D2.out
              have dq3 := D3.out
              have dq4 := D4.out
              have dq5 := D5.out
              have j1 := World.new_ne wo _ dq1
              have j3 := World.new_ne wo _ dq3
              have j4 := World.new_ne wo _ dq4
              have j5 := World.new_ne wo _ dq5
              clear n1 hh hg hrow hwe hwl n2 u2 hfl hnm q0 q1 h0 h1 hrl
              go_wp2_with fail
              go_cut [15, 16] (fun s u wx => ∃ (Bn : Nat) (oa' : Option Addr) (c' : Nat), s = .pointer (some ⟨Bn, 0, none⟩) ∧ u = .int .i64 we ∧ Ext wo wx ∧ wo.heap.size ≤ Bn ∧ wx.heap[Bn]? = some (.cells #[.slice oa' wl.length c'] 67 (0, 0)) ∧ wx.ownsRow wb.heap.size 4 1 (.slice oa' wl.length c') wl.length (bls wl))
              case first =>
                go_region_held3 (fun w' => w'.cell? ⟨bh, oh + m * 2, none⟩ = some (.string hn) ∧ w'.cell? ⟨bh, oh + m * 2 + 1, none⟩ = some (.slice fa fs.length fc) ∧ w'.cell? ⟨W.heap.size, 1, none⟩ = some (.slice (some ⟨fb, fo, none⟩) E.fi.length d1) ∧ w'.cell? ⟨fb, fo + m, none⟩ = some (.slice la row.length lc) ∧ w'.cell? ⟨g11, 0, none⟩ = some (.slice xa L.length xc)) (go_keep)
                  (first | (go_at_call 36; refine (HWRT.out _ (by first | exact (Ext.refl _).drew | exact ((Ext.refl _).drew).alloc _)).mono ?_; rintro e w7 ⟨oa', c', rfl, hy, ho6⟩; have hz : Ext wo w7 := (by first | exact ((Ext.refl wo).drew).trans hy | exact (((Ext.refl wo).drew).alloc _).trans hy); have q0 := hz.cell D1.out; have q1 := hz.cell D2.out; have q2 := hz.cell D3.out; have q8 := hz.cell D4.out; have q9 := hz.cell D5.out; try (have q3 : w7.heap[wo.heap.size]? = some (.cells #[.slice none 0 0] 67 (0, 0)) := hy.heap (alloc_heap wo.drew (.cells #[.slice none 0 0] 67)); have q4 : w7.cell? ⟨wo.heap.size, 0, none⟩ = some (.slice none 0 0) := cell_of q3; have q6 : w7.frozen? ⟨wo.heap.size, 0, none⟩ = false := free_of q3)))
                all_goals (try go_wp2_with fail)
                all_goals go_meet
                · exact ⟨w7.heap.size, oa', c', rfl, rfl, hz.alloc _, hz.le, alloc_heap _ _, own_ext ho6 ((Ext.refl _).alloc _)⟩
                · obtain ⟨y1', y2'⟩ := set1 (a' := .slice oa' wl.length c') q3
                  exact ⟨wo.heap.size, oa', c', rfl, rfl, hz.mod y2' (fun q hq => by rw [hq]; exact Nat.le_refl _), Nat.le_refl _, y1', own_mod ho6 y2' (own_not ho6 q3 (by decide))⟩
              case rest =>
                obtain ⟨Bn, oa', c', rfl, rfl, hx5, hBn, b5, ho5⟩ := hcut
                obtain ⟨wd, rfl⟩ : ∃ z : World, z = wc := ⟨_, rfl⟩
                have s5 := Step.mk hx5
                have HX5 := Lib.hid hx5
                have HO5 := Lib.hid ho5
                have HB5 := Lib.hid b5
                have OE5 := Lib.hid (HOE.out.ext hx5)
                have c15 := alw (cell_of (o := 0) b5)
                have hlw := hx5.le
                clear dq1 dq2 dq3 dq4 dq5 j1 j3 j4 j5 hx5 b5 ho5
                by_cases hz : we = 0
                · subst hz
                  obtain ⟨fb1, hfb⟩ : ∃ z, F.va[m]? = some z := ⟨_, List.getElem?_eq_getElem (by rw [HF.out, (Ps.setAll_me E _ F0).2.2.1, HFV.out.1]; exact hml)⟩
                  obtain ⟨gva, cva, ev0, va1, va2, gB, gl, _, _, _⟩ := own_at OE5.out.va (k := m) (x := .bool fb1) (by rw [List.getElem?_map, hfb]; rfl)
                  simp only [Value.slice.injEq] at ev0
                  obtain ⟨rfl, lv0, rfl⟩ := ev0
                  have k12 := alwB K12.out wd
                  have fc0 := alw (cell_of (o := 0) k12)
                  have fc1 := alw (cell_of (o := 1) k12)
                  have fc2 := alw (cell_of (o := 2) k12)
                  have fc3 := alw (cell_of (o := 3) k12)
                  have HFB := Lib.hid hfb
                  have hmf0 : m < F0.va.length := by rw [HFV.out.1]; exact hml
                  clear k12 hfb lv0
                  cases fb1 with
                  | true =>
                    go_wp2_with fail
                    refine (pworks_any _).mono ?_
                    rintro e wk ⟨rfl, xwk⟩
                    have swk := Step.mk xwk
                    clear xwk
                    go_wp2_with fail
                    go_ret
                    exact ⟨rfl, grows⟩
                  | false =>
                    have hv0 : ∀ z ∈ row, (0 : Int) ≤ z := fun z hz => (HU2.out z hz).1
                    obtain ⟨wc0, wl0, wf0⟩ := Ps.wE_zero (h := (hn, fs)) (vs := row) HWE.out.symm hv0
                    have hfs1 := (Hd.chk_ok wc0).2.1
                    have hrne : row ≠ [] := by intro e; rw [e] at wl0; simp at wl0; dsimp only at hfs1; omega
                    have hwl2 : wl = L ++ Hd.bitsAll row (Hd.wds fs) := by rw [HWL.out]; exact Ps.wL_one HWE.out.symm hv0
                    have HNE := Lib.hid hrne
                    have HWL2 := Lib.hid hwl2
                    have HWC := Lib.hid wc0
                    have HWF := Lib.hid wf0
                    have hgva := HY0.out gva rfl
                    have k11' := HX5.out.heap K11.out
                    have c11 : wd.cell? ⟨g11, 0, none⟩ = some (.slice xa L.length xc) := cell_of k11'
                    have f11 : wd.frozen? ⟨g11, 0, none⟩ = false := free_of k11'
                    obtain ⟨k11s, md7⟩ := set1 (a' := .slice oa' wl.length c') k11'
                    obtain ⟨w7, h7⟩ : ∃ z, z = wd.setCell ⟨g11, 0, none⟩ (.slice oa' wl.length c') := ⟨_, rfl⟩
                    rw [← h7] at k11s md7
                    have H7 := Lib.hid h7
                    have k127 := md7.heap (HX5.out.heap K12.out) (by have := H12.out; omega)
                    have oe7 := OE5.out.beside md7 k11' (by decide) (by decide) (by decide) (by decide)
                    have ho7 := own_box HO5.out md7 k11' (by decide)
                    have x7 := (HX2.out.trans HX5.out).mod md7 (fun q hq => by have := H12.out; simp only [World.size_alloc]; omega)
                    have s7 := Step.mk x7
                    obtain ⟨cvm, hG7, _⟩ := own_heap oe7.va (k := gva) rfl
                    have nv11 : gva ≠ g11 := fun e => ne_of_type hG7 k11s (by decide) e
                    have nv12 : gva ≠ g12 := fun e => ne_of_type hG7 k127 (by decide) e
                    have md8 : Mod (· = gva) w7 (w7.setCell ⟨gva, m, none⟩ (.bool true)) := mod_set
                    have oe8 := oe7.setVa (g := gva) rfl m true
                    obtain ⟨w8, h8⟩ : ∃ z, z = w7.setCell ⟨gva, m, none⟩ (.bool true) := ⟨_, rfl⟩
                    rw [← h8] at md8 oe8
                    have H8 := Lib.hid h8
                    have k118 := md8.heap k11s (fun e => nv11 e.symm)
                    have k128 := md8.heap k127 (fun e => nv12 e.symm)
                    have ho8 := own_mod ho7 md8 (fun q hq e => by have h := own_ge ho7 hq; omega)
                    have hgB : W.heap.size + 3 ≤ gva := own_ge oe7.va rfl
                    have x8 := x7.mod md8 (fun q hq => by simp only [World.size_alloc]; omega)
                    have hw8 : wb.heap.size ≤ w8.heap.size := Nat.le_trans hwbs (Nat.le_trans HX5.out.le (Nat.le_trans md7.size md8.size))
                    have q70 := alw (show w7.cell? ⟨g12, 0, none⟩ = some (.slice (some ⟨gva, 0, none⟩) F0.va.length z0) from cell_of k127)
                    obtain ⟨_, _, ev9, va3, va4, _⟩ := own_at oe7.va (k := m) (x := .bool false) (by rw [List.getElem?_map, HFB.out]; rfl)
                    simp only [Value.slice.injEq, Option.some.injEq, Addr.mk.injEq, and_true] at ev9
                    obtain ⟨rfl, _, rfl⟩ := ev9
                    obtain ⟨uv, huv⟩ : ∃ z, vs'[m]? = some z := ⟨_, List.getElem?_eq_getElem (by rw [oe8.fi.1, (show Pg.Env.fi _ = F.fi from rfl), HF.out, (Ps.setAll_me E _ F0).2.2.2, HFV.out.2]; exact hml)⟩
                    obtain ⟨gfi, cfi, ev1, fi1, fi2, gfB, _, _, _, _⟩ := own_at oe8.fi.2.1 huv
                    simp only [Value.slice.injEq] at ev1
                    obtain ⟨rfl, lv1, rfl⟩ := ev1
                    obtain ⟨cfm, hG8, _⟩ := own_heap oe8.fi.2.1 (k := gfi) rfl
                    have HG8' := Lib.hid hG8
                    have O8 := Lib.hid oe8
                    have K118 := Lib.hid k118
                    have K128 := Lib.hid k128
                    have HO8 := Lib.hid ho8
                    have X8 := Lib.hid x8
                    have hmf1 : m < F0.fi.length := by rw [HFV.out.2]; exact hml
                    have q81 := alw (show w8.cell? ⟨g12, 1, none⟩ = some (.slice (some ⟨gfi, 0, none⟩) F0.fi.length z1) from cell_of k128)
                    clear hv0 wc0 wl0 wf0 hfs1 hrne hwl2 k11' k11s md7 h7 k127 oe7 ho7 x7 hG7 nv11 nv12 md8 oe8 h8 k118 k128 ho8 huv lv1 hG8
                    go_upto_region 15 with (fail)
                    rw [← H7.out]
                    clear s5 c11 f11 va1 va2 fc0 fc1 fc2 fc3
                    go_upto_region 16 with (fail)
                    rw [← H8.out]
                    clear s7 q70 va3 va4
                    have s8 := Step.mk x8
                    clear x8
                    refine Rel.region_tail (W := w8) 11 (Rel.tab [(3, fun v w => ∃ g, v = .slice (some ⟨g, 0, none⟩) 0 0 ∧ Rel.Fresh w8 g (.cells #[] 64 (0, 0)) w), (9, fun v w => w.ownsRow w8.heap.size 64 1 v row.length (row.map (.int .u32)))]) (Rel.tab_lasts (by intro p hp v w w' hr hx; simp only [List.mem_cons, List.not_mem_nil, or_false] at hp; rcases hp with rfl | rfl; (· obtain ⟨g, e1, e2⟩ := hr; exact ⟨g, e1, e2.ext hx⟩); (· exact own_ext hr hx))) (by kernel_rfl) (by kernel_rfl) (Ext.refl _) ?_
                    simp only [List.take_succ_cons, List.take_zero]
                    refine Rel.chunkT 3 rfl rfl rfl ?_
                    simp only [List.take_succ_cons, List.take_zero, List.drop_succ_cons, List.drop_zero, Nat.reduceAdd]
                    repeat (go_big_quiet_step (fail))
                    refine wpQuiet_nil ?_
                    refine Rel.fresh (fun g => .slice (some ⟨g, 0, none⟩) 0 0) (.cells #[] 64 (0, 0)) rfl rfl rfl (fun w hx => by kernel_rfl) ?_
                    intro ga ya _ _ h3
                    simp only [Act.put, List.setIfInBounds_toArray, List.set_cons_succ, List.set_cons_zero]
                    refine Rel.chunkT 5 rfl rfl rfl ?_
                    simp only [List.take_succ_cons, List.take_zero, List.drop_succ_cons, List.drop_zero, Nat.reduceAdd]
                    repeat (go_big_quiet_step (fail))
                    refine wpQuiet_nil ?_
                    refine Rel.call (fun v w => w.ownsRow w8.heap.size 64 1 v row.length (row.map (.int .u32))) rfl rfl rfl (fun w hx hf => by have h := (hf 3 (by kernel_rfl)).2 rfl; obtain ⟨g', e1, e2⟩ := h; simp only [Value.slice.injEq, Option.some.injEq, Addr.mk.injEq, and_true] at e1; subst e1; obtain ⟨v8, w8', q1, q2, q3⟩ := run_append_empty (P := Try.prog) w w8.heap.size 34 34 64 (.int .u32 0) 1 4 Try.underlying34 info_u32 rfl (by decide) ga e2.2 e2.1 (.slice la row.length lc) row.length (row.map (.int .u32)) (HN2.out.1.ext ((grows (a := W) (b := w8)).trans hx)) (by unfold maxLen; omega) (by omega); exact Rel.leaves_append rfl rfl rfl q1 q3 q2) ?_
                    intro vb wb9 _ _ r4
                    obtain ⟨q, rc, rfl, _, _, _, _, _, _⟩ := own_cell r4 (by intro e; exact HNE.out (List.map_eq_nil_iff.1 e))
                    simp only [Act.put, List.setIfInBounds_toArray, List.set_cons_succ, List.set_cons_zero]
                    refine Rel.chunkT 1 rfl rfl rfl ?_
                    simp only [List.take_succ_cons, List.take_zero, List.drop_succ_cons, List.drop_zero, Nat.reduceAdd]
                    repeat (go_big_quiet_step (fail))
                    refine wpQuiet_nil ?_
                    refine Rel.fin ?_
                    intro w9 x9 hf9
                    have E9 := Lib.hid ((hf9 9).2 rfl)
                    have X9 := Lib.hid x9
                    have s9 := Step.mk x9
                    clear hf9 r4 h3 x9
                    go_wp2_with fail
                    go_roundw
                    case rel =>
                      have md9 : Mod (· = gfi) w9 (w9.setCell ⟨gfi, m, none⟩ (.slice (some ⟨q, 0, none⟩) row.length rc)) := mod_set
                      have hqm : w8.heap.size ≤ q := own_ge E9.out rfl
                      have ng : ∀ {k : Nat} {c : Array Value} {t : TypeId}, w8.heap[k]? = some (.cells c t (0, 0)) → 34 ≠ t → ¬ k = gfi := fun hk ht e => ne_of_type HG8'.out hk ht e.symm
                      have hsz8 : W.heap.size + 3 ≤ w8.heap.size := by have := X8.out.le; simp only [World.size_alloc] at this; exact this
                      have e1 := Ps.hd_nat HPH.out HGH.out
                      have e2 := Ps.vsOf_nat HRW.out
                      have e3 := Ps.take_snoc2 HHH.out
                      refine ⟨i + 1, by omega, by go_num, Lib.hid ⟨oa', c', vs'.set m (.slice (some ⟨q, 0, none⟩) row.length rc), wl, Ps.setH F m row, ?_, (X8.out.trans X9.out).mod md9 (fun q hq => by simp only [World.size_alloc]; omega), md9.heap (X9.out.heap K118.out) (ng K118.out (by decide)), md9.heap (X9.out.heap K128.out) (ng K128.out (by decide)), own_box (own_ext HO8.out X9.out) md9 (X9.out.heap HG8'.out) (by decide), OwnE.setRow (O8.out.ext X9.out) rfl ?_ (own_base E9.out hsz8) HU2.out (fun j u hu e2 => by have h1 := O8.out.fi.lt hu e2; omega) (fun e2 => by have h1 := own_lt O8.out.me e2; omega), ?_, ?_, ?_⟩⟩
                      · exact Nat.le_trans hw8 (Nat.le_trans X9.out.le md9.size)
                      · show m < F.fi.length
                        rw [HF.out, (Ps.setAll_me E _ F0).2.2.2, HFV.out.2]; exact hml
                      · rw [e3, Ps.wAll_snoc, HWL2.out, HL.out]; unfold Ps.oneB; rw [e1, e2]
                      · rw [e3, Ps.setAll_snoc, HF.out, e2, Int.toNat_natCast]
                      · intro h hh
                        rw [e3] at hh
                        rcases List.mem_append.1 hh with hh | hh
                        · exact HFO.out h hh
                        · obtain rfl := List.mem_singleton.1 hh
                          rw [e1, e2]; exact ⟨HWC.out, HWF.out⟩
                    case measure => simp [intOf]; omega
                · have z9 : (we != 0) = true := bne_iff_ne.2 hz
                  clear hz
                  go_wp2_with fail
                  refine (pworks_any _).mono ?_
                  rintro e wk ⟨rfl, xwk⟩
                  have swk := Step.mk xwk
                  clear xwk
                  go_wp2_with fail
                  go_ret
                  exact ⟨rfl, grows⟩
            · obtain rfl : i = ord.length := by omega
              have HLA : Hid (L = Ps.wAll P E ord) := Lib.hid (by have h := HL.out; rwa [List.take_length] at h)
              have HFA : Hid (F = Ps.setAll E ord F0) := Lib.hid (by have h := HF.out; rwa [List.take_length] at h)
              have HOA : Hid (Ps.FitO P E ord) := Lib.hid (by have h := HFO.out; rwa [List.take_length] at h)
              go_wp2_with fail
              go_loopw [17] (fun z wr => ∃ k : Nat, k ≤ hs.length ∧ z = .int .i64 k ∧ Ext wo wr ∧ Hid (∀ (j : Nat) (g : Hd.Hdr), j < k → hs[j]? = some g → Hd.chk g = 0)) (fun z _ => hs.length - (intOf z).toNat)
              case atStart => exact ⟨0, Nat.zero_le _, rfl, Ext.refl _, Lib.hid (fun j g hj => absurd hj (Nat.not_lt_zero _))⟩
              case round =>
                obtain ⟨k, hk, rfl, hxk, HZ⟩ := hrel
                obtain ⟨wq, rfl⟩ : ∃ z : World, z = wr := ⟨_, rfl⟩
                have sq := Step.mk hxk
                have HWQ := Lib.hid hxk.le
                clear hxk
                by_cases hkl : k < hs.length
                · obtain ⟨⟨hn, fs⟩, hg⟩ : ∃ g, hs[k]? = some g := ⟨_, List.getElem?_eq_getElem hkl⟩
                  obtain ⟨bh, oh, rfl, _, _⟩ := Rows.at HROWS.out (by omega)
                  obtain ⟨fa, fc, q0, q1, hnm, hfl, _, _⟩ := hdrs_at HROWS.out k hn fs hg rfl
                  obtain ⟨ck, hck⟩ : ∃ z, z = Hd.chk (hn, fs) := ⟨_, rfl⟩
                  have HCH : Hid (∀ w, Ext W w → Calls Try.prog 37 #[.agg #[.string hn, .slice fa fs.length fc]] w (Rets w (.int .i64 ck))) := Lib.hid (fun w hx => by have h := rhcheck_any (hn, fs) (hfl.ext hx) hnm; rw [← hck] at h; exact h)
                  have HGK := Lib.hid hg
                  have HCK := Lib.hid hck
                  clear hg hck hfl hnm
                  by_cases hc0 : ck = 0
                  · subst hc0
                    go_wp2_with fail
                    refine (HCH.out _ grows).mono ?_
                    rintro e wk ⟨rfl, xwk⟩
                    have swk := Step.mk xwk
                    clear xwk
                    go_wp2_with fail
                    go_roundw
                    case rel =>
                      refine ⟨k + 1, by omega, by go_num, grows, Lib.hid (fun j g hj hg => ?_)⟩
                      rcases Nat.lt_or_ge j k with h1 | h1
                      · exact HZ.out j g h1 hg
                      · obtain rfl : j = k := by omega
                        rw [HGK.out] at hg
                        obtain rfl := Option.some.inj hg
                        exact HCK.out.symm
                    case measure => simp [intOf]; omega
                  · have z9 : (ck != 0) = true := bne_iff_ne.2 hc0
                    clear hc0
                    go_wp2_with fail
                    refine (HCH.out _ grows).mono ?_
                    rintro e wk ⟨rfl, xwk⟩
                    have swk := Step.mk xwk
                    clear xwk
                    go_wp2_with fail
                    refine (pworks_any _).mono ?_
                    rintro e wk2 ⟨rfl, xwk2⟩
                    have swk2 := Step.mk xwk2
                    clear xwk2
                    go_wp2_with fail
                    go_ret
                    exact ⟨rfl, grows⟩
                · obtain rfl : k = hs.length := by omega
                  have HALL : Hid (∀ (k : Nat) (g : Hd.Hdr), P.hs[k]? = some g → Hd.chk g = 0) := Lib.hid (fun k g hg => by rw [HPH.out] at hg; exact HZ.out k g (List.getElem?_eq_some_iff.1 hg).1 hg)
                  obtain ⟨dat, hdat⟩ : ∃ z, z = Io.pack L := ⟨_, rfl⟩
                  have h8 : L.length % 8 = 0 := by rw [HLA.out]; exact Ps.wAll_8 ord HOA.out
                  have hbits : Io.Bits L := by rw [HLA.out]; exact Ps.wAll_bits P E ord
                  have hdl : dat.length ≤ 1000 := by rw [hdat, Io.pack_len]; omega
                  have HBYT : Hid (∀ w, Ext wo w → Calls Try.prog 38 #[.agg #[.slice xa L.length xc]] w (fun e W' => ∃ v, e = .returned (.tuple #[v, .int .i64 0]) ∧ Ext w W' ∧ W'.ownsRow w.heap.size 5 1 v dat.length (u8s dat))) := Lib.hid (fun w hx => by
                    have h := rBytes_any (own_ext HW.out hx) hbits (by omega)
                    unfold Io.byE Io.byL at h
                    rw [if_pos h8, if_pos h8, ← hdat] at h; exact h)
                  have HDAT := Lib.hid hdat
                  have HBI := Lib.hid hbits
                  have k11 := alwB K11.out wq
                  have k12 := alwB K12.out wq
                  have wc11 := alw (cell_of (o := 0) k11)
                  have fc0 := alw (cell_of (o := 0) k12)
                  have fc1 := alw (cell_of (o := 1) k12)
                  have fc2 := alw (cell_of (o := 2) k12)
                  have fc3 := alw (cell_of (o := 3) k12)
                  have ff0 := alwF (o := 0) k12
                  have ff1 := alwF (o := 1) k12
                  have ff2 := alwF (o := 2) k12
                  have ff3 := alwF (o := 3) k12
                  have KQ12 := Lib.hid k12
                  clear hdat hbits h8 k11 k12
                  go_wp2_with fail
                  refine (HBYT.out _ grows).mono ?_
                  rintro e w7 ⟨v, rfl, x7, o7⟩
                  obtain ⟨dz, dy, rfl⟩ := own_slice o7
                  have s7 := Step.mk x7
                  have X7 := Lib.hid x7
                  have O7 := Lib.hid o7
                  clear x7 o7
                  by_cases hd : dat.length + E.pl.length ≤ 512
                  · have g2 : decide ((512 : Int) < (dat.length : Int) + (E.pl.length : Int)) = false := decide_eq_false (by omega)
                    have x78 : Ext wo w7 := grows
                    have kd12 := X7.out.heap KQ12.out
                    have md : Mod (· = g12) w7 (w7.setCell ⟨g12, 3, none⟩ (.slice b3 E.pl.length d3)) := mod_set
                    have kd8 := setCell_heap (o := 3) (v := .slice b3 E.pl.length d3) kd12
                    obtain ⟨w8, h8⟩ : ∃ z, z = w7.setCell ⟨g12, 3, none⟩ (.slice b3 E.pl.length d3) := ⟨_, rfl⟩
                    rw [← h8] at md kd8
                    have H8 := Lib.hid h8
                    have x8 := (HX2.out.trans x78).mod md (fun q hq => by have := H12.out; simp only [World.size_alloc]; omega)
                    have oe8 := (HOE.out.ext x78).box md kd12
                    have OF8 := Lib.hid (OwnF.mk oe8.va oe8.fi oe8.me oe8.mu)
                    have O8 := Lib.hid (own_box O7.out md kd12 (by decide))
                    have KF8 := Lib.hid kd8
                    have X8 := Lib.hid x8
                    have hwq8 : wq.heap.size ≤ w8.heap.size := Nat.le_trans X7.out.le md.size
                    have XW8 : Hid (Ext W w8) := Lib.hid ((show Ext W (((W.alloc (.cells #[.slice b0 E.va.length d0, .slice b1 E.fi.length d1, .slice b2 E.me.length d2, .slice b3 E.pl.length d3] 37)).alloc (.cells #[.string ⟨#[115]⟩, .slice oa ord.length oc, .bool false, .int .i64 0, .int .i64 0, .slice none 0 0, .int .i64 (-1)] 61)).alloc (.cells #[.string ⟨#[]⟩, .slice ha hs.length hc, .slice none 0 0, .slice none 0 0, .slice none 0 0, .slice none 0 0, .slice (some ⟨W.heap.size + 1, 0, none⟩) 1 1, .slice none 0 0, .slice none 0 0] 31)) from grows).trans x8)
                    obtain ⟨SE, hSE⟩ : ∃ z : Pg.Env, z = ⟨F.va, F.fi, F.me, E.pl⟩ := ⟨_, rfl⟩
                    have hpar : Ps.parse P [x] (dat ++ E.pl) = (SE, [0], 0) := by
                      have h := Ps.reads_law (P := P) (E := E) (x := x) (ord := ord) (pl := E.pl) (by rw [HX.out]; rfl) (by rw [HX.out]; rfl) (by rw [HX.out]; rfl) HCK0.out HALL.out HOA.out (by rw [← HLA.out, ← HDAT.out]; exact hd)
                      rw [← HLA.out, ← HDAT.out, ← HF0.out, ← HFA.out] at h
                      rw [h, hSE]
                    have hdb : Io.Bytes (dat ++ E.pl) := fun b hb => by
                      rcases List.mem_append.1 hb with h | h
                      · rw [HDAT.out] at h; exact Io.pack_bytes HBI.out b h
                      · exact HE.out.2.2.2.2 b h
                    have HPA : Hid (∀ w, Ext ((W.alloc (.cells #[.slice b0 E.va.length d0, .slice b1 E.fi.length d1, .slice b2 E.me.length d2, .slice b3 E.pl.length d3] 37)).alloc (.cells #[.string ⟨#[115]⟩, .slice oa ord.length oc, .bool false, .int .i64 0, .int .i64 0, .slice none 0 0, .int .i64 (-1)] 61)) w → ∀ (da' : Option Addr) (dc' : Nat), Src w (.slice da' (dat.length + E.pl.length) dc') 1 (dat.length + E.pl.length) (u8s (dat ++ E.pl)) → Calls Try.prog 25 #[.agg #[.string ⟨#[]⟩, .slice ha hs.length hc, .slice none 0 0, .slice none 0 0, .slice none 0 0, .slice none 0 0, .slice (some ⟨W.heap.size + 1, 0, none⟩) 1 1, .slice none 0 0, .slice none 0 0], .slice da' (dat.length + E.pl.length) dc'] w (ParseP w (SE, [0], 0))) := Lib.hid (fun w hx da' dc' hs => by
                      have h := pparse_any (HQ.out.ext hx) HCP.out (l := dat ++ E.pl) (da := da') (dc := dc') (by rw [List.length_append]; exact hs) hdb (by rw [List.length_append]; omega)
                      rw [hpar, List.length_append] at h; exact h)
                    have HSE := Lib.hid hSE
                    have HPL := Lib.hid (HE.out.2.2.2)
                    clear x78 kd12 md kd8 h8 oe8 hpar hdb hSE
                    go_upto_region 26 with (fail)
                    rw [← H8.out]
                    clear s7 sq sx fc0 fc1 fc2 fc3 ff0 ff1 ff2 ff3 wc11
                    have s8 := Step.mk x8
                    clear x8
                    have hb1 : wq.heap.size ≤ w8.drew.heap.size := hwq8
                    have hb2 : wq.heap.size ≤ (w8.drew.alloc (.cells #[.slice none 0 0, .slice none 0 0, .slice none 0 0, .slice none 0 0] 37)).heap.size := by rw [World.size_alloc]; exact Nat.le_succ_of_le hwq8
                    have HDA1 : Hid (w8.drew.ownsRow wq.heap.size 5 1 (.slice dz dat.length dy) dat.length (u8s dat)) := Lib.hid (own_ext O8.out ((Ext.refl w8).drew))
                    have HDA2 : Hid ((w8.drew.alloc (.cells #[.slice none 0 0, .slice none 0 0, .slice none 0 0, .slice none 0 0] 37)).ownsRow wq.heap.size 5 1 (.slice dz dat.length dy) dat.length (u8s dat)) := Lib.hid (own_ext O8.out (((Ext.refl w8).drew).alloc _))
                    have HPS1 : Hid (Src w8.drew (.slice b3 E.pl.length d3) 1 E.pl.length (E.pl.map (.int .u8))) := Lib.hid (HPL.out.1.1.ext XW8.out.drew)
                    have HPS2 : Hid (Src (w8.drew.alloc (.cells #[.slice none 0 0, .slice none 0 0, .slice none 0 0, .slice none 0 0] 37)) (.slice b3 E.pl.length d3) 1 E.pl.length (E.pl.map (.int .u8))) := Lib.hid (HPL.out.1.1.ext (XW8.out.drew.alloc _))
                    have hWq : W.heap.size + 3 ≤ wq.heap.size := by have h : Ext (((W.alloc (.cells #[.slice b0 E.va.length d0, .slice b1 E.fi.length d1, .slice b2 E.me.length d2, .slice b3 E.pl.length d3] 37)).alloc (.cells #[.string ⟨#[115]⟩, .slice oa ord.length oc, .bool false, .int .i64 0, .int .i64 0, .slice none 0 0, .int .i64 (-1)] 61)).alloc (.cells #[.string ⟨#[]⟩, .slice ha hs.length hc, .slice none 0 0, .slice none 0 0, .slice none 0 0, .slice none 0 0, .slice (some ⟨W.heap.size + 1, 0, none⟩) 1 1, .slice none 0 0, .slice none 0 0] 31)) wo := HX2.out; have h2 : wo.heap.size ≤ wq.heap.size := HWQ.out; have := h.le; simp only [World.size_alloc] at this; omega
                    have P0' : Hid ((((W.alloc (.cells #[.slice b0 E.va.length d0, .slice b1 E.fi.length d1, .slice b2 E.me.length d2, .slice b3 E.pl.length d3] 37)).alloc (.cells #[.string ⟨#[115]⟩, .slice oa ord.length oc, .bool false, .int .i64 0, .int .i64 0, .slice none 0 0, .int .i64 (-1)] 61)).alloc (.cells #[.string ⟨#[]⟩, .slice ha hs.length hc, .slice none 0 0, .slice none 0 0, .slice none 0 0, .slice none 0 0, .slice (some ⟨W.heap.size + 1, 0, none⟩) 1 1, .slice none 0 0, .slice none 0 0] 31)).cell? ⟨W.heap.size + 1 + 1, 0, none⟩ = some (.string ⟨#[]⟩)) := Lib.hid (pc0 _)
                    have P1' : Hid ((((W.alloc (.cells #[.slice b0 E.va.length d0, .slice b1 E.fi.length d1, .slice b2 E.me.length d2, .slice b3 E.pl.length d3] 37)).alloc (.cells #[.string ⟨#[115]⟩, .slice oa ord.length oc, .bool false, .int .i64 0, .int .i64 0, .slice none 0 0, .int .i64 (-1)] 61)).alloc (.cells #[.string ⟨#[]⟩, .slice ha hs.length hc, .slice none 0 0, .slice none 0 0, .slice none 0 0, .slice none 0 0, .slice (some ⟨W.heap.size + 1, 0, none⟩) 1 1, .slice none 0 0, .slice none 0 0] 31)).cell? ⟨W.heap.size + 1 + 1, 1, none⟩ = some (.slice ha hs.length hc)) := Lib.hid (pc1 _)
                    have P2' : Hid ((((W.alloc (.cells #[.slice b0 E.va.length d0, .slice b1 E.fi.length d1, .slice b2 E.me.length d2, .slice b3 E.pl.length d3] 37)).alloc (.cells #[.string ⟨#[115]⟩, .slice oa ord.length oc, .bool false, .int .i64 0, .int .i64 0, .slice none 0 0, .int .i64 (-1)] 61)).alloc (.cells #[.string ⟨#[]⟩, .slice ha hs.length hc, .slice none 0 0, .slice none 0 0, .slice none 0 0, .slice none 0 0, .slice (some ⟨W.heap.size + 1, 0, none⟩) 1 1, .slice none 0 0, .slice none 0 0] 31)).cell? ⟨W.heap.size + 1 + 1, 2, none⟩ = some (.slice none 0 0)) := Lib.hid (pc2 _)
                    have P3' : Hid ((((W.alloc (.cells #[.slice b0 E.va.length d0, .slice b1 E.fi.length d1, .slice b2 E.me.length d2, .slice b3 E.pl.length d3] 37)).alloc (.cells #[.string ⟨#[115]⟩, .slice oa ord.length oc, .bool false, .int .i64 0, .int .i64 0, .slice none 0 0, .int .i64 (-1)] 61)).alloc (.cells #[.string ⟨#[]⟩, .slice ha hs.length hc, .slice none 0 0, .slice none 0 0, .slice none 0 0, .slice none 0 0, .slice (some ⟨W.heap.size + 1, 0, none⟩) 1 1, .slice none 0 0, .slice none 0 0] 31)).cell? ⟨W.heap.size + 1 + 1, 3, none⟩ = some (.slice none 0 0)) := Lib.hid (pc3 _)
                    have P4' : Hid ((((W.alloc (.cells #[.slice b0 E.va.length d0, .slice b1 E.fi.length d1, .slice b2 E.me.length d2, .slice b3 E.pl.length d3] 37)).alloc (.cells #[.string ⟨#[115]⟩, .slice oa ord.length oc, .bool false, .int .i64 0, .int .i64 0, .slice none 0 0, .int .i64 (-1)] 61)).alloc (.cells #[.string ⟨#[]⟩, .slice ha hs.length hc, .slice none 0 0, .slice none 0 0, .slice none 0 0, .slice none 0 0, .slice (some ⟨W.heap.size + 1, 0, none⟩) 1 1, .slice none 0 0, .slice none 0 0] 31)).cell? ⟨W.heap.size + 1 + 1, 4, none⟩ = some (.slice none 0 0)) := Lib.hid (pc4 _)
                    have P5' : Hid ((((W.alloc (.cells #[.slice b0 E.va.length d0, .slice b1 E.fi.length d1, .slice b2 E.me.length d2, .slice b3 E.pl.length d3] 37)).alloc (.cells #[.string ⟨#[115]⟩, .slice oa ord.length oc, .bool false, .int .i64 0, .int .i64 0, .slice none 0 0, .int .i64 (-1)] 61)).alloc (.cells #[.string ⟨#[]⟩, .slice ha hs.length hc, .slice none 0 0, .slice none 0 0, .slice none 0 0, .slice none 0 0, .slice (some ⟨W.heap.size + 1, 0, none⟩) 1 1, .slice none 0 0, .slice none 0 0] 31)).cell? ⟨W.heap.size + 1 + 1, 5, none⟩ = some (.slice none 0 0)) := Lib.hid (pc5 _)
                    have P6' : Hid ((((W.alloc (.cells #[.slice b0 E.va.length d0, .slice b1 E.fi.length d1, .slice b2 E.me.length d2, .slice b3 E.pl.length d3] 37)).alloc (.cells #[.string ⟨#[115]⟩, .slice oa ord.length oc, .bool false, .int .i64 0, .int .i64 0, .slice none 0 0, .int .i64 (-1)] 61)).alloc (.cells #[.string ⟨#[]⟩, .slice ha hs.length hc, .slice none 0 0, .slice none 0 0, .slice none 0 0, .slice none 0 0, .slice (some ⟨W.heap.size + 1, 0, none⟩) 1 1, .slice none 0 0, .slice none 0 0] 31)).cell? ⟨W.heap.size + 1 + 1, 6, none⟩ = some (.slice (some ⟨W.heap.size + 1, 0, none⟩) 1 1)) := Lib.hid (pc6 _)
                    have P7' : Hid ((((W.alloc (.cells #[.slice b0 E.va.length d0, .slice b1 E.fi.length d1, .slice b2 E.me.length d2, .slice b3 E.pl.length d3] 37)).alloc (.cells #[.string ⟨#[115]⟩, .slice oa ord.length oc, .bool false, .int .i64 0, .int .i64 0, .slice none 0 0, .int .i64 (-1)] 61)).alloc (.cells #[.string ⟨#[]⟩, .slice ha hs.length hc, .slice none 0 0, .slice none 0 0, .slice none 0 0, .slice none 0 0, .slice (some ⟨W.heap.size + 1, 0, none⟩) 1 1, .slice none 0 0, .slice none 0 0] 31)).cell? ⟨W.heap.size + 1 + 1, 7, none⟩ = some (.slice none 0 0)) := Lib.hid (pc7 _)
                    have P8' : Hid ((((W.alloc (.cells #[.slice b0 E.va.length d0, .slice b1 E.fi.length d1, .slice b2 E.me.length d2, .slice b3 E.pl.length d3] 37)).alloc (.cells #[.string ⟨#[115]⟩, .slice oa ord.length oc, .bool false, .int .i64 0, .int .i64 0, .slice none 0 0, .int .i64 (-1)] 61)).alloc (.cells #[.string ⟨#[]⟩, .slice ha hs.length hc, .slice none 0 0, .slice none 0 0, .slice none 0 0, .slice none 0 0, .slice (some ⟨W.heap.size + 1, 0, none⟩) 1 1, .slice none 0 0, .slice none 0 0] 31)).cell? ⟨W.heap.size + 1 + 1, 8, none⟩ = some (.slice none 0 0)) := Lib.hid (pc8 _)
                    have XSW : Hid (Ext ((W.alloc (.cells #[.slice b0 E.va.length d0, .slice b1 E.fi.length d1, .slice b2 E.me.length d2, .slice b3 E.pl.length d3] 37)).alloc (.cells #[.string ⟨#[115]⟩, .slice oa ord.length oc, .bool false, .int .i64 0, .int .i64 0, .slice none 0 0, .int .i64 (-1)] 61)) (((W.alloc (.cells #[.slice b0 E.va.length d0, .slice b1 E.fi.length d1, .slice b2 E.me.length d2, .slice b3 E.pl.length d3] 37)).alloc (.cells #[.string ⟨#[115]⟩, .slice oa ord.length oc, .bool false, .int .i64 0, .int .i64 0, .slice none 0 0, .int .i64 (-1)] 61)).alloc (.cells #[.string ⟨#[]⟩, .slice ha hs.length hc, .slice none 0 0, .slice none 0 0, .slice none 0 0, .slice none 0 0, .slice (some ⟨W.heap.size + 1, 0, none⟩) 1 1, .slice none 0 0, .slice none 0 0] 31))) := Lib.hid ((Ext.refl _).alloc _)
                    have PE3' : Hid ((((W.alloc (.cells #[.slice b0 E.va.length d0, .slice b1 E.fi.length d1, .slice b2 E.me.length d2, .slice b3 E.pl.length d3] 37)).alloc (.cells #[.string ⟨#[115]⟩, .slice oa ord.length oc, .bool false, .int .i64 0, .int .i64 0, .slice none 0 0, .int .i64 (-1)] 61)).alloc (.cells #[.string ⟨#[]⟩, .slice ha hs.length hc, .slice none 0 0, .slice none 0 0, .slice none 0 0, .slice none 0 0, .slice (some ⟨W.heap.size + 1, 0, none⟩) 1 1, .slice none 0 0, .slice none 0 0] 31)).cell? ⟨W.heap.size, 3, none⟩ = some (.slice b3 E.pl.length d3)) := Lib.hid (ec3 _)
                    have dp0 := pc0 w8
                    have dp1 := pc1 w8
                    have dp2 := pc2 w8
                    have dp3 := pc3 w8
                    have dp4 := pc4 w8
                    have dp5 := pc5 w8
                    have dp6 := pc6 w8
                    have dp7 := pc7 w8
                    have dp8 := pc8 w8
                    have de3 := ec3 w8
                    have jp0 := World.new_ne w8 _ dp0
                    have jp1 := World.new_ne w8 _ dp1
                    have jp2 := World.new_ne w8 _ dp2
                    have jp3 := World.new_ne w8 _ dp3
                    have jp4 := World.new_ne w8 _ dp4
                    have jp5 := World.new_ne w8 _ dp5
                    have jp6 := World.new_ne w8 _ dp6
                    have jp7 := World.new_ne w8 _ dp7
                    have jp8 := World.new_ne w8 _ dp8
                    have je3 := World.new_ne w8 _ de3
                    go_cut [20, 21] (fun s u wx => ∃ (Bn : Nat) (ev2 : Pg.EV), s = .pointer (some ⟨Bn, 0, none⟩) ∧ u = .int .i64 0 ∧ wx.heap[Bn]? = some (.cells #[ev2.c0, ev2.c1, ev2.c2, ev2.c3] 37 (0, 0)) ∧ Pg.IsE wx ev2 SE ∧ wx.heap[g12]? = some (.cells #[.slice y0 F0.va.length z0, .slice y1 F0.fi.length z1, .slice y2 F0.me.length z2, .slice b3 E.pl.length d3] 37 (0, 0)) ∧ Pg.IsE wx ⟨.slice y0 F0.va.length z0, .slice y1 F0.fi.length z1, .slice y2 F0.me.length z2, .slice b3 E.pl.length d3⟩ SE ∧ Ext W wx)
                    case first =>
                      go_region_held_law (fun w' => w'.cell? ⟨W.heap.size + 1 + 1, 0, none⟩ = some (.string ⟨#[]⟩) ∧ w'.cell? ⟨W.heap.size + 1 + 1, 1, none⟩ = some (.slice ha hs.length hc) ∧ w'.cell? ⟨W.heap.size + 1 + 1, 2, none⟩ = some (.slice none 0 0) ∧ w'.cell? ⟨W.heap.size + 1 + 1, 3, none⟩ = some (.slice none 0 0) ∧ w'.cell? ⟨W.heap.size + 1 + 1, 4, none⟩ = some (.slice none 0 0) ∧ w'.cell? ⟨W.heap.size + 1 + 1, 5, none⟩ = some (.slice none 0 0) ∧ w'.cell? ⟨W.heap.size + 1 + 1, 6, none⟩ = some (.slice (some ⟨W.heap.size + 1, 0, none⟩) 1 1) ∧ w'.cell? ⟨W.heap.size + 1 + 1, 7, none⟩ = some (.slice none 0 0) ∧ w'.cell? ⟨W.heap.size + 1 + 1, 8, none⟩ = some (.slice none 0 0) ∧ w'.cell? ⟨W.heap.size, 3, none⟩ = some (.slice b3 E.pl.length d3)) (go_keep) (first | (refine step_append_any (by rfl) (.tmp 140) (.tmp 142) 35 (by rfl) wq.heap.size 5 (.int .u8 0) 1 1 Try.underlying35 info_u8 (by rfl) (by decide) _ dat.length (u8s dat) (by rfl) (by first | exact HDA1.out | exact HDA2.out) _ E.pl.length (E.pl.map (.int .u8)) (by rfl) (by first | exact HPS1.out | exact HPS2.out) (by unfold maxLen; omega) (by omega) (by first | exact hb1 | exact hb2) ?_; intro v' w9 hown hgr; obtain ⟨qa, qc, rfl⟩ := own_slice hown; have XW9 : Ext W w9 := (by first | exact (XW8.out.drew).mod (grown_mod hgr) (fun q hq => by have h := own_ge HDA1.out hq.symm; omega) | exact ((XW8.out.drew).alloc _).mod (grown_mod hgr) (fun q hq => by have h := own_ge HDA2.out hq.symm; omega)); have XS9 : Ext (((W.alloc (.cells #[.slice b0 E.va.length d0, .slice b1 E.fi.length d1, .slice b2 E.me.length d2, .slice b3 E.pl.length d3] 37)).alloc (.cells #[.string ⟨#[115]⟩, .slice oa ord.length oc, .bool false, .int .i64 0, .int .i64 0, .slice none 0 0, .int .i64 (-1)] 61)).alloc (.cells #[.string ⟨#[]⟩, .slice ha hs.length hc, .slice none 0 0, .slice none 0 0, .slice none 0 0, .slice none 0 0, .slice (some ⟨W.heap.size + 1, 0, none⟩) 1 1, .slice none 0 0, .slice none 0 0] 31)) w9 := (by first | exact (X8.out.drew).mod (grown_mod hgr) (fun q hq => by have h := own_ge HDA1.out hq.symm; simp only [World.size_alloc]; omega) | exact ((X8.out.drew).alloc _).mod (grown_mod hgr) (fun q hq => by have h := own_ge HDA2.out hq.symm; simp only [World.size_alloc]; omega)); have OF9 := (by first | exact (OF8.out.ext ((Ext.refl w8).drew)).grown HDA1.out hgr | exact (OF8.out.ext (((Ext.refl w8).drew).alloc _)).grown HDA2.out hgr : OwnF (W.heap.size + 3) w9 ⟨.slice y0 F0.va.length z0, .slice y1 F0.fi.length z1, .slice y2 F0.me.length z2, .slice y3 F0.pl.length z3⟩ vs' F); have KF9 := (by first | exact grown_box hgr HDA1.out KF8.out (by decide) | exact grown_box hgr HDA2.out (((Ext.refl w8).drew.alloc _).heap KF8.out) (by decide) : w9.heap[g12]? = some (.cells #[.slice y0 F0.va.length z0, .slice y1 F0.fi.length z1, .slice y2 F0.me.length z2, .slice b3 E.pl.length d3] 37 (0, 0))); have SR9 : Src w9 (.slice qa (dat.length + E.pl.length) qc) 1 (dat.length + E.pl.length) (u8s (dat ++ E.pl)) := (by rw [show u8s (dat ++ E.pl) = u8s dat ++ E.pl.map (.int .u8) by simp [u8s]]; exact own_src hown (by intro u hu; rcases List.mem_append.1 hu with h | h <;> (simp [u8s] at h; obtain ⟨_, _, rfl⟩ := h; rfl))); have pd0 := (XS9).cell P0'.out; have pd1 := (XS9).cell P1'.out; have pd2 := (XS9).cell P2'.out; have pd3 := (XS9).cell P3'.out; have pd4 := (XS9).cell P4'.out; have pd5 := (XS9).cell P5'.out; have pd6 := (XS9).cell P6'.out; have pd7 := (XS9).cell P7'.out; have pd8 := (XS9).cell P8'.out; have pe9 := XS9.cell PE3'.out; have gn0 := World.new_ne w9 _ pd0; have gn1 := World.new_ne w9 _ pd1; have gn2 := World.new_ne w9 _ pd2; have gn3 := World.new_ne w9 _ pd3; have gn4 := World.new_ne w9 _ pd4; have gn5 := World.new_ne w9 _ pd5; have gn6 := World.new_ne w9 _ pd6; have gn7 := World.new_ne w9 _ pd7; have gn8 := World.new_ne w9 _ pd8; have gne := World.new_ne w9 _ pe9; (try (have K20 : w9.heap[w8.heap.size]? = some (.cells #[.slice none 0 0, .slice none 0 0, .slice none 0 0, .slice none 0 0] 37 (0, 0)) := grown_box hgr HDA2.out (alloc_heap w8.drew (.cells #[.slice none 0 0, .slice none 0 0, .slice none 0 0, .slice none 0 0] 37)) (by decide))); have XW9' := Lib.hid XW9; have XS9' := Lib.hid XS9; have OF9' := Lib.hid OF9; have KF9' := Lib.hid KF9; have SR9' := Lib.hid SR9; clear XW9 XS9 OF9 KF9 SR9 hown hgr) | (go_at_call 25; go_loud (refine (HPA.out _ (by first | exact XSW.out.trans XS9'.out | exact (XSW.out.trans XS9'.out).alloc _) _ _ (by first | exact SR9'.out | exact SR9'.out.ext ((Ext.refl _).alloc _))).mono ?_; rintro e w10 ⟨ev2, vs2, rfl, x10, o10⟩; dsimp only at o10; obtain ⟨u0, u1, u2, u3, t0, t1, t2, t3, hg⟩ := o10.isE.form; obtain ⟨rfl, _, _, _, _, _, _, _, _⟩ := hg; dsimp only [Pg.EV.val]; have y10 : Ext w9 w10 := (by first | exact x10 | exact ((Ext.refl w9).alloc _).trans x10); have pf0 := (XS9'.out.trans y10).cell P0'.out; have pf1 := (XS9'.out.trans y10).cell P1'.out; have pf2 := (XS9'.out.trans y10).cell P2'.out; have pf3 := (XS9'.out.trans y10).cell P3'.out; have pf4 := (XS9'.out.trans y10).cell P4'.out; have pf5 := (XS9'.out.trans y10).cell P5'.out; have pf6 := (XS9'.out.trans y10).cell P6'.out; have pf7 := (XS9'.out.trans y10).cell P7'.out; have pf8 := (XS9'.out.trans y10).cell P8'.out; have pe10 := (XS9'.out.trans y10).cell PE3'.out; have hn0 := World.new_ne w10 _ pf0; have hn1 := World.new_ne w10 _ pf1; have hn2 := World.new_ne w10 _ pf2; have hn3 := World.new_ne w10 _ pf3; have hn4 := World.new_ne w10 _ pf4; have hn5 := World.new_ne w10 _ pf5; have hn6 := World.new_ne w10 _ pf6; have hn7 := World.new_ne w10 _ pf7; have hn8 := World.new_ne w10 _ pf8; have hne := World.new_ne w10 _ pe10; (first | (have K21 : w10.heap[w8.heap.size]? = some (.cells #[.slice none 0 0, .slice none 0 0, .slice none 0 0, .slice none 0 0] 37 (0, 0)) := y10.heap K20) | (have K21 : w10.heap[w9.heap.size]? = some (.cells #[.slice none 0 0, .slice none 0 0, .slice none 0 0, .slice none 0 0] 37 (0, 0)) := x10.heap (alloc_heap w9 (.cells #[.slice none 0 0, .slice none 0 0, .slice none 0 0, .slice none 0 0] 37))) | skip); try (have k0 := cell_of (o := 0) K21; have k1 := cell_of (o := 1) K21; have k2 := cell_of (o := 2) K21; have k3 := cell_of (o := 3) K21; have kf0 := free_of (o := 0) K21; have kf1 := free_of (o := 1) K21; have kf2 := free_of (o := 2) K21; have kf3 := free_of (o := 3) K21))))
                      all_goals (try go_wp2_with fail)
                      all_goals go_meet
                      · have xl := (Ext.refl w10).alloc (.cells #[.slice u0 SE.va.length t0, .slice u1 SE.fi.length t1, .slice u2 SE.me.length t2, .slice u3 SE.pl.length t3] 37)
                        refine ⟨_, ⟨.slice u0 SE.va.length t0, .slice u1 SE.fi.length t1, .slice u2 SE.me.length t2, .slice u3 SE.pl.length t3⟩, rfl, rfl, alloc_heap _ _, o10.isE.ext xl, xl.heap (y10.heap KF9'.out), ?_, (XW9'.out.trans y10).trans xl⟩
                        have h := (OF9'.out.ext (y10.trans xl)).isE (HPL.out.1.ext ((XW9'.out.trans y10).trans xl)) HPL.out.2
                        rw [← HSE.out] at h; exact h
                      · obtain ⟨m10, hb10⟩ := tower4 (.slice u0 SE.va.length t0) (.slice u1 SE.fi.length t1) (.slice u2 SE.me.length t2) (.slice u3 SE.pl.length t3) K21
                        have xl := (XW9'.out.trans y10).mod m10 (fun q hq => by rw [hq]; exact XW9'.out.le)
                        refine ⟨_, ⟨.slice u0 SE.va.length t0, .slice u1 SE.fi.length t1, .slice u2 SE.me.length t2, .slice u3 SE.pl.length t3⟩, rfl, rfl, hb10, (o10.box m10 K21).isE, m10.heap (y10.heap KF9'.out) (Nat.ne_of_lt (lt_of_block KF9'.out)), ?_, xl⟩
                        have h := ((OF9'.out.ext y10).box m10 K21).isE (HPL.out.1.ext xl) HPL.out.2
                        rw [← HSE.out] at h; exact h
                      · obtain ⟨m10, hb10⟩ := tower4 (.slice u0 SE.va.length t0) (.slice u1 SE.fi.length t1) (.slice u2 SE.me.length t2) (.slice u3 SE.pl.length t3) K21
                        have xl := (XW9'.out.trans y10).mod m10 (fun q hq => by rw [hq]; exact XW8.out.le)
                        refine ⟨_, ⟨.slice u0 SE.va.length t0, .slice u1 SE.fi.length t1, .slice u2 SE.me.length t2, .slice u3 SE.pl.length t3⟩, rfl, rfl, hb10, (o10.box m10 K21).isE, m10.heap (y10.heap KF9'.out) (Nat.ne_of_lt (lt_of_block KF8.out)), ?_, xl⟩
                        have h := ((OF9'.out.ext y10).box m10 K21).isE (HPL.out.1.ext xl) HPL.out.2
                        rw [← HSE.out] at h; exact h
                    case rest =>
                      obtain ⟨Bn, ev2, rfl, rfl, hB, hI, h12, hI2, hxW⟩ := hcut
                      have HEQ : Hid (Calls Try.prog 27 #[ev2.val, .agg #[.slice y0 F0.va.length z0, .slice y1 F0.fi.length z1, .slice y2 F0.me.length z2, .slice b3 E.pl.length d3]] wc (Rets wc (.bool true))) := Lib.hid (by have h := refeequal_any hI hI2; rw [En.eq_self] at h; exact h)
                      obtain ⟨u0, u1, u2, u3, t0, t1, t2, t3, hg⟩ := hI.form
                      obtain ⟨rfl, _, _, _, _, _, _, _, _⟩ := hg
                      dsimp only [Pg.EV.val] at HEQ
                      dsimp only at hB
                      clear hI hI2
                      have hB0 := cell_of (o := 0) hB
                      have hB1 := cell_of (o := 1) hB
                      have hB2 := cell_of (o := 2) hB
                      have hB3 := cell_of (o := 3) hB
                      have hC0 := cell_of (o := 0) h12
                      have hC1 := cell_of (o := 1) h12
                      have hC2 := cell_of (o := 2) h12
                      have hC3 := cell_of (o := 3) h12
                      clear hB h12
                      have sW := Step.mk hxW
                      clear hxW
                      go_wp2_with fail
                      refine HEQ.out.mono ?_
                      rintro e wf ⟨rfl, xf⟩
                      have sf := Step.mk xf
                      clear xf
                      go_wp2_with fail
                      refine (pworks_any _).mono ?_
                      rintro e wk ⟨rfl, xwk⟩
                      have swk := Step.mk xwk
                      clear xwk
                      go_wp2_with fail
                      go_ret
                      exact ⟨rfl, grows⟩
                  · have g2 : decide ((512 : Int) < (dat.length : Int) + (E.pl.length : Int)) = true := decide_eq_true (by omega)
                    go_wp2_with fail
                    refine (pworks_any _).mono ?_
                    rintro e wk ⟨rfl, xwk⟩
                    have swk := Step.mk xwk
                    clear xwk
                    go_wp2_with fail
                    go_ret
                    exact ⟨rfl, grows⟩
        · have z1 : (ce != 0) = true := bne_iff_ne.2 hc0
          clear hc0
          clear hq hrows he hva hfi hme hpl hR hob hce hP hx hord xw
          go_enter Try.func10, Try.ntmps10
          go_wp2_with fail
          refine (HC.out _ grows).mono ?_
          rintro e w1 ⟨rfl, xw1⟩
          have sw1 := Step.mk xw1
          clear xw1
          go_wp2_with fail
          refine (HTL.out _ grows).mono ?_
          rintro e w2 ⟨rfl, xw2⟩
          have sw2 := Step.mk xw2
          clear xw2
          go_wp2_with fail
          refine (HCE.out _ grows).mono ?_
          rintro e w3 ⟨rfl, xw3⟩
          have sw3 := Step.mk xw3
          clear xw3
          go_wp2_with fail
          refine (pworks_any _).mono ?_
          rintro e wk ⟨rfl, xwk⟩
          have swk := Step.mk xwk
          clear xwk
          go_wp2_with fail
          go_ret
          exact ⟨rfl, grows⟩
      · have g1 : decide ((100 : Int) < (E.pl.length : Int)) = true := decide_eq_true (by omega)
        clear hq hrows he hva hfi hme hpl hR hob hce hP hx hord xw
        go_enter Try.func10, Try.ntmps10
        go_wp2_with fail
        refine (HC.out _ grows).mono ?_
        rintro e w1 ⟨rfl, xw1⟩
        have sw1 := Step.mk xw1
        clear xw1
        go_wp2_with fail
        refine (HTL.out _ grows).mono ?_
        rintro e w2 ⟨rfl, xw2⟩
        have sw2 := Step.mk xw2
        clear xw2
        go_wp2_with fail
        refine (pworks_any _).mono ?_
        rintro e wk ⟨rfl, xwk⟩
        have swk := Step.mk xwk
        clear xwk
        go_wp2_with fail
        go_ret
        exact ⟨rfl, grows⟩
    · have z1 : (c3 != 0) = true := bne_iff_ne.2 hc3
      clear hc3
      clear hq hrows he hva hfi hme hpl hR hob hce hP hx hord xw
      go_enter Try.func10, Try.ntmps10
      go_wp2_with fail
      refine (HC.out _ grows).mono ?_
      rintro e w1 ⟨rfl, xw1⟩
      have sw1 := Step.mk xw1
      clear xw1
      go_wp2_with fail
      refine (HTL.out _ grows).mono ?_
      rintro e w2 ⟨rfl, xw2⟩
      have sw2 := Step.mk xw2
      clear xw2
      go_wp2_with fail
      refine (pworks_any _).mono ?_
      rintro e wk ⟨rfl, xwk⟩
      have swk := Step.mk xwk
      clear xwk
      go_wp2_with fail
      go_ret
      exact ⟨rfl, grows⟩
end Go.Proofs.Ytonnlcjkgpahoaa
