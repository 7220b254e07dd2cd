/- Regions that draw their order: calls known by relations. No condition. -/
import Derived.Test.YtonnlcjkgpahoaaBase
import Derived.StillTail
import Derived.BigQuiet
import Derived.BigCall
import Derived.Test.YtonnlcjkgpahoaaTail
import Derived.Deep.OwnRows
import Derived.Test.YtonnlcjkgpahoaaMem
import Derived.Laws.Tables
import Derived.Laws.CopyRow
namespace Go.Proofs.Ytonnlcjkgpahoaa
open Go.RowKit

namespace Rel
/-- what one operation leaves -/
def upon (P : Program) (r : Value → World → Prop) (w : World) : Result Next → Prop
  | .ok (.value u) w' => Ext w w' ∧ r u w'
  | .ok .skip w' => Ext w w' ∧ r undef w'
  | .ok (.enter f args) w' => w' = w ∧ Calls P f args w (fun e w'' => ∃ v, e = .returned v ∧ Ext w w'' ∧ r v w'')
  | _ => False
def leaves (P : Program) (r : Value → World → Prop) (o : Oper) (a : Act) (w : World) : Prop := upon P r w ((execOp a.eval o).run P w)
/-- an operation that enters no function -/
def pureB (o : Oper) : Bool :=
  match o.op with
  | .call c => (match c.callee with | .builtin .len => true | _ => false)
  | .nilCheck _ | .go _ | .defer _ | .send _ _ | .recv _ _ _ | .select _ _ => false
  | _ => true
theorem no_enter_v {s : Sem Value} {P : Program} {w w' : World} {f : FuncId} {args : Array Value} : (do pure (Next.value (← s)) : Sem Next).run P w ≠ .ok (.enter f args) w' := by
  rw [Sem.run_bind]
  cases s.run P w <;> simp [Result.andThen, Sem.run_pure]
theorem no_enter_g {α : Type} {s : Sem α} {g : α → Value} {P : Program} {w w' : World} {f : FuncId} {args : Array Value} : (do pure (Next.value (g (← s))) : Sem Next).run P w ≠ .ok (.enter f args) w' := by
  rw [Sem.run_bind]
  cases s.run P w <;> simp [Result.andThen, Sem.run_pure]
theorem no_enter_u {s : Sem Unit} {P : Program} {w w' : World} {f : FuncId} {args : Array Value} : (do s; pure Next.skip : Sem Next).run P w ≠ .ok (.enter f args) w' := by
  rw [Sem.run_bind]
  cases s.run P w <;> simp [Result.andThen, Sem.run_pure]
theorem no_enter_p {v : Value} {P : Program} {w w' : World} {f : FuncId} {args : Array Value} : (pure (Next.value v) : Sem Next).run P w ≠ .ok (.enter f args) w' := by
  simp [Sem.run_pure]
theorem no_enter {o : Oper} (h : pureB o = true) {ρ : Operand → Value} {P : Program} {w w' : World} {f : FuncId} {args : Array Value} : (execOp ρ o).run P w ≠ .ok (.enter f args) w' := by
  obtain ⟨dst, op, ty, pos, aft, gd⟩ := o
  cases op with
  | call c =>
    obtain ⟨ce, xs, ts⟩ := c
    cases ce with
    | builtin b => cases b <;> first | (simp [pureB] at h; done) | exact no_enter_v
    | value f => simp [pureB] at h
    | invoke r m => simp [pureB] at h
  | _ => first | (simp [pureB] at h; done) | exact no_enter_p | exact no_enter_v | exact no_enter_u | exact no_enter_g

abbrev Facts := Nat → World → Prop
def add (Φ : Facts) (j : Nat) (F : World → Prop) : Facts := fun k w => Φ k w ∧ (k = j → F w)
theorem add_true (Φ : Facts) (j : Nat) : add Φ j (fun _ => True) = Φ := by
  funext k w; exact propext ⟨fun h => h.1, fun h => ⟨h, fun _ => trivial⟩⟩
theorem add_comm (Φ : Facts) (i j : Nat) (F G : World → Prop) : add (add Φ i F) j G = add (add Φ j G) i F := by
  funext k w; exact propext ⟨fun h => ⟨⟨h.1.1, h.2⟩, h.1.2⟩, fun h => ⟨⟨h.1.1, h.2⟩, h.1.2⟩⟩

section
variable {P : Program} {ops : Array Oper} {md : Region.Mode} {W0 : World} {R : Nat → Option (Value → World → Prop)}

/-- the worlds in which operation j may come up: the facts of those it waits for hold -/
def cls (md : Region.Mode) (ops : Array Oper) (W0 : World) (Φ : Facts) (j : Nat) (w : World) : Prop := Ext W0 w ∧ ∀ k, Region.waitsFor md ops j k = true → Φ k w
theorem cls_add {Φ : Facts} {i j : Nat} {F : World → Prop} {w : World} (h : Region.waitsFor md ops j i = false) : cls md ops W0 (add Φ i F) j w ↔ cls md ops W0 Φ j w :=
  ⟨fun ⟨h1, h2⟩ => ⟨h1, fun k hk => (h2 k hk).1⟩, fun ⟨h1, h2⟩ => ⟨h1, fun k hk => ⟨h2 k hk, fun e => by subst e; rw [h] at hk; cases hk⟩⟩⟩

/-- one operation: its possible values, and what comes with each -/
inductive Mode (P : Program) (md : Region.Mode) (ops : Array Oper) (W0 : World) (R : Nat → Option (Value → World → Prop)) (Φ : Facts) (j : Nat) (o : Oper) (a : Act) : (Value → Prop) → (Value → World → Prop) → Prop
  | skip (h : Region.wanted o (yielded ops a.tmps) = false) : Mode P md ops W0 R Φ j o a (fun v => v = undef) (fun _ _ => True)
  | exact (v0 : Value) (h : Region.wanted o (yielded ops a.tmps) = true) (hr : R j = none) (hp : pureB o = true) (hv : ∀ w, cls md ops W0 Φ j w → o.quietAt P a (Ext W0) w v0) : Mode P md ops W0 R Φ j o a (fun v => v = v0) (fun _ _ => True)
  | rel (r : Value → World → Prop) (h : Region.wanted o (yielded ops a.tmps) = true) (hr : R j = some r) (hv : ∀ w, cls md ops W0 Φ j w → leaves P r o a w) : Mode P md ops W0 R Φ j o a (fun v => ∃ w, Ext W0 w ∧ (∀ k, Φ k w) ∧ r v w) r

def step (P : Program) (md : Region.Mode) (ops : Array Oper) (W0 : World) (R : Nat → Option (Value → World → Prop)) (Φ : Facts) (j : Nat) (K : Facts → Act → Prop) (a : Act) : Prop :=
  ∃ o V F, ops[j]? = some o ∧ Mode P md ops W0 R Φ j o a V F ∧ ∀ v, V v → K (add Φ j (F v)) (a.put o.dst v)

/-- facts outlive later steps -/
def Lasts (Φ : Facts) : Prop := ∀ k w w', Φ k w → Ext w w' → Φ k w'
def LastsR (R : Nat → Option (Value → World → Prop)) : Prop := ∀ j r, R j = some r → ∀ v w w', r v w → Ext w w' → r v w'
/-- some world has them all -/
def Sat (W0 : World) (Φ : Facts) : Prop := ∃ w, Ext W0 w ∧ ∀ k, Φ k w

theorem Mode.lasts {Φ : Facts} {j : Nat} {o : Oper} {a : Act} {V : Value → Prop} {F : Value → World → Prop} (hR : LastsR R) (hΦ : Lasts Φ) (h : Mode P md ops W0 R Φ j o a V F) (v : Value) : Lasts (add Φ j (F v)) := by
  intro k w w' hk hx
  refine ⟨hΦ k w w' hk.1 hx, fun e => ?_⟩
  have hF := hk.2 e
  cases h with
  | skip h => trivial
  | exact v0 h hr hp hv => trivial
  | rel r h hr hv => exact hR j _ hr v w w' hF hx
theorem Mode.sat {Φ : Facts} {j : Nat} {o : Oper} {a : Act} {V : Value → Prop} {F : Value → World → Prop} (hs : Sat W0 Φ) (h : Mode P md ops W0 R Φ j o a V F) {v : Value} (hv : V v) : Sat W0 (add Φ j (F v)) := by
  cases h with
  | skip h => rw [add_true]; exact hs
  | exact v0 h hr hp hv => rw [add_true]; exact hs
  | rel r h hr hv' =>
    obtain ⟨w, h1, h2, h3⟩ := hv
    exact ⟨w, h1, fun k => ⟨h2 k, fun _ => h3⟩⟩
theorem Mode.some {Φ : Facts} {j : Nat} {o : Oper} {a : Act} {V : Value → Prop} {F : Value → World → Prop} (hΦ : Lasts Φ) (hs : Sat W0 Φ) (h : Mode P md ops W0 R Φ j o a V F) : ∃ v, V v := by
  cases h with
  | skip h => exact ⟨_, rfl⟩
  | exact v0 h hr hp hv => exact ⟨_, rfl⟩
  | rel r h hr hv =>
    obtain ⟨w, h1, h2⟩ := hs
    have h3 := hv w ⟨h1, fun k _ => h2 k⟩
    unfold leaves at h3
    generalize (execOp a.eval o).run P w = res at h3
    cases res with
    | ok n w' =>
      cases n <;> simp only [upon] at h3
      case value u => exact ⟨u, w', h1.trans h3.1, fun k => hΦ k w w' (h2 k) h3.1, h3.2⟩
      case skip => exact ⟨undef, w', h1.trans h3.1, fun k => hΦ k w w' (h2 k) h3.1, h3.2⟩
      case enter f args =>
        obtain ⟨_, hc⟩ := h3
        obtain ⟨e, w'', fr, ⟨v, _, hx, hr'⟩, _⟩ := hc []
        exact ⟨v, w'', h1.trans hx, fun k => hΦ k w w'' (h2 k) hx, hr'⟩
    | halt x w' => simp only [upon] at h3

/-- two values of one operation that enters no function are one -/
theorem quiet_one {o : Oper} {a : Act} {w : World} {u v : Value} {C : World → Prop} (hp : pureB o = true) (hu : o.quietAt P a C w u) (hv : o.quietAt P a C w v) : u = v := by
  have hn := fun w' f args => no_enter (P := P) (w := w) (w' := w') (f := f) (args := args) hp (ρ := a.eval)
  unfold Oper.quietAt at hu hv
  generalize (execOp a.eval o).run P w = res at hu hv hn
  cases res with
  | ok n w' =>
    cases n <;> simp only [Oper.quietUpon] at hu hv
    case value x => rw [← hu.2, ← hv.2]
    case skip => rw [hu.2, hv.2]
    case enter f args => exact absurd rfl (hn w' f args)
  | halt x w' => simp only [Oper.quietUpon] at hu

theorem leaves_put {o : Oper} (hs : ∀ cs b, o.op ≠ .select cs b) {a : Act} {dst : Option Tmp} {v : Value} (h : ∀ d, dst = some d → d ∉ o.looksAt ops) {r : Value → World → Prop} {w : World} : leaves P r o (a.put dst v) w ↔ leaves P r o a w := by
  unfold leaves; rw [execOp_put o hs a dst v h]
theorem quiet_put {o : Oper} (hs : ∀ cs b, o.op ≠ .select cs b) {a : Act} {dst : Option Tmp} {v : Value} (h : ∀ d, dst = some d → d ∉ o.looksAt ops) {C : World → Prop} {w : World} {u : Value} : o.quietAt P (a.put dst v) C w u ↔ o.quietAt P a C w u := by
  unfold Oper.quietAt; rw [execOp_put o hs a dst v h]

/-- what i was taken for may as well be taken behind j -/
theorem swap {Φ : Facts} {i j : Nat} {oi oj : Oper} {a : Act} {K : Facts → Act → Prop} (hΦ : Lasts Φ) (hs : Sat W0 Φ) (hi : ops[i]? = some oi) (hj : ops[j]? = some oj) (hap : oi.apart ops oj = true)
    (hsi : ∀ cs b, oi.op ≠ .select cs b) (hsj : ∀ cs b, oj.op ≠ .select cs b) (wji : Region.waitsFor md ops j i = false) (wij : Region.waitsFor md ops i j = false)
    (h : step P md ops W0 R Φ i (fun Φ1 a1 => step P md ops W0 R Φ1 j K a1) a) : step P md ops W0 R Φ j (fun Φ2 a2 => step P md ops W0 R Φ2 i K a2) a := by
  obtain ⟨h1, h2, h3⟩ := Oper.apart_spec hap
  obtain ⟨o', V, F, ho, hm, hk⟩ := h
  obtain rfl : o' = oi := Option.some.inj (ho.symm.trans hi)
  obtain ⟨v1, hv1⟩ := hm.some hΦ hs
  have hk1 := hk v1 hv1
  obtain ⟨oj', Vj, Fj, hoj, hmj, _⟩ := hk1
  obtain rfl : oj' = oj := Option.some.inj (hoj.symm.trans hj)
  have hwt : ∀ v, Region.wanted oj' (yielded ops (a.put o'.dst v).tmps) = Region.wanted oj' (yielded ops a.tmps) := fun v => wanted_put oj' a o'.dst v h1
  have hwti : ∀ v, Region.wanted o' (yielded ops (a.put oj'.dst v).tmps) = Region.wanted o' (yielded ops a.tmps) := fun v => wanted_put o' a oj'.dst v h3
  -- i behind j, when j brings no fact
  have keep : ∀ u, Mode P md ops W0 R Φ i o' (a.put oj'.dst u) V F := fun u => by
    cases hm with
    | skip h => exact .skip (by rw [hwti]; exact h)
    | exact v0 h hr hp hv => exact .exact v0 (by rw [hwti]; exact h) hr hp (fun w hw => (quiet_put hsi h3).2 (hv w hw))
    | rel r h hr hv => exact .rel _ (by rw [hwti]; exact h) hr (fun w hw => (leaves_put hsi h3).2 (hv w hw))
  cases hmj with
  | skip hw =>
    refine ⟨oj', _, _, hj, .skip (by rw [← hwt v1]; exact hw), fun u hu => ?_⟩
    subst hu
    rw [add_true]
    refine ⟨o', V, F, hi, keep _, fun v hv => ?_⟩
    obtain ⟨oj2, Vj, Fj, hoj2, hmj, hkj⟩ := hk v hv
    obtain rfl : oj2 = oj' := Option.some.inj (hoj2.symm.trans hj)
    cases hmj with
    | skip h =>
      have := hkj undef rfl
      rw [add_true, Act.put_comm a v undef h2] at this
      exact this
    | exact v0 h => rw [hwt] at h; rw [hwt, h] at hw; cases hw
    | rel r h => rw [hwt] at h; rw [hwt, h] at hw; cases hw
  | exact v0 hw hr hp hv0 =>
    have hv0' : ∀ w, cls md ops W0 Φ j w → oj'.quietAt P a (Ext W0) w v0 := fun w hw => (quiet_put hsj h1).1 (hv0 w ((cls_add wji).2 hw))
    refine ⟨oj', _, _, hj, .exact v0 (by rw [← hwt v1]; exact hw) hr hp hv0', fun u hu => ?_⟩
    subst hu
    rw [add_true]
    refine ⟨o', V, F, hi, keep _, fun v hv => ?_⟩
    obtain ⟨oj2, Vj, Fj, hoj2, hmj, hkj⟩ := hk v hv
    obtain rfl : oj2 = oj' := Option.some.inj (hoj2.symm.trans hj)
    cases hmj with
    | skip h => rw [hwt] at h; rw [hwt, h] at hw; cases hw
    | exact v0' h hr' hp' hv' =>
      obtain ⟨w0, g1, g2⟩ := hs
      have hc : cls md ops W0 Φ j w0 := ⟨g1, fun k _ => g2 k⟩
      have e : v0' = u := quiet_one hp ((quiet_put hsj h1).1 (hv' w0 ((cls_add wji).2 hc))) (hv0' w0 hc)
      subst e
      have := hkj v0' rfl
      rw [add_true, Act.put_comm a v v0' h2] at this
      exact this
    | rel r h hr' => rw [hr] at hr'; cases hr'
  | rel r hw hr hvj =>
    refine ⟨oj', _, _, hj, .rel _ (by rw [← hwt v1]; exact hw) hr (fun w hw => (leaves_put hsj h1).1 (hvj w ((cls_add wji).2 hw))), fun u hu => ?_⟩
    obtain ⟨w1, g1, g2, g3⟩ := hu
    have last : ∀ v, V v → (∃ w, Ext W0 w ∧ (∀ k, add Φ i (F v) k w) ∧ Fj u w) → K (add (add Φ j (Fj u)) i (F v)) ((a.put oj'.dst u).put o'.dst v) := fun v hv hu => by
      obtain ⟨oj2, Vj2, Fj2, hoj2, hmj, hkj⟩ := hk v hv
      obtain rfl : oj2 = oj' := Option.some.inj (hoj2.symm.trans hj)
      cases hmj with
      | skip h => rw [hwt] at h; rw [hwt, h] at hw; cases hw
      | exact v0' h hr' => rw [hr] at hr'; cases hr'
      | rel r' h hr' hv' =>
        obtain rfl : Fj = Fj2 := Option.some.inj (hr.symm.trans hr')
        have := hkj u hu
        rw [add_comm, Act.put_comm a v u h2] at this
        exact this
    cases hm with
    | skip h => exact ⟨o', _, _, hi, .skip (by rw [hwti]; exact h), fun v hv => last v hv ⟨w1, g1, fun k => ⟨g2 k, fun _ => trivial⟩, g3⟩⟩
    | exact v0 h hr' hp hv => exact ⟨o', _, _, hi, .exact v0 (by rw [hwti]; exact h) hr' hp (fun w hw => (quiet_put hsi h3).2 (hv w ((cls_add wij).1 hw))), fun v hv => last v hv ⟨w1, g1, fun k => ⟨g2 k, fun _ => trivial⟩, g3⟩⟩
    | rel r' h hr' hv =>
      refine ⟨o', _, _, hi, .rel _ (by rw [hwti]; exact h) hr' (fun w hw => (leaves_put hsi h3).2 (hv w ((cls_add wij).1 hw))), fun v hv => ?_⟩
      obtain ⟨w2, q1, q2, q3⟩ := hv
      exact last v ⟨w2, q1, fun k => (q2 k).1, q3⟩ ⟨w2, q1, fun k => ⟨(q2 k).1, fun _ => q3⟩, (q2 j).2 rfl⟩

theorem step_mono {Φ : Facts} {j : Nat} {a : Act} {K K' : Facts → Act → Prop} (hR : LastsR R) (hΦ : Lasts Φ) (hs : Sat W0 Φ) (h : ∀ Φ' a', Lasts Φ' → Sat W0 Φ' → K Φ' a' → K' Φ' a') (hh : step P md ops W0 R Φ j K a) : step P md ops W0 R Φ j K' a := by
  obtain ⟨o, V, F, h1, h2, h3⟩ := hh
  exact ⟨o, V, F, h1, h2, fun v hv => h _ _ (h2.lasts hR hΦ v) (h2.sat hs hv) (h3 v hv)⟩

/-- whatever order is picked from here on -/
def any (P : Program) (md : Region.Mode) (ops : Array Oper) (W0 : World) (R : Nat → Option (Value → World → Prop)) (Q : Facts → Act → Prop) : Nat → Array Bool → Facts → Act → Prop
  | 0, listed, Φ, a => Region.ready md ops listed = [] ∧ Q Φ a
  | f + 1, listed, Φ, a => (Region.ready md ops listed = [] → Q Φ a) ∧ ∀ i ∈ Region.ready md ops listed, step P md ops W0 R Φ i (any P md ops W0 R Q f (listed.setIfInBounds i true)) a

theorem wp_of_step {Φ : Facts} {j : Nat} {a : Act} {w : World} {K : Facts → Act → Prop} {K' : Act → World → Prop} {Q' : Exit → Act → World → Prop} (hR : LastsR R) (hΦ : Lasts Φ) (hw : Ext W0 w) (hf : ∀ k, Φ k w)
    (h : ∀ Φ' a' w', Lasts Φ' → Ext W0 w' → (∀ k, Φ' k w') → K Φ' a' → K' a' w') (hh : step P md ops W0 R Φ j K a) : wpOp P ops Q' j K' a w := by
  obtain ⟨o, V, F, ho, hm, hk⟩ := hh
  unfold wpOp
  simp only [ho]
  have hl := hm.lasts hR hΦ
  cases hm with
  | skip hn =>
    simp only [hn]
    exact h _ _ _ (hl undef) hw (fun k => ⟨hf k, fun _ => trivial⟩) (hk undef rfl)
  | exact v0 hn hr hp hv =>
    simp only [hn, if_true]
    refine .inl ?_
    have h3 := hv w ⟨hw, fun k _ => hf k⟩
    have hK := hk v0 rfl
    unfold Oper.quietAt at h3
    unfold Oper.wp
    have hn := fun w' f args => no_enter (P := P) (w := w) (w' := w') (f := f) (args := args) hp (ρ := a.eval)
    generalize (execOp a.eval o).run P w = res at h3 hn
    cases res with
    | ok n w' =>
      cases n <;> simp only [Oper.quietUpon] at h3 <;> simp only [Oper.upon]
      case value u => obtain ⟨e1, e2⟩ := h3; subst e1 e2; exact h _ _ _ (hl u) hw (fun k => ⟨hf k, fun _ => trivial⟩) hK
      case skip => obtain ⟨e1, e2⟩ := h3; subst e1 e2; exact h _ _ _ (hl undef) hw (fun k => ⟨hf k, fun _ => trivial⟩) hK
      case enter f args => exact absurd rfl (hn w' f args)
    | halt x w' => simp only [Oper.quietUpon] at h3
  | rel r hn hr hv =>
    simp only [hn, if_true]
    refine .inl ?_
    have h3 := hv w ⟨hw, fun k _ => hf k⟩
    unfold leaves at h3
    unfold Oper.wp
    generalize (execOp a.eval o).run P w = res at h3
    cases res with
    | ok n w' =>
      cases n <;> simp only [upon] at h3 <;> simp only [Oper.upon]
      case value u => exact h _ _ _ (hl u) (hw.trans h3.1) (fun k => ⟨hΦ k _ _ (hf k) h3.1, fun _ => h3.2⟩) (hk u ⟨w', hw.trans h3.1, fun k => hΦ k _ _ (hf k) h3.1, h3.2⟩)
      case skip => exact h _ _ _ (hl undef) (hw.trans h3.1) (fun k => ⟨hΦ k _ _ (hf k) h3.1, fun _ => h3.2⟩) (hk undef ⟨w', hw.trans h3.1, fun k => hΦ k _ _ (hf k) h3.1, h3.2⟩)
      case enter f args =>
        obtain ⟨e1, hc⟩ := h3
        subst e1
        refine hc.mono fun e w'' he => ?_
        obtain ⟨u, he, hx, hu⟩ := he
        subst he
        exact h _ _ _ (hl u) (hw.trans hx) (fun k => ⟨hΦ k _ _ (hf k) hx, fun _ => hu⟩) (hk u ⟨w'', hw.trans hx, fun k => hΦ k _ _ (hf k) hx, hu⟩)
    | halt x w' => simp only [upon] at h3

theorem wpAny_of_any {Q : Facts → Act → Prop} {Q' : Exit → Act → World → Prop} (hR : LastsR R) (hQ : ∀ Φ a w, Ext W0 w → (∀ k, Φ k w) → Q Φ a → Q' .normal a w) :
    ∀ (f : Nat) (listed : Array Bool) (Φ : Facts) (a : Act) (w : World), Lasts Φ → Ext W0 w → (∀ k, Φ k w) → any P md ops W0 R Q f listed Φ a → wpAny P md ops Q' f listed a w
  | 0, _, _, _, _, _, hw, hf, h => ⟨h.1, hQ _ _ _ hw hf h.2⟩
  | f + 1, _, _, _, _, hl, hw, hf, h => ⟨fun h0 => hQ _ _ _ hw hf (h.1 h0), fun i hi => wp_of_step hR hl hw hf (fun Φ' a' w' hl' hw' hf' => wpAny_of_any hR hQ f _ Φ' a' w' hl' hw' hf') (h.2 i hi)⟩

/-- an operation that may come up now may be taken first -/
theorem any_first {Q : Facts → Act → Prop} {i : Nat} {oi : Oper} (hR : LastsR R) (hi : ops[i]? = some oi) (hsel : ∀ (j : Nat) (o : Oper) cs b, ops[j]? = some o → o.op ≠ .select cs b) :
    ∀ (f : Nat) (listed : Array Bool) (Φ : Facts) (a : Act), Lasts Φ → Sat W0 Φ →
      (∀ j oj, ops[j]? = some oj → j ≠ i → listed.getD j true = false → (∀ e ∈ oj.after, Region.binds md e = true → e.on ≠ i) → oi.apart ops oj = true) →
      i ∈ Region.ready md ops listed → step P md ops W0 R Φ i (any P md ops W0 R Q f (listed.setIfInBounds i true)) a → any P md ops W0 R Q (f + 1) listed Φ a := by
  intro f
  induction f with
  | zero =>
    intro listed Φ a hl hs _ hr H
    refine ⟨fun h => (by rw [h] at hr; cases hr), fun j hj => ?_⟩
    by_cases hji : j = i
    · subst hji; exact H
    · have hm := ready_mono hj hji
      obtain ⟨o, V, F, _, hmd, hk⟩ := H
      obtain ⟨v, hv⟩ := hmd.some hl hs
      rw [(hk v hv).1] at hm
      cases hm
  | succ f ih =>
    intro listed Φ a hl hs hfree hr H
    refine ⟨fun h => (by rw [h] at hr; cases hr), fun j hj => ?_⟩
    by_cases hji : j = i
    · subst hji; exact H
    · obtain ⟨hjun, oj, hoj, hall⟩ := mem_ready.1 hj
      obtain ⟨hiun, oi', hoi', halli⟩ := mem_ready.1 hr
      obtain rfl : oi = oi' := Option.some.inj (hi.symm.trans hoi')
      have hnot : ∀ e ∈ oj.after, Region.binds md e = true → e.on ≠ i := fun e he hb heq => by
        have h1 := hall e he hb
        rw [heq, getD_both hiun] at h1; cases h1
      have wji : Region.waitsFor md ops j i = false := by
        rw [← Bool.not_eq_true]; intro hw
        obtain ⟨o, ho, e, he, hb, hon⟩ := Region.waitsFor_spec hw
        obtain rfl : oj = o := Option.some.inj (hoj.symm.trans ho)
        exact hnot e he hb hon
      have wij : Region.waitsFor md ops i j = false := by
        rw [← Bool.not_eq_true]; intro hw
        obtain ⟨o, ho, e, he, hb, hon⟩ := Region.waitsFor_spec hw
        obtain rfl : oi = o := Option.some.inj (hi.symm.trans ho)
        have h1 := halli e he hb
        rw [hon, getD_both hjun] at h1; cases h1
      have hfree' : ∀ k ok, ops[k]? = some ok → k ≠ i → (listed.setIfInBounds j true).getD k true = false →
          (∀ e ∈ ok.after, Region.binds md e = true → e.on ≠ i) → oi.apart ops ok = true := fun k ok hk hki hun hno => by
        refine hfree k ok hk hki ?_ hno
        by_cases hjk : j = k
        · subst hjk; exact hjun
        · rw [getD_set_ne true hjk] at hun; exact hun
      have H2 : step P md ops W0 R Φ i (fun Φ1 a1 => step P md ops W0 R Φ1 j (any P md ops W0 R Q f ((listed.setIfInBounds i true).setIfInBounds j true)) a1) a :=
        step_mono hR hl hs (fun Φ' a' _ _ h => h.2 j (ready_mono hj hji)) H
      refine step_mono hR hl hs (fun Φ' a' hl' hs' h3 => ih (listed.setIfInBounds j true) Φ' a' hl' hs' hfree' (ready_mono hr (Ne.symm hji)) ?_)
        (swap hl hs hi hoj (hfree j oj hoj hji hjun hnot) (fun cs b => hsel i oi cs b hi) (fun cs b => hsel j oj cs b hoj) wji wij H2)
      rw [Array.setIfInBounds_comm _ _ hji]
      exact h3

/-- the walk in the order of the text -/
def walk (P : Program) (md : Region.Mode) (ops : Array Oper) (W0 : World) (R : Nat → Option (Value → World → Prop)) (Q : Facts → Act → Prop) : List Oper → Nat → Facts → Act → Prop
  | [], _, Φ, a => Q Φ a
  | _ :: l, k, Φ, a => step P md ops W0 R Φ k (walk P md ops W0 R Q l (k + 1)) a

theorem any_lex {Q : Facts → Act → Prop} (hR : LastsR R) (hs : Region.noSelect ops = true) : ∀ (l : List Oper) (k : Nat) (listed : Array Bool) (Φ : Facts) (a : Act), (∀ j, l[j]? = ops[k + j]?) →
    Region.lexFrom md ops l.length k listed = true → Lasts Φ → Sat W0 Φ → walk P md ops W0 R Q l k Φ a → any P md ops W0 R Q l.length listed Φ a
  | [], _, _, _, _, _, hB, _, _, h => ⟨by simpa [Region.lexFrom] using hB, h⟩
  | o :: l, k, listed, Φ, a, hl, hB, hL, hS, h => by
    have h0 : ops[k]? = some o := by simpa using (hl 0).symm
    simp only [List.length_cons, Region.lexFrom, Bool.and_eq_true] at hB
    obtain ⟨⟨hr, hf⟩, hB'⟩ := hB
    exact any_first hR h0 (Region.noSelect_spec hs) l.length listed Φ a hL hS (Region.free_spec h0 hf) (by simpa using hr)
      (step_mono hR hL hS (fun Φ' a' hL' hS' h' => any_lex hR hs l (k + 1) _ Φ' a' (fun j => by have := hl (j + 1); simpa [Nat.add_assoc, Nat.add_comm 1 j] using this) hB' hL' hS' h') h)

/-- The region. -/
theorem region {id : Nat} {Q : Exit → Act → World → Prop} {a : Act} {w W : World} {l : List Oper} (R : Nat → Option (Value → World → Prop)) (hR : LastsR R) (hm : P.follows .mixedOrders = true) (hB : Region.lexB .any l.toArray = true) (hW : Ext W w)
    (h : walk P .any l.toArray W R (fun Φ a' => ∀ w' : World, Ext W w' → (∀ k, Φ k w') → Q .normal a' w') l 0 (fun _ _ => True) a) : (Code.region id l.toArray true).wp P Q a w := by
  simp only [Region.lexB, Bool.and_eq_true] at hB
  refine wp_region_any hm (wpAny_of_any (Q := fun Φ a' => ∀ w' : World, Ext W w' → (∀ k, Φ k w') → Q .normal a' w') hR (fun Φ a w' hw' hf h => h w' hw' hf) _ _ _ _ _ (fun _ _ _ _ _ => trivial) hW.drew (fun _ => trivial) ?_)
  have := any_lex (P := P) (md := .any) hR hB.1 l 0 (Array.replicate l.toArray.size false) (fun _ _ => True) a (by simp) (by simpa using hB.2) (fun _ _ _ _ _ => trivial) ⟨W, Ext.refl W, fun _ => trivial⟩ h
  simpa using this

/-- some operations that need no fact, walked by the quiet walk -/
theorem chunk' {Q : Facts → Act → Prop} : ∀ (m : Nat) {l : List Oper} {k : Nat} {Φ : Facts} {a : Act}, (∀ j, l[j]? = ops[k + j]?) → (List.range m).all (fun j => (R (k + j)).isNone) = true → (l.take m).all pureB = true →
    wpQuiet P ops (fun w' => ∃ x : Later W0, w' = x.val) (fun a' => walk P md ops W0 R Q (l.drop m) (k + m) Φ a') (l.take m) a → walk P md ops W0 R Q l k Φ a
  | 0, l, k, Φ, a, _, _, _, h => by simpa [wpQuiet] using h
  | m + 1, [], k, Φ, a, _, _, _, h => by simpa [wpQuiet, walk] using h
  | m + 1, o :: l, k, Φ, a, hl, hR, hp, h => by
    have h0 : ops[k]? = some o := by simpa using (hl 0).symm
    have hn : R k = none := by
      have := List.all_eq_true.1 hR 0 (List.mem_range.2 (by omega))
      simpa using this
    simp only [List.take_succ_cons, List.all_cons, Bool.and_eq_true] at hp
    have hl' : ∀ j, l[j]? = ops[k + 1 + j]? := fun j => by have := hl (j + 1); simpa [Nat.add_assoc, Nat.add_comm 1 j] using this
    have hR' : (List.range m).all (fun j => (R (k + 1 + j)).isNone) = true := List.all_eq_true.2 fun j hj => by
      have := List.all_eq_true.1 hR (j + 1) (List.mem_range.2 (by have := List.mem_range.1 hj; omega))
      rw [show k + 1 + j = k + (j + 1) by omega]; exact this
    have go : ∀ a', wpQuiet P ops (fun w' => ∃ x : Later W0, w' = x.val) (fun a' => walk P md ops W0 R Q ((o :: l).drop (m + 1)) (k + (m + 1)) Φ a') (l.take m) a' → walk P md ops W0 R Q l (k + 1) Φ a' := fun a' h' =>
      chunk' m hl' hR' hp.2 (by rw [show k + 1 + m = k + (m + 1) by omega]; simpa using h')
    simp only [List.take_succ_cons, wpQuiet] at h
    by_cases hw : Region.wanted o (yielded ops a.tmps) = true
    · rw [if_pos hw] at h
      obtain ⟨v0, hv, hk⟩ := h
      refine ⟨o, _, _, h0, .exact v0 hw hn hp.1 (fun w hc => ?_), fun v hv => ?_⟩
      · have := hv w ⟨⟨w, hc.1⟩, rfl⟩
        have e : (fun w' => ∃ x : Later W0, w' = x.val) = Ext W0 := by
          funext w'; exact propext ⟨fun ⟨x, hx⟩ => by subst hx; exact x.ext, fun h => ⟨⟨w', h⟩, rfl⟩⟩
        rw [e] at this; exact this
      · subst hv; rw [add_true]; exact go _ hk
    · rw [if_neg hw] at h
      refine ⟨o, _, _, h0, .skip (by simpa using hw), fun v hv => ?_⟩
      subst hv; rw [add_true]; exact go _ h

theorem chunk (m : Nat) {Q : Facts → Act → Prop} {l : List Oper} {k : Nat} {Φ : Facts} {a : Act} (hl : ops.toList.drop k = l) (hR : (List.range m).all (fun j => (R (k + j)).isNone) = true) (hp : (l.take m).all pureB = true)
    (h : wpQuiet P ops (fun w' => ∃ x : Later W0, w' = x.val) (fun a' => walk P md ops W0 R Q (l.drop m) (k + m) Φ a') (l.take m) a) : walk P md ops W0 R Q l k Φ a :=
  chunk' m (fun j => by rw [← hl]; simp) hR hp h
/-- the table of relations -/
def tab (l : List (Nat × (Value → World → Prop))) (j : Nat) : Option (Value → World → Prop) := (l.find? fun p => p.1 == j).map (·.2)
theorem tab_lasts {l : List (Nat × (Value → World → Prop))} (h : ∀ p ∈ l, ∀ v w w', p.2 v w → Ext w w' → p.2 v w') : LastsR (tab l) := by
  intro j r hr v w w' h1 hx
  unfold tab at hr
  cases hf : l.find? fun p => p.1 == j with
  | none => rw [hf] at hr; cases hr
  | some p =>
    rw [hf] at hr
    obtain rfl : p.2 = r := Option.some.inj hr
    exact h p (List.mem_of_find?_eq_some hf) v w w' h1 hx
/-- a call whose result is known by a relation -/
theorem call {Q : Facts → Act → Prop} {o : Oper} {l : List Oper} {k : Nat} {Φ : Facts} {a : Act} (r : Value → World → Prop) (hk : ops[k]? = some o) (hr : R k = some r) (hw : Region.wanted o (yielded ops a.tmps) = true)
    (h1 : ∀ w, Ext W0 w → (∀ i, Region.waitsFor md ops k i = true → Φ i w) → leaves P r o a w)
    (h2 : ∀ v w, Ext W0 w → (∀ i, Φ i w) → r v w → walk P md ops W0 R Q l (k + 1) (add Φ k (r v)) (a.put o.dst v)) : walk P md ops W0 R Q (o :: l) k Φ a :=
  ⟨o, _, _, hk, .rel r hw hr (fun w hc => h1 w hc.1 hc.2), fun v ⟨w, g1, g2, g3⟩ => h2 v w g1 g2 g3⟩
/-- the same at a call of a function that is named -/
theorem callG {Q : Facts → Act → Prop} {dst : Option Tmp} {f : FuncId} {xs : Array Operand} {ats : Array TypeId} {ty : TypeId} {pos : String} {after : Array Edge} {guard : Option (Nat × Bool)} {l : List Oper} {k : Nat} {Φ : Facts} {a : Act} {fn : Func} (r : Value → World → Prop)
    (hk : ops[k]? = some { dst, op := .call { callee := .value (.func f), args := xs, argTypes := ats }, type := ty, pos, after, guard }) (hr : R k = some r) (hw : Region.wanted { dst, op := .call { callee := .value (.func f), args := xs, argTypes := ats }, type := ty, pos, after, guard } (yielded ops a.tmps) = true)
    (hf : P.funcs[f]? = some fn) (hb : fn.body ≠ none) (hn : fn.name ≠ "runtime.NumGoroutine") (args : Array Value) (ha : args.toList = xs.toList.map a.eval)
    (h1 : ∀ w, Ext W0 w → (∀ i, Region.waitsFor md ops k i = true → Φ i w) → Calls P f args w (fun e w'' => ∃ v, e = .returned v ∧ Ext w w'' ∧ r v w''))
    (h2 : ∀ v w, Ext W0 w → (∀ i, Φ i w) → r v w → walk P md ops W0 R Q l (k + 1) (add Φ k (r v)) (a.put dst v)) :
    walk P md ops W0 R Q ({ dst, op := .call { callee := .value (.func f), args := xs, argTypes := ats }, type := ty, pos, after, guard } :: l) k Φ a :=
  call r hk hr hw (fun w h3 h4 => by
    have e : (execOp a.eval { dst, op := .call { callee := .value (.func f), args := xs, argTypes := ats }, type := ty, pos, after, guard }).run P w = .ok (.enter f args) w := by
      have ha' : xs.map a.eval = args := Array.ext' (by rw [ha]; simp)
      rw [execOp_call_go, ha']
      simp [callFunc, hf, hb, hn, Sem.run_bind]
    unfold leaves
    rw [e]
    exact ⟨rfl, h1 w h3 h4⟩) h2
/-- an operation that reads what such a call has made -/
theorem dep {Q : Facts → Act → Prop} {o : Oper} {l : List Oper} {k : Nat} {Φ : Facts} {a : Act} (v0 : Value) (hk : ops[k]? = some o) (hr : R k = none) (hp : pureB o = true) (hw : Region.wanted o (yielded ops a.tmps) = true)
    (h1 : ∀ w, Ext W0 w → (∀ i, Region.waitsFor md ops k i = true → Φ i w) → (execOp a.eval o).run P w = .ok (.value v0) w)
    (h2 : walk P md ops W0 R Q l (k + 1) Φ (a.put o.dst v0)) : walk P md ops W0 R Q (o :: l) k Φ a :=
  ⟨o, _, _, hk, .exact v0 hw hr hp (fun w hc => by unfold Oper.quietAt; rw [h1 w hc.1 hc.2]; exact ⟨rfl, rfl⟩), fun v hv => by subst hv; rw [add_true]; exact h2⟩
theorem run_convert {P : Program} {ρ : Operand → Value} {o : Oper} {s d : TypeId} {x : Operand} {w : World} (y : Value) {v0 : Value} (ho : o.op = .convert s d x) (hy : ρ x = y) (h : (convert s d y).run P w = .ok v0 w) : (execOp ρ o).run P w = .ok (.value v0) w := by
  unfold execOp; simp only [ho, hy, Sem.run_bind, h]; rfl
theorem fin {Q : Facts → Act → Prop} {k : Nat} {Φ : Facts} {a : Act} (h : Q Φ a) : walk P md ops W0 R Q [] k Φ a := h
end
end Rel
end Go.Proofs.Ytonnlcjkgpahoaa
namespace Go.Proofs.Ytonnlcjkgpahoaa
open Go.RowKit

namespace Rel
section
variable {P : Program} {ops : Array Oper} {md : Region.Mode} {W0 : World} {R : Nat → Option (Value → World → Prop)}

/-- the head's operations in whatever order, f of them to come, then L -/
def head (P : Program) (md : Region.Mode) (ops : Array Oper) (W0 : World) (R : Nat → Option (Value → World → Prop)) (n : Nat) (L : Array Bool → Facts → Act → Prop) : Nat → Array Bool → Facts → Act → Prop
  | 0, done, Φ, a => L done Φ a
  | f + 1, done, Φ, a => Region.ready md ops done ≠ [] ∧ ∀ i ∈ Region.ready md ops done, i < n ∧ step P md ops W0 R Φ i (head P md ops W0 R n L f (done.setIfInBounds i true)) a

theorem any_of_head {n g : Nat} {L : Array Bool → Facts → Act → Prop} {Q' : Exit → Act → World → Prop} (hR : LastsR R) (hL : ∀ done Φ a w, Ext W0 w → (∀ k, Φ k w) → L done Φ a → wpAny P md ops Q' g done a w) :
    ∀ (f : Nat) (done : Array Bool) (Φ : Facts) (a : Act) (w : World), Lasts Φ → Ext W0 w → (∀ k, Φ k w) → head P md ops W0 R n L f done Φ a → wpAny P md ops Q' (f + g) done a w
  | 0, _, _, _, _, _, hw, hf, h => by rw [Nat.zero_add]; exact hL _ _ _ _ hw hf h
  | f + 1, _, _, _, _, hl, hw, hf, h => by
    rw [show f + 1 + g = (f + g) + 1 by omega]
    exact ⟨fun h0 => absurd h0 h.1, fun i hi => wp_of_step hR hl hw hf (fun Φ' a' w' hl' hw' hf' => any_of_head hR hL f _ Φ' a' w' hl' hw' hf') (h.2 i hi).2⟩

theorem head_first {n i : Nat} {oi : Oper} {L : Array Bool → Facts → Act → Prop} (hR : LastsR R) (hi : ops[i]? = some oi) (hsel : ∀ (j : Nat) (o : Oper) cs b, ops[j]? = some o → o.op ≠ .select cs b)
    (hs : Region.sinkB md ops n = true) (hc : Region.chainB md ops n = true) (hn : n < ops.size) (hin : i < n) (hdone : ∀ done Φ a, L done Φ a → ∀ j ∈ Region.ready md ops done, n ≤ j) :
    ∀ (f : Nat) (done : Array Bool) (Φ : Facts) (a : Act), HeadInv md ops n done → Lasts Φ → Sat W0 Φ →
      (∀ j oj, ops[j]? = some oj → j ≠ i → done.getD j true = false → (∀ e ∈ oj.after, Region.binds md e = true → e.on ≠ i) → oi.apart ops oj = true) →
      i ∈ Region.ready md ops done → step P md ops W0 R Φ i (head P md ops W0 R n L f (done.setIfInBounds i true)) a → head P md ops W0 R n L (f + 1) done Φ a := by
  intro f
  induction f with
  | zero =>
    intro done Φ a inv hl hS _ hr H
    have hun := (mem_ready.1 hr).1
    refine ⟨fun h => (by rw [h] at hr; cases hr), fun j hj => ?_⟩
    have hjn : j < n := Nat.lt_of_not_le fun h => absurd hj (tail_waits hs hc hn inv _ i rfl hin hun j h)
    refine ⟨hjn, ?_⟩
    by_cases hji : j = i
    · subst hji; exact H
    · have hm := ready_mono hj hji
      obtain ⟨o, V, F, _, hmd, hk⟩ := H
      obtain ⟨v, hv⟩ := hmd.some hl hS
      have := hdone _ _ _ (hk v hv) j hm; omega
  | succ f ih =>
    intro done Φ a inv hl hS hfree hr H
    have hun := (mem_ready.1 hr).1
    refine ⟨fun h => (by rw [h] at hr; cases hr), fun j hj => ?_⟩
    have hjn : j < n := Nat.lt_of_not_le fun h => absurd hj (tail_waits hs hc hn inv _ i rfl hin hun j h)
    refine ⟨hjn, ?_⟩
    by_cases hji : j = i
    · subst hji; exact H
    · obtain ⟨hjun, oj, hoj, hall⟩ := mem_ready.1 hj
      obtain ⟨hiun, oi', hoi', halli⟩ := mem_ready.1 hr
      obtain rfl : oi = oi' := Option.some.inj (hi.symm.trans hoi')
      have hnot : ∀ e ∈ oj.after, Region.binds md e = true → e.on ≠ i := fun e he hb heq => by
        have h1 := hall e he hb
        rw [heq, getD_both hiun] at h1; cases h1
      have wji : Region.waitsFor md ops j i = false := by
        rw [← Bool.not_eq_true]; intro hw
        obtain ⟨o, ho, e, he, hb, hon⟩ := Region.waitsFor_spec hw
        obtain rfl : oj = o := Option.some.inj (hoj.symm.trans ho)
        exact hnot e he hb hon
      have wij : Region.waitsFor md ops i j = false := by
        rw [← Bool.not_eq_true]; intro hw
        obtain ⟨o, ho, e, he, hb, hon⟩ := Region.waitsFor_spec hw
        obtain rfl : oi = o := Option.some.inj (hi.symm.trans ho)
        have h1 := halli e he hb
        rw [hon, getD_both hjun] at h1; cases h1
      have hfree' : ∀ k ok, ops[k]? = some ok → k ≠ i → (done.setIfInBounds j true).getD k true = false →
          (∀ e ∈ ok.after, Region.binds md e = true → e.on ≠ i) → oi.apart ops ok = true := fun k ok hk hki hun hno => by
        refine hfree k ok hk hki ?_ hno
        by_cases hjk : j = k
        · subst hjk; exact hjun
        · rw [getD_set_ne true hjk] at hun; exact hun
      have H2 : step P md ops W0 R Φ i (fun Φ1 a1 => step P md ops W0 R Φ1 j (head P md ops W0 R n L f ((done.setIfInBounds i true).setIfInBounds j true)) a1) a :=
        step_mono hR hl hS (fun Φ' a' _ _ h => (h.2 j (ready_mono hj hji)).2) H
      refine step_mono hR hl hS (fun Φ' a' hl' hs' h3 => ih (done.setIfInBounds j true) Φ' a' (inv.set hj hjn) hl' hs' hfree' (ready_mono hr (Ne.symm hji)) ?_)
        (swap hl hS hi hoj (hfree j oj hoj hji hjun hnot) (fun cs b => hsel i oi cs b hi) (fun cs b => hsel j oj cs b hoj) wji wij H2)
      rw [Array.setIfInBounds_comm _ _ hji]
      exact h3

theorem head_lex {n g : Nat} {Lq : Facts → Act → Prop} (hR : LastsR R) (hsel : Region.noSelect ops = true) (hs : Region.sinkB md ops n = true) (hc : Region.chainB md ops n = true) (hn : n < ops.size) (l : List Oper) :
    ∀ (k : Nat) (done : Array Bool) (Φ : Facts) (a : Act), (∀ j, j < l.length → l[j]? = ops[k + j]?) → k + l.length = n → HeadInv md ops n done → Lasts Φ → Sat W0 Φ →
    Region.lexHead md ops g l.length k done = true → walk P md ops W0 R Lq l k Φ a →
    head P md ops W0 R n (fun done' Φ' a' => Region.seqB md ops g n done' = true ∧ Lq Φ' a') l.length done Φ a := by
  induction l with
  | nil =>
    intro k done Φ a _ hk _ _ _ hB h
    obtain rfl : k = n := by simpa using hk
    exact ⟨by simpa [Region.lexHead] using hB, h⟩
  | cons o l ih =>
    intro k done Φ a hl hk inv hL hS hB h
    have h0 : ops[k]? = some o := by simpa using (hl 0 (by simp)).symm
    simp only [List.length_cons, Region.lexHead, Bool.and_eq_true] at hB
    obtain ⟨⟨hr, hf⟩, hB'⟩ := hB
    have hkn : k < n := by simp only [List.length_cons] at hk; omega
    have hr' : k ∈ Region.ready md ops done := by simpa using hr
    exact head_first hR h0 (Region.noSelect_spec hsel) hs hc hn hkn (fun _ _ _ hL => seqB_ready hL.1) l.length done Φ a inv hL hS (Region.free_spec h0 hf) hr'
      (step_mono hR hL hS (fun Φ' a' hL' hS' h' => ih (k + 1) _ Φ' a' (fun j hj => by have := hl (j + 1) (by simp; omega); simpa [Nat.add_assoc, Nat.add_comm 1 j] using this) (by simp only [List.length_cons] at hk; omega) (inv.set hr' hkn) hL' hS' hB' h') h)

/-- The region: the first n operations by relations, the others in order behind them. -/
theorem region_tail {id : Nat} {Q : Exit → Act → World → Prop} {a : Act} {w W : World} {l : List Oper} (n : Nat) (R : Nat → Option (Value → World → Prop)) (hR : LastsR R) (hm : P.follows .mixedOrders = true) (hB : Region.lexTailB .any l.toArray n = true) (hW : Ext W w)
    (h : walk P .any l.toArray W R (fun Φ a' => ∀ w' : World, Ext W w' → (∀ k, Φ k w') → wpList P l.toArray Q (l.drop n) a' w') (l.take n) 0 (fun _ _ => True) a) : (Code.region id l.toArray true).wp P Q a w := by
  simp only [Region.lexTailB, Bool.and_eq_true, decide_eq_true_eq] at hB
  obtain ⟨⟨⟨⟨hsel, hn⟩, hs⟩, hc⟩, hlex⟩ := hB
  have hn' : n < l.length := by simpa using hn
  have htl : (l.take n).length = n := by simp; omega
  have hdl : (l.drop n).length = l.toArray.size - n := by simp
  have inv0 : HeadInv .any l.toArray n (Array.replicate l.toArray.size false) :=
    ⟨by simp, fun j oj _ hl => (by rw [getD_replicate_false] at hl; cases hl), fun t _ ht => getD_in (by simpa using ht) (getD_replicate_false _ _)⟩
  have H := head_lex (P := P) (W0 := W) (md := .any) (g := l.toArray.size - n) hR hsel hs hc hn (l.take n) 0 _ (fun _ _ => True) a (fun j hj => by
    rw [htl] at hj; simp [hj]) (by simpa using htl) inv0 (fun _ _ _ _ _ => trivial) ⟨W, Ext.refl W, fun _ => trivial⟩ (by rw [htl]; exact hlex) h
  refine wp_region_any hm ?_
  have := any_of_head (Q' := Q) (g := l.toArray.size - n) hR (fun done Φ' a' w' hw' hf' hL => by
    have := wpAny_of_seq (md := .any) (Q' := Q) (l.drop n) n done a' w' (fun j => by simp [List.getElem?_drop]) (by rw [hdl]; exact hL.1) (hL.2 w' hw' hf')
    rwa [hdl] at this) _ _ _ _ _ (fun _ _ _ _ _ => trivial) hW.drew (fun _ => trivial) H
  rw [htl, show n + (l.toArray.size - n) = l.toArray.size by omega] at this
  exact this

/-- some operations that need no fact, within a part of the region -/
theorem chunkT' {Q : Facts → Act → Prop} : ∀ (m : Nat) {l : List Oper} {k : Nat} {Φ : Facts} {a : Act}, (∀ j, j < l.length → l[j]? = ops[k + j]?) → (List.range m).all (fun j => (R (k + j)).isNone) = true → (l.take m).all pureB = true →
    wpQuiet P ops (fun w' => ∃ x : Later W0, w' = x.val) (fun a' => walk P md ops W0 R Q (l.drop m) (k + m) Φ a') (l.take m) a → walk P md ops W0 R Q l k Φ a
  | 0, l, k, Φ, a, _, _, _, h => by simpa [wpQuiet] using h
  | m + 1, [], k, Φ, a, _, _, _, h => by simpa [wpQuiet, walk] using h
  | m + 1, o :: l, k, Φ, a, hl, hR, hp, h => by
    have h0 : ops[k]? = some o := by simpa using (hl 0 (by simp)).symm
    have hn : R k = none := by
      have := List.all_eq_true.1 hR 0 (List.mem_range.2 (by omega))
      simpa using this
    simp only [List.take_succ_cons, List.all_cons, Bool.and_eq_true] at hp
    have hl' : ∀ j, j < l.length → l[j]? = ops[k + 1 + j]? := fun j hj => by have := hl (j + 1) (by simp; omega); simpa [Nat.add_assoc, Nat.add_comm 1 j] using this
    have hR' : (List.range m).all (fun j => (R (k + 1 + j)).isNone) = true := List.all_eq_true.2 fun j hj => by
      have := List.all_eq_true.1 hR (j + 1) (List.mem_range.2 (by have := List.mem_range.1 hj; omega))
      rw [show k + 1 + j = k + (j + 1) by omega]; exact this
    have go : ∀ a', wpQuiet P ops (fun w' => ∃ x : Later W0, w' = x.val) (fun a' => walk P md ops W0 R Q ((o :: l).drop (m + 1)) (k + (m + 1)) Φ a') (l.take m) a' → walk P md ops W0 R Q l (k + 1) Φ a' := fun a' h' =>
      chunkT' m hl' hR' hp.2 (by rw [show k + 1 + m = k + (m + 1) by omega]; simpa using h')
    simp only [List.take_succ_cons, wpQuiet] at h
    by_cases hw : Region.wanted o (yielded ops a.tmps) = true
    · rw [if_pos hw] at h
      obtain ⟨v0, hv, hk⟩ := h
      refine ⟨o, _, _, h0, .exact v0 hw hn hp.1 (fun w hc => ?_), fun v hv => ?_⟩
      · have := hv w ⟨⟨w, hc.1⟩, rfl⟩
        have e : (fun w' => ∃ x : Later W0, w' = x.val) = Ext W0 := by
          funext w'; exact propext ⟨fun ⟨x, hx⟩ => by subst hx; exact x.ext, fun h => ⟨⟨w', h⟩, rfl⟩⟩
        rw [e] at this; exact this
      · subst hv; rw [add_true]; exact go _ hk
    · rw [if_neg hw] at h
      refine ⟨o, _, _, h0, .skip (by simpa using hw), fun v hv => ?_⟩
      subst hv; rw [add_true]; exact go _ h
theorem chunkT (m : Nat) {Q : Facts → Act → Prop} {l : List Oper} {k : Nat} {Φ : Facts} {a : Act} (hl : (ops.toList.drop k).take l.length = l) (hR : (List.range m).all (fun j => (R (k + j)).isNone) = true) (hp : (l.take m).all pureB = true)
    (h : wpQuiet P ops (fun w' => ∃ x : Later W0, w' = x.val) (fun a' => walk P md ops W0 R Q (l.drop m) (k + m) Φ a') (l.take m) a) : walk P md ops W0 R Q l k Φ a :=
  chunkT' m (fun j hj => by
    have h1 : ((ops.toList.drop k).take l.length)[j]? = l[j]? := by rw [hl]
    rw [List.getElem?_take, if_pos hj, List.getElem?_drop] at h1
    rw [← h1]; simp) hR hp h

/-- a fresh block g with these contents -/
def Fresh (W0 : World) (g : Nat) (o : Obj) (w : World) : Prop := W0.heap.size ≤ g ∧ w.heap[g]? = some o
theorem Fresh.ext {g : Nat} {o : Obj} {w w' : World} (h : Fresh W0 g o w) (hx : Ext w w') : Fresh W0 g o w' := ⟨h.1, hx.heap h.2⟩
/-- make([]T, n) -/
theorem mk {Q : Facts → Act → Prop} {o : Oper} {l : List Oper} {k : Nat} {Φ : Facts} {a : Act} {t e : TypeId} {x y : Operand} (n : Nat) (z : Value) (hk : ops[k]? = some o) (ho : o.op = .makeSlice t x y)
    (hr : R k = some (fun v w => ∃ g, v = .slice (some ⟨g, 0, none⟩) n n ∧ Fresh W0 g (.cells (madeCells #[z] n) e) w)) (hw : Region.wanted o (yielded ops a.tmps) = true) (hx : a.eval x = .int .i64 (n : Int)) (hy : a.eval y = .int .i64 (n : Int))
    (hrun : ∀ w, (Instr.makeSlice t (.int .i64 (n : Int)) (.int .i64 (n : Int))).run P w = .ok (.slice (some ⟨w.heap.size, 0, none⟩) n n) (w.alloc (.cells (madeCells #[z] n) e)))
    (h2 : ∀ g w, Ext W0 w → (∀ i, Φ i w) → Fresh W0 g (.cells (madeCells #[z] n) e) w → walk P md ops W0 R Q l (k + 1) (add Φ k (fun w => ∃ g', Value.slice (some ⟨g, 0, none⟩) n n = .slice (some ⟨g', 0, none⟩) n n ∧ Fresh W0 g' (.cells (madeCells #[z] n) e) w)) (a.put o.dst (.slice (some ⟨g, 0, none⟩) n n))) :
    walk P md ops W0 R Q (o :: l) k Φ a :=
  call _ hk hr hw (fun w h3 _ => by
    unfold leaves
    have e1 : (execOp a.eval o).run P w = .ok (.value (.slice (some ⟨w.heap.size, 0, none⟩) n n)) (w.alloc (.cells (madeCells #[z] n) e)) := by
      unfold execOp; simp only [ho, hx, hy, Sem.run_bind, hrun]; rfl
    rw [e1]
    exact ⟨(Ext.refl w).alloc _, _, rfl, h3.le, heap_alloc_new w _⟩) (fun v w h3 h4 ⟨g, hg, h5⟩ => by subst hg; exact h2 g w h3 h4 h5)
end
end Rel
end Go.Proofs.Ytonnlcjkgpahoaa
namespace Go.Proofs.Ytonnlcjkgpahoaa
open Go.RowKit

namespace Rel
section
variable {P : Program} {ops : Array Oper} {md : Region.Mode} {W0 : World} {R : Nat → Option (Value → World → Prop)}
/-- an operation that lays one new block and yields a value that names it -/
theorem fresh {Q : Facts → Act → Prop} {o : Oper} {l : List Oper} {k : Nat} {Φ : Facts} {a : Act} (f : Nat → Value) (ob : Obj) (hk : ops[k]? = some o)
    (hr : R k = some (fun v w => ∃ g, v = f g ∧ Fresh W0 g ob w)) (hw : Region.wanted o (yielded ops a.tmps) = true)
    (hrun : ∀ w, Ext W0 w → (execOp a.eval o).run P w = .ok (.value (f w.heap.size)) (w.alloc ob))
    (h2 : ∀ g w, Ext W0 w → (∀ i, Φ i w) → Fresh W0 g ob w → walk P md ops W0 R Q l (k + 1) (add Φ k (fun w => ∃ g', f g = f g' ∧ Fresh W0 g' ob w)) (a.put o.dst (f g))) :
    walk P md ops W0 R Q (o :: l) k Φ a :=
  call _ hk hr hw (fun w h3 _ => by
    unfold leaves
    rw [hrun w h3]
    exact ⟨(Ext.refl w).alloc _, _, rfl, h3.le, heap_alloc_new w _⟩) (fun v w h3 h4 ⟨g, hg, h5⟩ => by subst hg; exact h2 g w h3 h4 h5)
theorem made {r : Value → World → Prop} {o : Oper} {a : Act} {w : World} {v : Value} {ob : Obj} (hrun : (execOp a.eval o).run P w = .ok (.value v) (w.alloc ob)) (h : r v (w.alloc ob)) : leaves P r o a w := by
  unfold leaves; rw [hrun]; exact ⟨(Ext.refl w).alloc _, h⟩
theorem Fresh.cell {g o : Nat} {c : Array Value} {t : TypeId} {w : World} (h : Fresh W0 g (.cells c t (0, 0)) w) {v : Value} (hv : c[o]? = some v) : w.cell? ⟨g, o, none⟩ = some v := by rw [cell_of h.2]; exact hv
theorem leaves_append {r : Value → World → Prop} {o : Oper} {a : Act} {w w' : World} {s x : Operand} {t : TypeId} {v y v' : Value} (ho : o.op = .call { callee := .builtin .append, args := #[s, x], argTypes := #[t, t] }) (hs : a.eval s = v) (hx : a.eval x = y)
    (hr : (Builtin.append_ #[t, t] o.type #[v, y]).run P w = .ok v' w') (hext : Ext w w') (h : r v' w') : leaves P r o a w := by
  unfold leaves execOp
  simp only [ho, resolve, invoke, builtin, Sem.run_bind, Sem.run_pure, Result.andThen_ok, List.map_toArray, List.map_cons, List.map_nil, hs, hx, hr]
  exact ⟨hext, h⟩
end
end Rel
theorem run_storeAt_cell {P : Program} (w : World) (ty : TypeId) (b o : Nat) (old v : Value) (hi : (P.info? ty).map (·.size) = some 1) (h1 : v.oneCell' = true) (hc : w.cell? ⟨b, o, none⟩ = some old) (hf : w.frozen? ⟨b, o, none⟩ = false) :
    (Instr.storeAt ty (.pointer (some ⟨b, o, none⟩)) v).run P w = .ok () (w.setCell ⟨b, o, none⟩ v) := by
  have e1 : v.cells = #[v] := by cases v <;> first | rfl | cases h1
  cases hq : P.info? ty with
  | none => simp [hq] at hi
  | some i =>
    have hs : i.size = 1 := by simpa [hq] using hi
    have hst := run_store P w ⟨b, o, none⟩ v .plain h1
    rw [hc] at hst
    simp only [hf] at hst
    have e0 : (⟨b, o, none⟩ : Addr).add 0 = ⟨b, o, none⟩ := by simp [Addr.add]
    simp [Instr.storeAt, Instr.sureAddr, storeVar, sizeOf, typeInfo, hq, e1, hs, storeCells, e0, hst]
/-- one cell stored: the world behind it is a letter -/
theorem wpList_store_cell {P : Program} {ops : Array Oper} {rest : List Oper} {o : Oper} {a : Act} {w : World} {Q : Exit → Act → World → Prop} (hgd : o.guard = none) (ty : TypeId) (x y : Operand) (ho : o.op = .store ty x y)
    (b k : Nat) (old v : Value) (hx : a.eval x = .pointer (some ⟨b, k, none⟩)) (hy : a.eval y = v) (hi : (P.info? ty).map (·.size) = some 1) (h1 : v.oneCell' = true) (hc : w.cell? ⟨b, k, none⟩ = some old) (hf : w.frozen? ⟨b, k, none⟩ = false)
    (h : ∀ w', w' = w.setCell ⟨b, k, none⟩ v → wpList P ops Q rest (a.put o.dst undef) w') : wpList P ops Q (o :: rest) a w :=
  wpList_plain hgd fun _ hK => by
    unfold Oper.wp execOp
    simp only [ho, hx, hy, Sem.run_bind, Result.andThen_ok, run_storeAt_cell w ty b k old v hi h1 hc hf]
    exact hK _ _ (h _ rfl)
/-- append to an empty literal: whatever comes lies in a new block, or nothing comes -/
theorem run_append_empty {P : Program} (w : World) (B : Nat) (t ty e : TypeId) (z : Value) (size bytes : Nat) (ht : P.underlying t = some (.slice e)) (hi : (P.info? e).map (fun i => (i.zero, i.size, i.bytes)) = some (some z, size, bytes))
    (hzs : z.cells.size = size) (hsz : 0 < size) (g : Nat) (hg : w.heap[g]? = some (.cells #[] e (0, 0))) (hB : B ≤ g) (y : Value) (m : Nat) (news : List Value) (hsrc : Src w y size m news)
    (h63 : m ≤ maxLen) (hbytes : m * bytes ≤ 140737488355328) :
    ∃ v' w', (Builtin.append_ #[t, t] ty #[.slice (some ⟨g, 0, none⟩) 0 0, y]).run P w = .ok v' w' ∧ w'.ownsRow B e size v' m news ∧ Ext w w' := by
  obtain ⟨i, hi', hz, hs1, hs2⟩ := info_parts hi
  clear hi
  have hi := hi'
  clear hi'
  have hlt := lt_of_block hg
  have ho : w.ownsRow B e size (.slice (some ⟨g, 0, none⟩) 0 0) 0 [] := ⟨by simp, .inr ⟨g, 0, #[], rfl, hB, hg, Nat.le_refl _, Nat.zero_le _, by simp, by simp⟩⟩
  obtain ⟨h1, h2, h3⟩ := hsrc
  rcases h3 with ⟨rfl, rfl⟩ | ⟨ad, c, rfl, h4⟩
  · obtain rfl : news = [] := List.eq_nil_of_length_eq_zero (by simpa using h1)
    exact ⟨_, _, run_append_owned_none (P := P) (w := w) B t ty e i size ht hi _ 0 [] ho, ho, Ext.refl w⟩
  · subst hs1 hs2
    rcases Nat.eq_zero_or_pos m with rfl | hm
    · obtain rfl : news = [] := List.eq_nil_of_length_eq_zero (by simpa using h1)
      have hr := run_append_room (P := P) (w := w) t ty e i ht hi g 0 0 #[] hg ad 0 c [] (by simp) (fun j u hj => by simp at hj) (fun u hu => by simp at hu) (Nat.le_refl _) (by simp)
      have e2 := setRow_self w g #[] e (0, 0) hg
      exact ⟨.slice (some ⟨g, 0, none⟩) 0 0, w, by simpa [e2] using hr, ho, Ext.refl w⟩
    · have hsmall : m ≤ 9223372036854775807 := by simp only [maxLen] at h63; omega
      obtain ⟨v', w', hr, k2, _, _⟩ := run_append_fresh (P := P) w B t ty e i z i.size i.bytes ht hi hz rfl rfl hzs hsz _ 0 [] ho ad m c news h1 h4 h2 (by simpa using h63) (by simpa using hbytes) (by omega)
      have hr2 := run_append_grow (P := P) (w := w) t ty e i z ht hi hz ⟨g, 0, none⟩ 0 0 [] (by simp) (fun j u hj => by simp at hj) ad m c news h1 h4 (by omega) (by omega) (growslice_fits (by omega) (by simpa using hbytes))
      rw [hr] at hr2
      simp only [Result.ok.injEq] at hr2
      refine ⟨v', w', hr, by simpa using k2, ?_⟩
      rw [hr2.2]
      exact ((Ext.refl w).drew).alloc _
theorem mod_setRow {w : World} {g : Nat} {cs : Array Value} : Mod (· = g) w (w.setRow g cs) :=
  ⟨rfl, rfl, rfl, by rw [size_setRow]; exact Nat.le_refl _, fun k _ hk => setRow_other w g k cs hk⟩
/-- a whole box stored: the world behind it is a letter -/
theorem wpList_store_box {P : Program} {ops : Array Oper} {rest : List Oper} {o : Oper} {a : Act} {w : World} {Q : Exit → Act → World → Prop} (hgd : o.guard = none) (ty : TypeId) (x y : Operand) (ho : o.op = .store ty x y)
    (g : Nat) (cells : Array Value) (hx : a.eval x = .pointer (some ⟨g, 0, none⟩)) (hy : a.eval y = .agg cells)
    (t : TypeId) (old : Array Value) (hg : w.heap[g]? = some (.cells old t (0, 0))) (hi : (P.info? ty).map (·.size) = some cells.size)
    (hold : old.size = cells.size) (h1 : cells.all (·.oneCell') = true)
    (h : ∀ w', Mod (· = g) w w' → w'.heap[g]? = some (.cells cells t (0, 0)) → wpList P ops Q rest (a.put o.dst undef) w') : wpList P ops Q (o :: rest) a w :=
  wpList_store_row hgd ty x y ho g cells hx hy t old hg hi hold h1 (h _ mod_setRow (setRow_heap w g old cells t (0, 0) hg))
end Go.Proofs.Ytonnlcjkgpahoaa
