/- Tries of prefixes, plain: trees whose nodes bear addresses, what they hold, how a node is changed. No program in sight, no condition. -/
import Derived.Test.YteefchbpojcklaaAlw
namespace Go.Proofs.Yteefchbpojcklaa
open Go.RowKit

namespace Lp
/-- a tree: each node with its block, its two branches, whether it stores, and its value -/
inductive Tr where
  | nil
  | node (b : Nat) (l r : Tr) (st : Bool) (x : Int)
namespace Tr
def ptr : Tr → Option Addr
  | nil => none
  | node b _ _ _ _ => some ⟨b, 0, none⟩
def blocks : Tr → List Nat
  | nil => []
  | node b l r _ _ => b :: (blocks l ++ blocks r)
def kid : Tr → Bool → Tr
  | nil, _ => nil
  | node _ l r _ _, k => bif k then r else l
def val : Tr → Option Int
  | nil => none
  | node _ _ _ st x => bif st then some x else none
def sub : Tr → List Bool → Tr
  | t, [] => t
  | t, k :: p => sub (kid t k) p
def con (t : Tr) (p : List Bool) : Option Int := val (sub t p)
def put : Tr → List Bool → Tr → Tr
  | _, [], s => s
  | nil, _ :: _, _ => nil
  | node b l r st x, k :: p, s => bif k then node b l (put r p s) st x else node b (put l p s) r st x

theorem ptr_nil : ptr nil = none := rfl
theorem ptr_node (b : Nat) (l r : Tr) (st : Bool) (x : Int) : ptr (node b l r st x) = some ⟨b, 0, none⟩ := rfl
@[simp] theorem sub_none (t : Tr) : sub t [] = t := by cases t <;> rfl
@[simp] theorem sub_cons (t : Tr) (k : Bool) (p : List Bool) : sub t (k :: p) = sub (kid t k) p := by cases t <;> rfl
@[simp] theorem put_none (t s : Tr) : put t [] s = s := by cases t <;> rfl
@[simp] theorem kid_nil (k : Bool) : kid nil k = nil := rfl
@[simp] theorem kid_node (b : Nat) (l r : Tr) (st : Bool) (x : Int) (k : Bool) : kid (node b l r st x) k = bif k then r else l := rfl
@[simp] theorem sub_nil : ∀ (p : List Bool), sub nil p = nil
  | [] => rfl
  | k :: p => by rw [sub_cons, kid_nil, sub_nil p]
theorem sub_append : ∀ (p q : List Bool) (t : Tr), sub t (p ++ q) = sub (sub t p) q
  | [], _, t => by simp
  | k :: p, q, t => by rw [List.cons_append, sub_cons, sub_cons, sub_append p q]
theorem sub_snoc (t : Tr) (p : List Bool) (k : Bool) : sub t (p ++ [k]) = kid (sub t p) k := by
  rw [sub_append, sub_cons, sub_none]
theorem blocks_kid {t : Tr} {k : Bool} {i : Nat} (h : i ∈ (kid t k).blocks) : i ∈ t.blocks := by
  cases t with
  | nil => exact h
  | node b l r st x => cases k <;> simp [kid, blocks] at h ⊢ <;> simp [h]
theorem blocks_sub : ∀ (p : List Bool) {t : Tr} {i : Nat}, i ∈ (sub t p).blocks → i ∈ t.blocks
  | [], t, i, h => by simpa using h
  | k :: p, t, i, h => blocks_kid (blocks_sub p (by rw [sub_cons] at h; exact h))
theorem ptr_put : ∀ (p : List Bool) {t s : Tr}, s.ptr = (sub t p).ptr → (put t p s).ptr = t.ptr
  | [], t, s, h => by simpa using h
  | k :: p, nil, s, _ => rfl
  | k :: p, node b l r st x, s, _ => by cases k <;> rfl

/-- the heap holds the tree -/
def In (w : World) : Tr → Prop
  | nil => True
  | node b l r st x => w.heap[b]? = some (.cells #[.pointer l.ptr, .pointer r.ptr, .bool st, .int .i64 x] 66 (0, 0)) ∧ In w l ∧ In w r

theorem In.congr {w w' : World} : ∀ {t : Tr}, In w t → (∀ i ∈ t.blocks, w'.heap[i]? = w.heap[i]?) → In w' t
  | nil, _, _ => trivial
  | node b l r st x, ⟨h0, hl, hr⟩, he => by
    refine ⟨by rw [he b (by simp [blocks])]; exact h0, hl.congr (fun i hi => he i (by simp [blocks, hi])), hr.congr (fun i hi => he i (by simp [blocks, hi]))⟩
theorem In.ext {w w' : World} {t : Tr} (h : In w t) (hx : Ext w w') : In w' t := by
  refine h.congr fun i hi => ?_
  have hb : i < w.heap.size := by
    clear hx
    induction t with
    | nil => simp [blocks] at hi
    | node b l r st x ihl ihr =>
      obtain ⟨h0, hl, hr⟩ := h
      simp only [blocks, List.mem_cons, List.mem_append] at hi
      rcases hi with rfl | hi | hi
      · exact lt_of_block h0
      · exact ihl hl hi
      · exact ihr hr hi
  exact hx.block i hb
theorem In.lt {w : World} {t : Tr} (h : In w t) {i : Nat} (hi : i ∈ t.blocks) : i < w.heap.size := by
  induction t with
  | nil => simp [blocks] at hi
  | node b l r st x ihl ihr =>
    obtain ⟨h0, hl, hr⟩ := h
    simp only [blocks, List.mem_cons, List.mem_append] at hi
    rcases hi with rfl | hi | hi
    · exact lt_of_block h0
    · exact ihl hl hi
    · exact ihr hr hi
theorem In.kid {w : World} {t : Tr} (h : In w t) (k : Bool) : In w (kid t k) := by
  cases t with
  | nil => trivial
  | node b l r st x => cases k; exact h.2.1; exact h.2.2
theorem In.sub {w : World} : ∀ (p : List Bool) {t : Tr}, In w t → In w (sub t p)
  | [], t, h => by simpa using h
  | k :: p, t, h => by rw [sub_cons]; exact In.sub p (h.kid k)
theorem In.put {w w' : World} {s : Tr} (hs : In w' s) : ∀ (p : List Bool) {t : Tr}, In w t → t.blocks.Nodup → s.ptr = (Tr.sub t p).ptr → (∀ i ∈ t.blocks, i ∉ (Tr.sub t p).blocks → w'.heap[i]? = w.heap[i]?) → In w' (Tr.put t p s)
  | [], t, _, _, _, _ => by simpa using hs
  | k :: p, nil, _, _, _, _ => trivial
  | k :: p, node b l r st x, ⟨h0, hl, hr⟩, hn, hp, he => by
    simp only [blocks, List.nodup_cons, List.mem_append, List.nodup_append] at hn
    obtain ⟨hb, hnl, hnr, hd⟩ := hn
    rw [sub_cons, kid_node] at hp he
    cases k with
    | false =>
      simp only [cond_false] at hp he
      refine ⟨?_, In.put hs p hl hnl hp (fun i hi hni => he i (by simp [blocks, hi]) hni), hr.congr (fun i hi => he i (by simp [blocks, hi]) (fun h => hd _ (blocks_sub p h) _ hi rfl))⟩
      show w'.heap[b]? = _
      rw [he b (by simp [blocks]) (fun h => hb (.inl (blocks_sub p h))), ptr_put p hp]; exact h0
    | true =>
      simp only [cond_true] at hp he
      refine ⟨?_, hl.congr (fun i hi => he i (by simp [blocks, hi]) (fun h => hd _ hi _ (blocks_sub p h) rfl)), In.put hs p hr hnr hp (fun i hi hni => he i (by simp [blocks, hi]) hni)⟩
      show w'.heap[b]? = _
      rw [he b (by simp [blocks]) (fun h => hb (.inr (blocks_sub p h))), ptr_put p hp]; exact h0
theorem mem_put {s : Tr} : ∀ (p : List Bool) {t : Tr} {i : Nat}, i ∈ (put t p s).blocks → i ∈ t.blocks ∨ i ∈ s.blocks
  | [], t, i, h => .inr (by simpa using h)
  | k :: p, nil, i, h => .inl h
  | k :: p, node b l r st x, i, h => by
    cases k <;> simp only [put, cond_false, cond_true, blocks, List.mem_cons, List.mem_append] at h ⊢
    · rcases h with h | h | h
      · exact .inl (.inl h)
      · rcases mem_put p h with h | h; exact .inl (.inr (.inl h)); exact .inr h
      · exact .inl (.inr (.inr h))
    · rcases h with h | h | h
      · exact .inl (.inl h)
      · exact .inl (.inr (.inl h))
      · rcases mem_put p h with h | h; exact .inl (.inr (.inr h)); exact .inr h
theorem nodup_put {s : Tr} (hs : s.blocks.Nodup) : ∀ (p : List Bool) {t : Tr}, t.blocks.Nodup → (∀ i ∈ s.blocks, i ∈ (sub t p).blocks ∨ i ∉ t.blocks) → (put t p s).blocks.Nodup
  | [], t, _, _ => by simpa using hs
  | k :: p, nil, h, _ => h
  | k :: p, node b l r st x, hn, hf => by
    simp only [blocks, List.nodup_cons, List.mem_append, List.nodup_append] at hn
    obtain ⟨hb, hnl, hnr, hd⟩ := hn
    rw [sub_cons, kid_node] at hf
    cases k with
    | false =>
      simp only [cond_false] at hf
      have hf' : ∀ i ∈ s.blocks, i ∈ (sub l p).blocks ∨ i ∉ l.blocks := fun i hi => (hf i hi).imp id (fun h hl => h (by simp [blocks, hl]))
      have hq : ∀ i ∈ (put l p s).blocks, i ≠ b ∧ i ∉ r.blocks := fun i hi => by
        rcases mem_put p hi with h | h
        · exact ⟨fun e => hb (.inl (e ▸ h)), fun h2 => hd _ h _ h2 rfl⟩
        · rcases hf i h with h1 | h1
          · have h1 := blocks_sub p h1
            exact ⟨fun e => hb (.inl (e ▸ h1)), fun h2 => hd _ h1 _ h2 rfl⟩
          · exact ⟨fun e => h1 (by simp [blocks, e]), fun h2 => h1 (by simp [blocks, h2])⟩
      simp only [put, cond_false, blocks, List.nodup_cons, List.mem_append, List.nodup_append]
      exact ⟨fun h => h.elim (fun h => (hq b h).1 rfl) (fun h => hb (.inr h)), nodup_put hs p hnl hf', hnr, fun i hi j hj e => (hq i hi).2 (e ▸ hj)⟩
    | true =>
      simp only [cond_true] at hf
      have hf' : ∀ i ∈ s.blocks, i ∈ (sub r p).blocks ∨ i ∉ r.blocks := fun i hi => (hf i hi).imp id (fun h hl => h (by simp [blocks, hl]))
      have hq : ∀ i ∈ (put r p s).blocks, i ≠ b ∧ i ∉ l.blocks := fun i hi => by
        rcases mem_put p hi with h | h
        · exact ⟨fun e => hb (.inr (e ▸ h)), fun h2 => hd _ h2 _ h rfl⟩
        · rcases hf i h with h1 | h1
          · have h1 := blocks_sub p h1
            exact ⟨fun e => hb (.inr (e ▸ h1)), fun h2 => hd _ h2 _ h1 rfl⟩
          · exact ⟨fun e => h1 (by simp [blocks, e]), fun h2 => h1 (by simp [blocks, h2])⟩
      simp only [put, cond_true, blocks, List.nodup_cons, List.mem_append, List.nodup_append]
      exact ⟨fun h => h.elim (fun h => hb (.inl h)) (fun h => (hq b h).1 rfl), hnl, nodup_put hs p hnr hf', fun i hi j hj e => (hq j hj).2 (e ▸ hi)⟩
/-- what a changed tree holds -/
theorem con_put_in {s : Tr} : ∀ (p : List Bool) {t : Tr}, sub t p ≠ nil → ∀ q, sub (put t p s) (p ++ q) = sub s q
  | [], t, _, q => by simp
  | k :: p, nil, h, q => absurd (sub_nil (k :: p)) h
  | k :: p, node b l r st x, h, q => by
    rw [sub_cons, kid_node] at h
    rw [List.cons_append, sub_cons]
    cases k with
    | false => exact con_put_in p (t := l) (by simpa using h) q
    | true => exact con_put_in p (t := r) (by simpa using h) q
theorem con_put_out {s : Tr} : ∀ (p : List Bool) {t : Tr} (q : List Bool), ¬ p <+: q → con (put t p s) q = con t q
  | [], t, q, h => absurd (List.nil_prefix) h
  | k :: p, nil, q, h => rfl
  | k :: p, node b l r st x, [], h => by cases k <;> rfl
  | k :: p, node b l r st x, j :: q, h => by
    unfold con
    rw [sub_cons, sub_cons, kid_node]
    cases k <;> cases j <;> simp only [put, kid_node, cond_false, cond_true]
    · exact con_put_out p q (fun hp => h (by simpa using hp))
    · exact con_put_out p q (fun hp => h (by simpa using hp))
theorem con_put_same {s t : Tr} {p : List Bool} (h : sub t p ≠ nil) (hc : ∀ q, con s q = con (sub t p) q) (q : List Bool) : con (put t p s) q = con t q := by
  by_cases hp : p <+: q
  · obtain ⟨q', rfl⟩ := hp
    unfold con at hc ⊢
    rw [con_put_in p h, hc q', sub_append]
  · exact con_put_out p q hp
theorem con_put_set {t : Tr} {p : List Bool} {b : Nat} {l r : Tr} {st : Bool} {x : Int} (h : sub t p = node b l r st x) (st' : Bool) (x' : Int) (q : List Bool) :
    con (put t p (node b l r st' x')) q = if q = p then (bif st' then some x' else none) else con t q := by
  by_cases hp : p <+: q
  · obtain ⟨q', rfl⟩ := hp
    unfold con
    rw [con_put_in p (by rw [h]; simp), sub_append, h]
    cases q' with
    | nil => simp [val]
    | cons k q' =>
      rw [if_neg (by simp), sub_cons, sub_cons, kid_node, kid_node]
  · rw [con_put_out p q hp, if_neg (fun e => hp (by rw [e]; exact List.prefix_rfl))]
end Tr
end Lp
end Go.Proofs.Yteefchbpojcklaa
