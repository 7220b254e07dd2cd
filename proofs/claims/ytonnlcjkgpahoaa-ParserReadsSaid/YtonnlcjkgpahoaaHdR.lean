/- Headers: what is written is read again, plainly. No program in sight, no condition. -/
import Derived.Test.YtonnlcjkgpahoaaHd6
import Derived.Test.YtonnlcjkgpahoaaIoV2
namespace Go.Proofs.Ytonnlcjkgpahoaa
namespace Hd
theorem total_tot {ns : List Int} (h : Wd ns) : ((Io.total ns : Nat) : Int) = tot ns := by
  induction ns with
  | nil => rfl
  | cons n ns ih =>
    have h1 := h n (by simp)
    have h2 := ih (fun m hm => h m (by simp [hm]))
    rw [tot_cons, ← h2]
    simp only [Io.total, List.map_cons, List.sum_cons]
    omega
/-- values that fit are taken -/
def Fit : List Int → List Int → Prop
  | [], [] => True
  | x :: xs, n :: ns => 0 ≤ x ∧ x < 2 ^ n.toNat ∧ Fit xs ns
  | _, _ => False
theorem wrE_fit {x n : Int} (h1 : 1 ≤ n) (h2 : n ≤ 32) (hx : x < 2 ^ n.toNat) : Io.wrE x n = 0 := by
  have hok := Bv.ok_of h1 h2
  unfold Io.wrE
  rw [if_pos hok, if_pos]
  unfold Bv.fits
  rw [hok, Bool.true_and]
  exact decide_eq_true (by simpa [Bv.pw] using hx)
theorem Fit.len : ∀ {xs ns : List Int}, Fit xs ns → xs.length = ns.length
  | [], [], _ => rfl
  | _ :: _, _ :: _, h => by simp [Fit.len h.2.2]
  | [], _ :: _, h => h.elim
  | _ :: _, [], h => h.elim
/-- all bits of some values -/
def bitsAll : List Int → List Int → List Int
  | x :: xs, n :: ns => Io.bitsTo x n.toNat n.toNat ++ bitsAll xs ns
  | _, _ => []
theorem put_fit : ∀ (xs ns L : List Int), Wd ns → Fit xs ns → Io.putAll xs ns L = (0, L ++ bitsAll xs ns)
  | [], [], L, _, _ => by simp [Io.putAll, bitsAll]
  | [], _ :: _, _, _, h => h.elim
  | _ :: _, [], _, _, h => h.elim
  | x :: xs, n :: ns, L, hw, h => by
    have h1 := hw n (by simp)
    have h2 := wrE_fit h1.1 h1.2 h.2.1
    unfold Io.putAll
    rw [if_pos h2, put_fit xs ns _ (fun m hm => hw m (by simp [hm])) h.2.2]
    unfold Io.wrL
    rw [if_pos h2, List.append_assoc]
    rfl
theorem vals_bits (l : List Int) : ∀ (xs ns L : List Int), Wd ns → Fit xs ns → (∀ i, i < (L ++ bitsAll xs ns).length → Io.bit l i = (L ++ bitsAll xs ns).getD i 0) → vals l ns L.length = xs
  | [], [], L, _, _, _ => rfl
  | [], _ :: _, _, _, h, _ => h.elim
  | _ :: _, [], _, _, h, _ => h.elim
  | x :: xs, n :: ns, L, hw, h, hb => by
    have h1 := hw n (by simp)
    have e : L ++ bitsAll (x :: xs) (n :: ns) = (L ++ Io.bitsTo x n.toNat n.toNat) ++ bitsAll xs ns := by simp [bitsAll]
    rw [e] at hb
    have ih := vals_bits l xs ns (L ++ Io.bitsTo x n.toNat n.toNat) (fun m hm => hw m (by simp [hm])) h.2.2 hb
    rw [List.length_append, Io.bitsTo_len] at ih
    simp only [vals]
    rw [ih]
    congr 1
    have h3 := Io.val_of l L.length x n.toNat h.1 h.2.1 (fun j hj => by
      rw [hb (L.length + j) (by simp [Io.bitsTo_len]; omega), List.getD_eq_getElem?_getD, List.append_assoc, List.getElem?_append_right (by omega), Nat.add_sub_cancel_left, List.getElem?_append_left (by rw [Io.bitsTo_len]; exact hj)]
      simp [Io.bitsTo, hj]) n.toNat (Nat.le_refl _)
    rw [h3, Nat.sub_self]; simp
theorem bitsAll_len : ∀ (xs ns : List Int), Wd ns → Fit xs ns → ((bitsAll xs ns).length : Int) = tot ns
  | [], [], _, _ => rfl
  | [], _ :: _, _, h => h.elim
  | _ :: _, [], _, h => h.elim
  | x :: xs, n :: ns, hw, h => by
    have h1 := hw n (by simp)
    have ih := bitsAll_len xs ns (fun m hm => hw m (by simp [hm])) h.2.2
    simp only [bitsAll, List.length_append, Io.bitsTo_len]
    rw [tot_cons]; omega
theorem bitsAll_bits : ∀ (xs ns : List Int), Io.Bits (bitsAll xs ns)
  | [], _ => by intro b hb; simp [bitsAll] at hb
  | _ :: _, [] => by intro b hb; simp [bitsAll] at hb
  | x :: xs, n :: ns => by
    simp only [bitsAll]
    exact (Io.bitsTo_bits _ _ _).append (bitsAll_bits xs ns)
/-- what Write makes of values that fit, and what Read makes of it -/
theorem trip {h : Hdr} {xs : List Int} (hc : chk h = 0) (hf : Fit xs (wds h.2)) :
    wE h xs = 0 ∧ wL h xs [] = bitsAll xs (wds h.2) ∧ (bitsAll xs (wds h.2)).length % 8 = 0 ∧ ((Io.pack (bitsAll xs (wds h.2))).length : Int) = tot (wds h.2) / 8 ∧ rE h (Io.pack (bitsAll xs (wds h.2))) 0 = 0 ∧ rV h (Io.pack (bitsAll xs (wds h.2))) 0 = xs := by
  obtain ⟨h1, h2, h3, h4, h5⟩ := chk_ok hc
  have hl := hf.len
  rw [wds_len] at hl
  have hp := put_fit xs (wds h.2) [] h4 hf
  rw [List.nil_append] at hp
  have e1 : wE h xs = 0 := by unfold wE; rw [if_pos hc, if_pos hl, hp]
  have e2 : wL h xs [] = bitsAll xs (wds h.2) := by unfold wL; rw [if_pos e1, hp]
  have hn := bitsAll_len xs (wds h.2) h4 hf
  have h8 : (bitsAll xs (wds h.2)).length % 8 = 0 := by omega
  have hb := tot_bd h4
  have e3 : ((Io.pack (bitsAll xs (wds h.2))).length : Int) = tot (wds h.2) / 8 := by rw [Io.pack_len]; omega
  have e4 : rE h (Io.pack (bitsAll xs (wds h.2))) 0 = 0 := by
    unfold rE; rw [if_pos hc, if_neg]; rw [e3]; omega
  refine ⟨e1, e2, h8, e3, e4, ?_⟩
  unfold rV
  rw [if_pos e4]
  have := vals_bits (Io.pack (bitsAll xs (wds h.2))) xs (wds h.2) [] h4 hf (fun i hi => by
    rw [List.nil_append] at hi ⊢
    exact Io.bit_pack (bitsAll_bits _ _) i hi)
  simpa using this
theorem vals_get (l : List Int) : ∀ (ns : List Int) (pos : Nat), Wd ns → pos + Io.total ns ≤ 8 * l.length → Io.getAll l ns pos = (0, vals l ns pos, pos + Io.total ns)
  | [], pos, _, _ => by simp [Io.getAll, vals, Io.total]
  | n :: ns, pos, hw, h => by
    have h1 := hw n (by simp)
    have ht : Io.total (n :: ns) = n.toNat + Io.total ns := by simp [Io.total]
    rw [ht] at h ⊢
    have hr := rdE_fits (l := l) (pos := pos) h1.1 h1.2 (by omega)
    have hv : Io.rdV l pos n = Io.val l pos n.toNat := by unfold Io.rdV; rw [if_pos hr]
    have hp : Io.rdP l pos n = pos + n.toNat := by unfold Io.rdP; rw [if_pos hr]
    have ih := vals_get l ns (pos + n.toNat) (fun m hm => hw m (by simp [hm])) (by omega)
    unfold Io.getAll
    rw [if_pos hr, hp, ih, hv]
    simp [vals, Nat.add_assoc]
theorem pack_take {l : List Int} (hb : Io.Bytes l) (q : Nat) (hq : q ≤ l.length) : Io.pack (Io.bitsOf l 0 (8 * q)) = l.take q := by
  have hlen : (l.take q).length = q := by rw [List.length_take]; omega
  have e : Io.bitsOf l 0 (8 * q) = Io.bitsOf (l.take q) 0 (8 * (l.take q).length) := by
    rw [hlen]
    unfold Io.bitsOf
    apply List.map_congr_left
    intro i hi
    have hi' : i < 8 * q := List.mem_range.1 hi
    have hi8 : i / 8 < q := by omega
    unfold Io.bit
    rw [Nat.zero_add, List.getD_eq_getElem?_getD, List.getD_eq_getElem?_getD, List.getElem?_take, if_pos hi8]
  rw [e]
  exact Io.pack_all (fun x hx => hb x (List.mem_of_mem_take hx))
/-- what Read makes of bytes, and what Write makes of it -/
theorem again {h : Hdr} {l : List Int} (hc : chk h = 0) (hb : Io.Bytes l) (hl : tot (wds h.2) ≤ 8 * (l.length : Int)) :
    ∃ q : Nat, (q : Int) = tot (wds h.2) / 8 ∧ q ≤ l.length ∧ rE h l 0 = 0 ∧ (∀ x ∈ rV h l 0, 0 ≤ x) ∧ wE h (rV h l 0) = 0 ∧ Io.byE (wL h (rV h l 0) []) = 0 ∧ Io.byL (wL h (rV h l 0) []) = l.take q := by
  obtain ⟨h1, h2, h3, h4, h5⟩ := chk_ok hc
  have htb := tot_bd h4
  have htt := total_tot h4
  have e1 : rE h l 0 = 0 := by unfold rE; rw [if_pos hc, if_neg (by omega)]
  have e2 : rV h l 0 = vals l (wds h.2) 0 := by unfold rV; rw [if_pos e1]
  have hg := vals_get l (wds h.2) 0 h4 (by omega)
  obtain ⟨vs, g1, g2, g3, g4⟩ := Io.get_put l (wds h.2) h4 0 [] (by omega)
  rw [hg] at g1
  simp only [Prod.mk.injEq, true_and] at g1
  obtain ⟨rfl, _⟩ := g1
  rw [List.nil_append] at g4
  have hlen : (vals l (wds h.2) 0).length = h.2.length := by rw [vals_len, wds_len]
  have e3 : wE h (rV h l 0) = 0 := by unfold wE; rw [if_pos hc, e2, if_pos hlen, g4]
  have e4 : wL h (rV h l 0) [] = Io.bitsOf l 0 (Io.total (wds h.2)) := by unfold wL; rw [if_pos e3, e2, g4]
  obtain ⟨q, hq⟩ : ∃ q : Nat, Io.total (wds h.2) = 8 * q := ⟨Io.total (wds h.2) / 8, by omega⟩
  rw [hq] at e4
  have h8 : (Io.bitsOf l 0 (8 * q)).length % 8 = 0 := by rw [Io.bitsOf_len]; omega
  refine ⟨q, by omega, by omega, e1, by rw [e2]; exact g3, e3, ?_, ?_⟩
  · rw [e4]; unfold Io.byE; rw [if_pos h8]
  · rw [e4]; unfold Io.byL; rw [if_pos h8]; exact pack_take hb q (by omega)
/-- the values that the law writes -/
def cut (vs ns : List Int) : List Int := (List.range ns.length).map fun i => vs.getD i 0 / 2 ^ (32 - (ns.getD i 0).toNat)
theorem fit_of : ∀ (xs ns : List Int), xs.length = ns.length → (∀ i, i < ns.length → 0 ≤ xs.getD i 0 ∧ xs.getD i 0 < 2 ^ (ns.getD i 0).toNat) → Fit xs ns
  | [], [], _, _ => trivial
  | [], _ :: _, h, _ => by simp at h
  | _ :: _, [], h, _ => by simp at h
  | x :: xs, n :: ns, h, hb => by
    have h0 := hb 0 (by simp)
    simp only [List.getD_cons_zero] at h0
    exact ⟨h0.1, h0.2, fit_of xs ns (by simpa using h) (fun i hi => by simpa using hb (i + 1) (by simpa using hi))⟩
theorem shr_bd {x : Int} {k : Nat} (h0 : 0 ≤ x) (h1 : x < 4294967296) (hk : k ≤ 32) : 0 ≤ x / 2 ^ (32 - k) ∧ x / 2 ^ (32 - k) < 2 ^ k := by
  have hp : (0 : Int) < 2 ^ (32 - k) := Int.pow_pos (by decide)
  refine ⟨Int.ediv_nonneg h0 (by omega), Int.ediv_lt_of_lt_mul hp ?_⟩
  rw [← Int.pow_add, show k + (32 - k) = 32 by omega]
  omega
theorem cut_fit {vs ns : List Int} (hv : ∀ x ∈ vs, 0 ≤ x ∧ x < 4294967296) (hw : Wd ns) (hl : ns.length ≤ vs.length) : Fit (cut vs ns) ns := by
  refine fit_of _ _ (by simp [cut]) (fun i hi => ?_)
  have h1 := hv (vs[i]'(by omega)) (List.getElem_mem _)
  have h2 := hw (ns[i]) (List.getElem_mem _)
  have e : (cut vs ns).getD i 0 = vs[i]'(by omega) / 2 ^ (32 - (ns[i]).toNat) := by
    have hi2 : i < vs.length := by omega
    simp [cut, hi, hi2]
  have e2 : ns.getD i 0 = ns[i] := by simp [hi]
  rw [e, e2]
  exact shr_bd h1.1 h1.2 (by omega)
end Hd
end Go.Proofs.Ytonnlcjkgpahoaa
