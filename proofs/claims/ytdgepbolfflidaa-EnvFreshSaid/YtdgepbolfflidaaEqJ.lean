/- The environment: the law Isolated, walked. No condition. -/
import Derived.Test.YtdgepbolfflidaaEqG
import Derived.Test.YtdgepbolfflidaaEqI
namespace Go.Proofs.Ytdgepbolfflidaa
open Go.RowKit

namespace En
theorem put_va (E : Pg.Env) (h : Int) (k : Nat) (x : Int) : (put E h k x).va = E.va := by unfold put; split <;> rfl
theorem rowAt_set (ls : List (List Int)) (n : Nat) (l : List Int) (i : Int) : rowAt (ls.set n l) i = if i = n ∧ n < ls.length then l else rowAt ls i := by
  unfold rowAt
  by_cases h0 : 0 ≤ i
  · rw [if_pos h0, if_pos h0]
    obtain ⟨k, rfl⟩ := Int.eq_ofNat_of_zero_le h0
    rw [Int.toNat_natCast, List.getD_eq_getElem?_getD, List.getD_eq_getElem?_getD, List.getElem?_set]
    by_cases hk : k = n
    · subst hk
      by_cases hl : k < ls.length
      · simp [hl]
      · simp [hl]
    · have : ¬ (n = k) := fun e => hk e.symm
      rw [if_neg this, if_neg (by omega)]
  · rw [if_neg h0, if_neg h0, if_neg (by omega)]
theorem lst_put {E : Pg.Env} {h : Int} {k : Nat} {x : Int} (hk : k < (lst E h).length) (h' : Int) : lst (put E h k x) h' = if h' = h then (lst E h).set k x else lst E h' := by
  unfold put
  by_cases hm : h = -1
  · subst hm
    rw [if_pos rfl]
    unfold lst
    by_cases h1 : h' = -1
    · rw [if_pos h1, if_pos h1, if_pos rfl]
    · rw [if_neg h1, if_neg h1, if_neg h1]
  · rw [if_neg hm]
    have hl : lst E h = rowAt E.fi h := by unfold lst; rw [if_neg hm]
    rw [hl] at hk ⊢
    have h0 : 0 ≤ h ∧ h < E.fi.length := by
      by_cases hb : 0 ≤ h ∧ h < E.fi.length
      · exact hb
      · rw [rowAt_out (by omega)] at hk; simp at hk
    unfold lst
    by_cases h1 : h' = -1
    · rw [if_pos h1, if_neg (by omega), if_pos h1]
    · rw [if_neg h1, if_neg h1, rowAt_set]
      by_cases h2 : h' = h
      · rw [if_pos h2, if_pos ⟨by omega, by omega⟩]
      · rw [if_neg h2, if_neg (by omega)]
theorem elB_lst {E : Pg.Env} {h f : Int} : elB E h f = ((decide (h = -1) || vaAt E.va h) && inB (lst E h).length f) := by
  unfold elB lst
  by_cases hm : h = -1
  · rw [if_pos hm, if_pos hm, decide_eq_true hm]; rfl
  · rw [if_neg hm, if_neg hm, decide_eq_false hm]; rfl
theorem lst_put_len {E : Pg.Env} {h : Int} {k : Nat} {x : Int} (hk : k < (lst E h).length) (h' : Int) : (lst (put E h k x) h').length = (lst E h').length := by
  rw [lst_put hk]
  split
  · rename_i e; subst e; simp
  · rfl
theorem elB_put {E : Pg.Env} {h : Int} {k : Nat} {x : Int} (hk : k < (lst E h).length) (h' f' : Int) : elB (put E h k x) h' f' = elB E h' f' := by
  rw [elB_lst, elB_lst, put_va, lst_put_len hk]
theorem set_cases (P : Pg.Prog) (E : Pg.Env) (h f x : Int) : set P E h f x = E ∨ ∃ k : Nat, f = k ∧ elB E h k = true ∧ k < (lst E h).length ∧ Bv.ok (Pg.wid P h k) = true ∧ set P E h f x = put E h k (Bv.red x (Pg.wid P h k)) := by
  cases hel : elB E h f with
  | false => exact .inl (set_el hel)
  | true =>
    obtain ⟨k, rfl, hk⟩ := elB_get hel
    cases hw : Bv.ok (Pg.wid P h k) with
    | false => exact .inl (set_wid hw)
    | true => exact .inr ⟨k, rfl, hel, hk, hw, set_yes hel hw⟩
theorem get_set_ne {P : Pg.Prog} {E : Pg.Env} {h f x h' f' : Int} (hn : ¬ (h' = h ∧ f' = f)) : get (set P E h f x) h' f' = get E h' f' := by
  rcases set_cases P E h f x with e | ⟨k, rfl, hel, hk, _, e⟩
  · rw [e]
  · rw [e]
    unfold get
    rw [elB_put hk, lst_put hk]
    cases h1 : elB E h' f' with
    | false => rfl
    | true =>
      obtain ⟨k', rfl, hk'⟩ := elB_get h1
      rw [if_pos rfl, if_pos rfl, Int.toNat_natCast]
      by_cases h2 : h' = h
      · subst h2
        rw [if_pos rfl, List.getD_eq_getElem?_getD, List.getD_eq_getElem?_getD, List.getElem?_set, if_neg (by intro e2; exact hn ⟨rfl, by omega⟩)]
      · rw [if_neg h2]
theorem get_set_eq {P : Pg.Prog} {E : Pg.Env} {h f x : Int} (hel : elB E h f = true) (hw : Bv.ok (Pg.wid P h f) = true) : get (set P E h f x) h f = Bv.red x (Pg.wid P h f) := by
  obtain ⟨k, rfl, hk⟩ := elB_get hel
  rw [set_yes hel hw]
  unfold get
  rw [elB_put hk, hel, if_pos rfl, lst_put hk, if_pos rfl, Int.toNat_natCast, List.getD_eq_getElem?_getD, List.getElem?_set, if_pos rfl, if_pos hk]
  rfl
/-- what 'Check' tells -/
theorem chk_parts {P : Pg.Prog} {E : Pg.Env} (h : Pg.chkE P E = 0) : Pg.shB P E = true ∧ Pg.fitB P (-1) E.me = true ∧ Pg.fitsB P E = true ∧ Pg.cleanB E = true := by
  unfold Pg.chkE at h
  cases h1 : Pg.shB P E <;> rw [h1] at h
  · simp at h
  cases h2 : Pg.fitB P (-1) E.me <;> rw [h2] at h
  · simp at h
  cases h3 : Pg.fitsB P E <;> rw [h3] at h
  · simp at h
  cases h4 : Pg.cleanB E <;> rw [h4] at h
  · simp at h
  exact ⟨rfl, rfl, rfl, rfl⟩
theorem wid_elB {P : Pg.Prog} {E : Pg.Env} {h f : Int} (hs : Pg.shB P E = true) (hw : Bv.ok (Pg.wid P h f) = true) (hv : h = -1 ∨ vaAt E.va h = true) : elB E h f = true := by
  obtain ⟨l1, l2, l3, l4⟩ := Pg.shB_len hs
  have hf : 0 ≤ f ∧ f < (Pg.flds P h).length := by
    by_cases hb : 0 ≤ f ∧ f < (Pg.flds P h).length
    · exact hb
    · rw [Pg.wid_out rfl (by omega)] at hw; simp [Bv.ok] at hw
  obtain ⟨k, rfl⟩ := Int.eq_ofNat_of_zero_le hf.1
  have hk : k < (Pg.flds P h).length := by omega
  rw [elB_lst]
  by_cases hm : h = -1
  · subst hm
    have e1 : Pg.flds P (-1) = P.md := by unfold Pg.flds; rw [if_pos rfl]
    rw [e1] at hk
    have e2 : lst E (-1) = E.me := by unfold lst; rw [if_pos rfl]
    rw [e2, inB_at (by omega)]; rfl
  · have e1 : Pg.flds P h = (Pg.hdrAt P.hs h).2 := by unfold Pg.flds; rw [if_neg hm]
    rw [e1] at hk
    rcases hv with hv | hv
    · exact absurd hv hm
    rw [hv, Bool.or_true, Bool.true_and]
    have h0 : 0 ≤ h ∧ h < P.hs.length := by
      by_cases hb : 0 ≤ h ∧ h < P.hs.length
      · exact hb
      · rw [Pg.hdrAt_out (by omega)] at hk; simp at hk
    obtain ⟨j, rfl⟩ := Int.eq_ofNat_of_zero_le h0.1
    have hj : j < E.fi.length := by omega
    have e2 : lst E j = E.fi.getD j [] := by
      unfold lst rowAt; rw [if_neg hm, if_pos (by omega), Int.toNat_natCast]
    have e3 := l4 j hj
    rw [e2]
    have e4 : Pg.hdrAt P.hs j = P.hs.getD j (⟨#[]⟩, []) := by unfold Pg.hdrAt; rw [if_pos (by omega), Int.toNat_natCast]
    rw [e4] at hk
    exact inB_at (by omega)
theorem wid_ok_iff {P : Pg.Prog} {h f : Int} : Bv.ok (Pg.wid P h f) = !decide (Pg.wid P h f = 0) := by
  cases e : Bv.ok (Pg.wid P h f) with
  | false => rw [wid_no e]; rfl
  | true =>
    have := (Bv.ok_iff.1 e).1
    rw [decide_eq_false (by omega)]; rfl
/-- the lists of E, one way or the other -/
theorem fi_lst {E : Pg.Env} {j : Nat} : E.fi.getD j [] = lst E j := by
  unfold lst rowAt; rw [if_neg (by omega), if_pos (by omega), Int.toNat_natCast]
theorem fit_lst {P : Pg.Prog} {E : Pg.Env} (h1 : Pg.fitB P (-1) E.me = true) (h2 : Pg.fitsB P E = true) (h : Int) (k : Nat) (hk : k < (lst E h).length) : (lst E h).getD k 0 ≤ Bv.mask (Pg.wid P h k) := by
  have one : ∀ l : List Int, Pg.fitB P h l = true → k < l.length → l.getD k 0 ≤ Bv.mask (Pg.wid P h k) := fun l hl hk => by
    have := List.all_eq_true.1 hl k (List.mem_range.2 hk)
    simpa using this
  by_cases hm : h = -1
  · subst hm
    have e : lst E (-1) = E.me := by unfold lst; rw [if_pos rfl]
    rw [e] at hk ⊢
    exact one _ h1 hk
  · by_cases h0 : 0 ≤ h ∧ h < E.fi.length
    · obtain ⟨j, rfl⟩ := Int.eq_ofNat_of_zero_le h0.1
      rw [← fi_lst] at hk ⊢
      exact one _ (List.all_eq_true.1 h2 j (List.mem_range.2 (by omega))) hk
    · have : lst E h = [] := by unfold lst; rw [if_neg hm, rowAt_out (by omega)]
      rw [this] at hk; simp at hk
/-- Check from what it says of every list -/
theorem chk_of {P : Pg.Prog} {E : Pg.Env} (hs : Pg.shB P E = true) (hf : ∀ (h : Int) (k : Nat), k < (lst E h).length → (lst E h).getD k 0 ≤ Bv.mask (Pg.wid P h k))
    (hc : ∀ j : Nat, j < E.fi.length → E.va.getD j false = false → ∀ k, k < (lst E j).length → (lst E j).getD k 0 = 0) : Pg.chkE P E = 0 := by
  refine Pg.chk_ok hs ?_ ?_ ?_
  · have e : lst E (-1) = E.me := by unfold lst; rw [if_pos rfl]
    rw [← e]
    exact Pg.all_yes fun k hk => decide_eq_true (hf (-1) k hk)
  · refine Pg.all_yes fun j hj => ?_
    show Pg.fitB P j (E.fi.getD j []) = true
    rw [fi_lst]
    exact Pg.all_yes fun k hk => decide_eq_true (hf j k hk)
  · refine Pg.all_yes fun j hj => ?_
    show (E.va.getD j false || Pg.zeroB (E.fi.getD j [])) = true
    cases hv : E.va.getD j false with
    | true => rfl
    | false =>
      rw [Bool.false_or, fi_lst]
      refine Pg.all_yes fun k hk => ?_
      show ((lst E j).getD k 0 == 0) = true
      rw [hc j hj hv k hk]; rfl
theorem clean_lst {E : Pg.Env} (h : Pg.cleanB E = true) {j : Nat} (hj : j < E.fi.length) (hv : E.va.getD j false = false) {k : Nat} (hk : k < (lst E j).length) : (lst E j).getD k 0 = 0 := by
  have h1 := List.all_eq_true.1 h j (List.mem_range.2 hj)
  rw [hv, Bool.false_or, fi_lst] at h1
  have h2 := List.all_eq_true.1 h1 k (List.mem_range.2 hk)
  exact eq_of_beq h2
theorem shB_of {P : Pg.Prog} {E : Pg.Env} (l1 : E.va.length = P.hs.length) (l2 : E.fi.length = P.hs.length) (l3 : E.me.length = P.md.length) (l4 : ∀ j : Nat, j < E.fi.length → (lst E j).length = (P.hs.getD j (⟨#[]⟩, [])).2.length) : Pg.shB P E = true := by
  unfold Pg.shB
  rw [decide_eq_true l1, decide_eq_true l2, decide_eq_true l3]
  refine Pg.all_yes fun j hj => decide_eq_true ?_
  rw [fi_lst]; exact l4 j hj
theorem sh_parts {P : Pg.Prog} {E : Pg.Env} (h : Pg.shB P E = true) : E.va.length = P.hs.length ∧ E.fi.length = P.hs.length ∧ E.me.length = P.md.length ∧ ∀ j : Nat, j < E.fi.length → (lst E j).length = (P.hs.getD j (⟨#[]⟩, [])).2.length := by
  obtain ⟨l1, l2, l3, l4⟩ := Pg.shB_len h
  exact ⟨l1, l2, l3, fun j hj => by rw [← fi_lst]; exact l4 j hj⟩
theorem put_fi_len (E : Pg.Env) (h : Int) (k : Nat) (x : Int) : (put E h k x).fi.length = E.fi.length := by unfold put; split <;> simp
theorem put_me_len (E : Pg.Env) (h : Int) (k : Nat) (x : Int) : (put E h k x).me.length = E.me.length := by unfold put; split <;> simp
theorem red_mask {x w : Int} (h : Bv.ok w = true) : Bv.red x w ≤ Bv.mask w := by
  have h1 := Bv.red_lt (a := x) h
  unfold Bv.mask; rw [if_pos h]; omega
theorem chk_set {P : Pg.Prog} {E : Pg.Env} (hc : Pg.chkE P E = 0) (h f x : Int) : Pg.chkE P (set P E h f x) = 0 := by
  rcases set_cases P E h f x with e | ⟨k, rfl, hel, hk, hw, e⟩
  · rw [e]; exact hc
  · rw [e]
    obtain ⟨c1, c2, c3, c4⟩ := chk_parts hc
    obtain ⟨l1, l2, l3, l4⟩ := sh_parts c1
    refine chk_of (shB_of (by rw [put_va]; exact l1) (by rw [put_fi_len]; exact l2) (by rw [put_me_len]; exact l3) fun j hj => ?_) (fun h' k' hk' => ?_) fun j hj hv k' hk' => ?_
    · rw [put_fi_len] at hj; rw [lst_put_len hk]; exact l4 j hj
    · rw [lst_put_len hk] at hk'
      rw [lst_put hk]
      by_cases h1 : h' = h
      · subst h1
        rw [if_pos rfl, List.getD_eq_getElem?_getD, List.getElem?_set]
        by_cases h2 : k = k'
        · subst h2
          rw [if_pos rfl, if_pos hk]; exact red_mask hw
        · rw [if_neg h2, ← List.getD_eq_getElem?_getD]; exact fit_lst c2 c3 _ _ hk'
      · rw [if_neg h1]; exact fit_lst c2 c3 _ _ hk'
    · rw [put_va] at hv
      rw [put_fi_len] at hj
      rw [lst_put_len hk] at hk'
      rw [lst_put hk, if_neg (fun e => ?_)]
      · exact clean_lst c4 hj hv hk'
      · subst e
        rw [elB_lst] at hel
        simp only [Bool.and_eq_true, Bool.or_eq_true, decide_eq_true_eq] at hel
        rcases hel.1 with h3 | h3
        · omega
        · unfold vaAt at h3; rw [if_pos (by omega), Int.toNat_natCast, hv] at h3; cases h3
theorem lst_sw {E : Pg.Env} {n : Nat} {b : Bool} (h : Int) : lst (sw E n b) h = if h = n ∧ n < E.fi.length then List.replicate (rowAt E.fi n).length 0 else lst E h := by
  unfold lst sw
  by_cases hm : h = -1
  · rw [if_pos hm, if_neg (by omega), if_pos hm]
  · rw [if_neg hm, if_neg hm, rowAt_set]
theorem sw_fi_len (E : Pg.Env) (n : Nat) (b : Bool) : (sw E n b).fi.length = E.fi.length := by simp [sw]
theorem lst_sw_len {E : Pg.Env} {n : Nat} {b : Bool} (h : Int) : (lst (sw E n b) h).length = (lst E h).length := by
  rw [lst_sw]
  split
  · rename_i e
    obtain ⟨rfl, _⟩ := e
    have : lst E n = rowAt E.fi n := by unfold lst; rw [if_neg (by omega)]
    rw [this]; simp
  · rfl
theorem chk_switch {P : Pg.Prog} {E : Pg.Env} (hc : Pg.chkE P E = 0) (h : Int) (v kp : Bool) : Pg.chkE P (switch P E h v kp) = 0 := by
  cases hs : swB P E h v kp with
  | false => rw [sw_no hs]; exact hc
  | true =>
    have hs' := hs
    unfold swB at hs'
    simp only [Bool.and_eq_true] at hs'
    obtain ⟨n, rfl, hn⟩ := inB_get hs'.1
    rw [sw_yes hs]
    obtain ⟨c1, c2, c3, c4⟩ := chk_parts hc
    obtain ⟨l1, l2, l3, l4⟩ := sh_parts c1
    have z : ∀ m k, (List.replicate m (0 : Int)).getD k 0 = 0 := fun m k => getD_rep
    refine chk_of (shB_of (by simp [sw, l1]) (by rw [sw_fi_len]; exact l2) l3 fun j hj => ?_) (fun h' k' hk' => ?_) fun j hj hv k' hk' => ?_
    · rw [sw_fi_len] at hj; rw [lst_sw_len]; exact l4 j hj
    · rw [lst_sw_len] at hk'
      rw [lst_sw]
      split
      · rw [z]; exact (Bv.mask_bd _).1
      · exact fit_lst c2 c3 _ _ hk'
    · rw [sw_fi_len] at hj
      rw [lst_sw_len] at hk'
      rw [lst_sw]
      split
      · exact z _ _
      · rename_i e
        refine clean_lst c4 hj ?_ hk'
        have : ¬ (n = j) := fun e2 => e ⟨by omega, by omega⟩
        simp only [sw] at hv
        rw [List.getD_eq_getElem?_getD, List.getElem?_set, if_neg this] at hv
        rw [List.getD_eq_getElem?_getD]; exact hv
theorem cap_chk {P : Pg.Prog} {E : Pg.Env} (hp : CapP P) (hc : Pg.chkE P E = 0) (hpl : E.pl = []) : CapE E := by
  obtain ⟨c1, _, _, _⟩ := chk_parts hc
  obtain ⟨l1, l2, l3, l4⟩ := Pg.shB_len c1
  refine ⟨by have := hp.1; omega, by have := hp.1; omega, by have := hp.2.1; omega, by rw [hpl]; decide, fun l hl => ?_⟩
  obtain ⟨j, hj, rfl⟩ := List.mem_iff_getElem.1 hl
  have h1 := l4 j hj
  have h2 : E.fi.getD j [] = E.fi[j] := by rw [List.getD_eq_getElem?_getD, List.getElem?_eq_getElem hj]; rfl
  rw [h2] at h1
  have h3 : P.hs.getD j (⟨#[]⟩, []) = P.hs[j]'(by omega) := by rw [List.getD_eq_getElem?_getD, List.getElem?_eq_getElem (by omega)]; rfl
  rw [h3] at h1
  have := hp.2.2 _ (List.getElem_mem (h := (by omega : j < P.hs.length)))
  omega
theorem set_pl (P : Pg.Prog) (E : Pg.Env) (h f x : Int) : (set P E h f x).pl = E.pl := by
  unfold set; split
  · unfold put; split <;> rfl
  · rfl
theorem switch_pl (P : Pg.Prog) (E : Pg.Env) (h : Int) (v k : Bool) : (switch P E h v k).pl = E.pl := by
  unfold switch; split <;> rfl
/-- the bits of x and of x modulo 2^w -/
theorem xor_red {x w : Int} (hx : U32 x) (hw : Bv.ok w = true) : bits .and .u32 (bits .xor .u32 x (Bv.red x w)) (Bv.mask w) = 0 := by
  obtain ⟨h1, h2⟩ := Bv.red_bd x w
  rw [u32_xor _ _ hx.1 hx.2 h1 h2]
  obtain ⟨n, hn⟩ := Int.eq_ofNat_of_zero_le hx.1
  obtain ⟨m, hm⟩ := Int.eq_ofNat_of_zero_le h1
  have hwn : 1 ≤ w ∧ w ≤ 32 := Bv.ok_iff.1 hw
  have e : m = n % 2 ^ w.toNat := by
    have := Bv.red_eq (a := x) hw
    rw [hm, hn, Bv.pw_cast] at this
    exact_mod_cast this
  have b1 : n < 2 ^ 32 := by have := hx.2; omega
  have b2 : m < 2 ^ 32 := by omega
  rw [hm, hn, Int.toNat_natCast, Int.toNat_natCast]
  have b3 : n ^^^ m < 2 ^ 32 := Nat.xor_lt_two_pow b1 b2
  have hx2 := Bv.and_mask (x := ((n ^^^ m : Nat) : Int)) (w := w) (by omega) (by omega)
  refine hx2.trans ?_
  rw [Bv.red_eq hw, Bv.pw_cast]
  have : (n ^^^ m) % 2 ^ w.toNat = 0 := by
    apply Nat.eq_of_testBit_eq
    intro i
    rw [Nat.testBit_mod_two_pow, Nat.testBit_xor, e, Nat.testBit_mod_two_pow]
    by_cases hi : i < w.toNat
    · simp [hi]
    · simp [hi]
  exact_mod_cast this
theorem bit_fact {x y : Int} {n : Nat} (hx : U32 x) (hw : Bv.ok (n : Int) = true) (hy : y = Bv.red x n) : (bits BinOp.and IntKind.u32 (bits BinOp.xor IntKind.u32 x y) (((2 : Int) ^ n - 1) % 4294967296) == 0) = true := by
  have h1 := Bv.mask_bd (n : Int)
  have e : ((2 : Int) ^ n - 1) % 4294967296 = Bv.mask n := by
    have h2 : Bv.mask (n : Int) = (2 : Int) ^ n - 1 := by unfold Bv.mask; rw [if_pos hw]; simp [Bv.pw]
    rw [← h2]; exact Int.emod_eq_of_lt h1.1 h1.2
  rw [e, hy, xor_red hx hw]; rfl
end En
end Go.Proofs.Ytdgepbolfflidaa
namespace Go.Proofs.Ytdgepbolfflidaa
open Go.RowKit

set_option maxRecDepth 100000 in
theorem accs_take {v : Value} {W : World} {base : Nat} {r : Reach} {H : Type} {enc : TypeId × Value → H} {d : DataW H} {ps : List MemPlace}
    (ok : Value.okWide Try.prog W r base 85 v) (h : DataW.Trod enc Try.prog W 0 (fun _ => true) true 85 v d ps) : ∃ a b x c a2 b2 x2 c2 : Int, v = .agg #[.int .i64 a, .int .i64 b, .int .u32 x, .int .i64 c, .int .i64 a2, .int .i64 b2, .int .u32 x2, .int .i64 c2] ∧ U32 x := by
  have hc : Try.prog.cellsOf 85 = 8 := by kernel_rfl
  have hce : Try.prog.cellsOf 76 = 4 := by kernel_rfl
  obtain ⟨l, rfl, hl⟩ := ok_array Try.underlying85 ok
  rw [hc] at hl
  obtain ⟨_, hr⟩ := Rd.array Try.underlying85 (Rd.of h)
  rw [hce] at hr
  match l, hl with
  | [c0, c1, c2, c3, c4, c5, c6, c7], _ =>
    obtain ⟨a, b, x, c, h1, hx⟩ := rd_acc (by rfl) (hr 0 (by decide))
    obtain ⟨a2, b2, x2, cc2, h2, _⟩ := rd_acc (by rfl) (hr 1 (by decide))
    simp [Value.cells] at h1 h2
    obtain ⟨rfl, rfl, rfl, rfl⟩ := h1
    obtain ⟨rfl, rfl, rfl, rfl⟩ := h2
    exact ⟨_, _, _, _, _, _, _, _, rfl, hx⟩
theorem En.chk_vals (P : Pg.Prog) (E : Pg.Env) : Pg.chkE P E = 0 ∨ Pg.chkE P E = 2 ∨ Pg.chkE P E = 5 ∨ Pg.chkE P E = 9 := by
  unfold Pg.chkE; repeat' split
  all_goals simp
theorem duo_heap (w : World) (o1 o2 : Obj) : ((w.alloc o1).alloc o2).drew.heap[w.heap.size]? = some o1 ∧ ((w.alloc o1).alloc o2).drew.heap[w.heap.size + 1]? = some o2 ∧ Ext w ((w.alloc o1).alloc o2).drew := by
  refine ⟨((Ext.refl (w.alloc o1)).alloc o2).heap (alloc_heap w o1), ?_, (((Ext.refl w).alloc o1).alloc o2).drew⟩
  have h := alloc_heap (w.alloc o1) o2
  rw [World.size_alloc] at h; exact h
set_option maxRecDepth 8000 in
set_option maxHeartbeats 8000000 in
theorem envIsolated_walk (v0 v1 v2 : Value) (W : World) {b0 b1 b2 : Nat} {r0 r1 r2 : Reach} {H : Type} {enc : TypeId × Value → H} {d0 d1 d2 : DataW H} {p0 p1 p2 : List MemPlace}
    (ok0 : Value.okWide Try.prog W r0 b0 61 v0) (h0 : DataW.Trod enc Try.prog W 0 (fun _ => true) true 61 v0 d0 p0)
    (ok1 : Value.okWide Try.prog W r1 b1 65 v1) (h1 : DataW.Trod enc Try.prog W 0 (fun _ => true) true 65 v1 d1 p1)
    (ok2 : Value.okWide Try.prog W r2 b2 85 v2) (h2 : DataW.Trod enc Try.prog W 0 (fun _ => true) true 85 v2 d2 p2) :
    Calls Try.prog 8 #[v0, v1, v2] W (Rets W (.bool true)) := by
  obtain ⟨p, P, rfl, hp, _⟩ := prog_take ok0 h0
  obtain ⟨ea, E, rfl, he⟩ := env_take ok1 h1
  obtain ⟨a, b, x, c, ua, ub, ux, uc, rfl, x0, x1⟩ := accs_take ok2 h2
  clear ok2 h2 d2
  clear ok0 h0 ok1 h1 d0 d1
  have hA : EnvV W ea.val E := ⟨ea, rfl, he⟩
  have htl := fun w (hx : Ext W w) => toolarge_any (hp.ext hx)
  have hlo := fun w (hx : Ext W w) => long_any (he.ext hx)
  obtain ⟨s, a1, a2, a3, a4, a5, a6, a7, a8, m1, m2, n3, m3, n4, m4, n5, m5, n6, m6, n7, m7, m8, hf⟩ := hp.form
  obtain ⟨rfl, _, _, _, _, _, _⟩ := hf
  obtain ⟨b0, b1, b2, b3, d0, d1, d2, d3, hg⟩ := he.form
  obtain ⟨rfl, _, _, _, _, _, _, _, _⟩ := hg
  dsimp only [Pg.PV.val, Pg.EV.val] at hA htl hlo hp ⊢
  obtain ⟨t0, ht0⟩ : ∃ t, t = !En.okP P := ⟨_, rfl⟩
  obtain ⟨t1, ht1⟩ : ∃ t, t = !En.okE E := ⟨_, rfl⟩
  rw [← ht0] at htl
  rw [← ht1] at hlo
  have HTL := Lib.hid htl
  have HLO := Lib.hid hlo
  have bx := alloc_heap W (.cells #[.string s, .slice a1 P.hs.length m1, .slice a2 P.md.length m2, .slice a3 n3 m3, .slice a4 n4 m4, .slice a5 n5 m5, .slice a6 n6 m6, .slice a7 n7 m7, .slice a8 P.dp.length m8] 61)
  have pc0 := alw (cell_of (o := 0) bx)
  have pc1 := alw (cell_of (o := 1) bx)
  have pc2 := alw (cell_of (o := 2) bx)
  have pc3 := alw (cell_of (o := 3) bx)
  have pc4 := alw (cell_of (o := 4) bx)
  have pc5 := alw (cell_of (o := 5) bx)
  have pc6 := alw (cell_of (o := 6) bx)
  have pc7 := alw (cell_of (o := 7) bx)
  have pc8 := alw (cell_of (o := 8) bx)
  clear bx
  have bx := alloc_heap (W.alloc (.cells #[.string s, .slice a1 P.hs.length m1, .slice a2 P.md.length m2, .slice a3 n3 m3, .slice a4 n4 m4, .slice a5 n5 m5, .slice a6 n6 m6, .slice a7 n7 m7, .slice a8 P.dp.length m8] 61)) (.cells #[.slice b0 E.va.length d0, .slice b1 E.fi.length d1, .slice b2 E.me.length d2, .slice b3 E.pl.length d3] 65)
  rw [World.size_alloc] at bx
  have ec0 := alw (cell_of (o := 0) bx)
  have ec1 := alw (cell_of (o := 1) bx)
  have ec2 := alw (cell_of (o := 2) bx)
  have ec3 := alw (cell_of (o := 3) bx)
  clear bx
  have bx := alloc_heap ((W.alloc (.cells #[.string s, .slice a1 P.hs.length m1, .slice a2 P.md.length m2, .slice a3 n3 m3, .slice a4 n4 m4, .slice a5 n5 m5, .slice a6 n6 m6, .slice a7 n7 m7, .slice a8 P.dp.length m8] 61)).alloc (.cells #[.slice b0 E.va.length d0, .slice b1 E.fi.length d1, .slice b2 E.me.length d2, .slice b3 E.pl.length d3] 65)) (.cells #[.int .i64 a, .int .i64 b, .int .u32 x, .int .i64 c, .int .i64 ua, .int .i64 ub, .int .u32 ux, .int .i64 uc] 85)
  rw [World.size_alloc, World.size_alloc] at bx
  have rc0 := alw (cell_of (o := 0) bx)
  have rc1 := alw (cell_of (o := 1) bx)
  have rc2 := alw (cell_of (o := 2) bx)
  have rc3 := alw (cell_of (o := 3) bx)
  have rc4 := alw (cell_of (o := 4) bx)
  have rc5 := alw (cell_of (o := 5) bx)
  have rc6 := alw (cell_of (o := 6) bx)
  have rc7 := alw (cell_of (o := 7) bx)
  clear bx
  cases t0 with
  | true =>
    clear ht0 ht1 hA hp
    go_enter Try.func8, Try.ntmps8
    go_wp2_with fail
    refine (HTL.out _ grows).mono ?_
    rintro e w1 ⟨rfl, xw1⟩
    have sw1 := Step.mk xw1
    go_wp2_with fail
    refine (eworks_any _).mono ?_
    rintro e w5 ⟨rfl, x5⟩
    have s5 := Step.mk x5
    go_wp2_with fail
    go_ret
    exact ⟨rfl, grows⟩
  | false =>
    cases t1 with
    | true =>
      clear ht0 ht1 hA hp
      go_enter Try.func8, Try.ntmps8
      go_wp2_with fail
      refine (HTL.out _ grows).mono ?_
      rintro e w1 ⟨rfl, xw1⟩
      have sw1 := Step.mk xw1
      go_wp2_with fail
      refine (HLO.out _ grows).mono ?_
      rintro e w2 ⟨rfl, xw2⟩
      have sw2 := Step.mk xw2
      go_wp2_with fail
      refine (eworks_any _).mono ?_
      rintro e w5 ⟨rfl, x5⟩
      have s5 := Step.mk x5
      go_wp2_with fail
      go_ret
      exact ⟨rfl, grows⟩
    | false =>
      have hca := En.okE_cap (E := E) (by simpa using ht1.symm)
      obtain ⟨r, hr⟩ : ∃ z, z = Pg.chkE P E := ⟨_, rfl⟩
      have HCK : Hid (∀ w, Ext W w → Calls Try.prog 40 #[.agg #[.string s, .slice a1 P.hs.length m1, .slice a2 P.md.length m2, .slice a3 n3 m3, .slice a4 n4 m4, .slice a5 n5 m5, .slice a6 n6 m6, .slice a7 n7 m7, .slice a8 P.dp.length m8], .agg #[.slice b0 E.va.length d0, .slice b1 E.fi.length d1, .slice b2 E.me.length d2, .slice b3 E.pl.length d3]] w (Rets w (.int .i64 r))) := Lib.hid (fun w hx => by have h := rchkV (hp.ext hx) (hA.ext hx); rw [← hr] at h; exact h)
      rcases (show r = 0 ∨ r = 2 ∨ r = 5 ∨ r = 9 by rw [hr]; exact En.chk_vals P E) with r0 | r0 | r0 | r0
      rotate_left
      · subst r0
        clear ht0 ht1 hA hp hr htl hlo x0 x1 hca
        go_enter Try.func8, Try.ntmps8
        go_wp2_with fail
        refine (HTL.out _ grows).mono ?_
        rintro e w1 ⟨rfl, xw1⟩
        have sw1 := Step.mk xw1
        go_wp2_with fail
        refine (HLO.out _ grows).mono ?_
        rintro e w2 ⟨rfl, xw2⟩
        have sw2 := Step.mk xw2
        go_wp2_with fail
        refine (HCK.out _ grows).mono ?_
        rintro e w3 ⟨rfl, xw3⟩
        have sw3 := Step.mk xw3
        go_wp2_with fail
        refine (eworks_any _).mono ?_
        rintro e w5 ⟨rfl, x5⟩
        have s5 := Step.mk x5
        go_wp2_with fail
        go_ret
        exact ⟨rfl, grows⟩
      · subst r0
        clear ht0 ht1 hA hp hr htl hlo x0 x1 hca
        go_enter Try.func8, Try.ntmps8
        go_wp2_with fail
        refine (HTL.out _ grows).mono ?_
        rintro e w1 ⟨rfl, xw1⟩
        have sw1 := Step.mk xw1
        go_wp2_with fail
        refine (HLO.out _ grows).mono ?_
        rintro e w2 ⟨rfl, xw2⟩
        have sw2 := Step.mk xw2
        go_wp2_with fail
        refine (HCK.out _ grows).mono ?_
        rintro e w3 ⟨rfl, xw3⟩
        have sw3 := Step.mk xw3
        go_wp2_with fail
        refine (eworks_any _).mono ?_
        rintro e w5 ⟨rfl, x5⟩
        have s5 := Step.mk x5
        go_wp2_with fail
        go_ret
        exact ⟨rfl, grows⟩
      · subst r0
        clear ht0 ht1 hA hp hr htl hlo x0 x1 hca
        go_enter Try.func8, Try.ntmps8
        go_wp2_with fail
        refine (HTL.out _ grows).mono ?_
        rintro e w1 ⟨rfl, xw1⟩
        have sw1 := Step.mk xw1
        go_wp2_with fail
        refine (HLO.out _ grows).mono ?_
        rintro e w2 ⟨rfl, xw2⟩
        have sw2 := Step.mk xw2
        go_wp2_with fail
        refine (HCK.out _ grows).mono ?_
        rintro e w3 ⟨rfl, xw3⟩
        have sw3 := Step.mk xw3
        go_wp2_with fail
        refine (eworks_any _).mono ?_
        rintro e w5 ⟨rfl, x5⟩
        have s5 := Step.mk x5
        go_wp2_with fail
        go_ret
        exact ⟨rfl, grows⟩
      subst r0
      have hcm := hr.symm
      have HCE := Lib.hid hcm
      obtain ⟨F, hF⟩ : ∃ z, z = En.set P E a b x := ⟨_, rfl⟩
      obtain ⟨z, hz⟩ : ∃ z, z = En.get E a b := ⟨_, rfl⟩
      have HST : Hid (∀ w, Ext W w → Calls Try.prog 43 #[.agg #[.string s, .slice a1 P.hs.length m1, .slice a2 P.md.length m2, .slice a3 n3 m3, .slice a4 n4 m4, .slice a5 n5 m5, .slice a6 n6 m6, .slice a7 n7 m7, .slice a8 P.dp.length m8], .agg #[.slice b0 E.va.length d0, .slice b1 E.fi.length d1, .slice b2 E.me.length d2, .slice b3 E.pl.length d3], .agg #[.int .i64 a, .int .i64 b], .int .u32 x] w (EnvR w F)) := Lib.hid (fun w hx => by have h := setV (hp.ext hx) (hA.ext hx) hca a b x x0 x1; rw [← hF] at h; exact h)
      obtain ⟨n, hn⟩ : ∃ n : Nat, Pg.wid P a b = n := Int.eq_ofNat_of_zero_le (Pg.wid_bd P a b).1
      have nb : n ≤ 32 := by have := (Pg.wid_bd P a b).2; omega
      have HN := Lib.hid hn
      have HWD : Hid (∀ w, Ext W w → Calls Try.prog 35 #[.agg #[.string s, .slice a1 P.hs.length m1, .slice a2 P.md.length m2, .slice a3 n3 m3, .slice a4 n4 m4, .slice a5 n5 m5, .slice a6 n6 m6, .slice a7 n7 m7, .slice a8 P.dp.length m8], .agg #[.int .i64 a, .int .i64 b]] w (Rets w (.int .i64 (n : Int)))) := Lib.hid (fun w hx => by have h := rwidth_any (hp.ext hx) a b; rw [hn] at h; exact h)
      have HHS : Hid (∀ w, Ext W w → Calls Try.prog 49 #[.agg #[.slice b0 E.va.length d0, .slice b1 E.fi.length d1, .slice b2 E.me.length d2, .slice b3 E.pl.length d3], .int .i64 a] w (Rets w (.bool (En.vaAt E.va a)))) := Lib.hid (fun w hx => by have h := has12_any (he.ext hx) a; exact h)
      have HGE : Hid (∀ w, Ext W w → Calls Try.prog 41 #[.agg #[.slice b0 E.va.length d0, .slice b1 E.fi.length d1, .slice b2 E.me.length d2, .slice b3 E.pl.length d3], .agg #[.int .i64 a, .int .i64 b]] w (Rets w (.int .u32 z))) := Lib.hid (fun w hx => by have h := getV (hA.ext hx) a b; rw [← hz] at h; exact h)
      have HF := Lib.hid hF
      have HZ := Lib.hid hz
      have HA := Lib.hid hA
      have HXU : Hid (U32 x) := Lib.hid ⟨x0, x1⟩
      clear ht0 ht1 hr hcm htl hlo hF hz hca hA hp he hn
      go_enter Try.func8, Try.ntmps8
      go_wp2_with fail
      refine (HTL.out _ grows).mono ?_
      rintro e w1 ⟨rfl, xw1⟩
      have sw1 := Step.mk xw1
      go_wp2_with fail
      refine (HLO.out _ grows).mono ?_
      rintro e w2 ⟨rfl, xw2⟩
      have sw2 := Step.mk xw2
      go_wp2_with fail
      refine (HCK.out _ grows).mono ?_
      rintro e w3 ⟨rfl, xw3⟩
      have sw3 := Step.mk xw3
      go_wp2_with fail
      have y0 := rc0 w3
      have y1 := rc1 w3
      have y4 := rc4 w3
      have y5 := rc5 w3
      go_cut [7, 8] (fun z7 z8 wx => ∃ B7 B8 : Nat, z7 = .pointer (some ⟨B7, 0, none⟩) ∧ z8 = .pointer (some ⟨B8, 0, none⟩) ∧ Ext w3 wx ∧ wx.heap[B7]? = some (.cells #[.int .i64 a, .int .i64 b] 67 (0, 0)) ∧ wx.heap[B8]? = some (.cells #[.int .i64 ua, .int .i64 ub] 67 (0, 0)))
      case first =>
        go_region
        all_goals (try go_wp2_with fail)
        all_goals go_meet
        all_goals (refine ⟨_, _, rfl, rfl, (duo_heap w3 _ _).2.2, ?_, ?_⟩)
        all_goals first | exact (duo_heap w3 _ _).1 | exact (duo_heap w3 _ _).2.1
      case rest =>
        obtain ⟨B7, B8, rfl, rfl, hx4, h7, h8⟩ := hcut
        obtain ⟨w4, rfl⟩ : ∃ w4 : World, w4 = wc := ⟨_, rfl⟩
        have s4 := Step.mk hx4
        have k70 := alw (cell_of (o := 0) h7)
        have k71 := alw (cell_of (o := 1) h7)
        have k80 := alw (cell_of (o := 0) h8)
        have k81 := alw (cell_of (o := 1) h8)
        clear h7 h8 hx4 y0 y1 y4 y5
        go_wp2_with fail
        refine (HST.out _ grows).mono ?_
        rintro e w5 ⟨v5, rfl, x5, r5⟩
        have s5 := Step.mk x5
        have I5 := Lib.hid r5
        obtain ⟨ev5, hv5, he5⟩ := r5
        obtain ⟨q50, q51, q52, q53, t50, t51, t52, t53, hg⟩ := he5.form
        obtain ⟨rfl, _, _, _, _, _, _, _, _⟩ := hg
        subst hv5
        clear he5
        have bo := alloc_heap w5 (.cells #[.slice q50 F.va.length t50, .slice q51 F.fi.length t51, .slice q52 F.me.length t52, .slice q53 F.pl.length t53] 65)
        have o5_0 := alw (cell_of (o := 0) bo)
        have o5_1 := alw (cell_of (o := 1) bo)
        have o5_2 := alw (cell_of (o := 2) bo)
        have o5_3 := alw (cell_of (o := 3) bo)
        clear bo
        clear x5
        go_wp2_with fail
        go_cut [49] (fun z49 wx => z49 = .bool false ∧ Ext (w5.alloc (.cells #[.slice q50 F.va.length t50, .slice q51 F.fi.length t51, .slice q52 F.me.length t52, .slice q53 F.pl.length t53] 65)) wx)
        case first =>
          by_cases hsame : ua = a ∧ ub = b
          · obtain ⟨rfl, rfl⟩ := hsame
            refine wp_region_later (W := (w5.alloc (.cells #[.slice q50 F.va.length t50, .slice q51 F.fi.length t51, .slice q52 F.me.length t52, .slice q53 F.pl.length t53] 65))) (by kernel_rfl) (by kernel_rfl) (Ext.refl _) ?_
            repeat (go_big_quiet_step (fail))
            refine wpQuiet_nil ?_
            intro w6 x6
            have s6 := Step.mk x6
            go_wp2_with fail
            go_meet
            exact ⟨rfl, x6⟩
          · have HNS : Hid (¬ (ua = a ∧ ub = b)) := Lib.hid hsame
            by_cases h1 : ua = a
            · subst h1
              have h2 : ¬ ub = b := fun e => hsame ⟨rfl, e⟩
              clear hsame
              obtain ⟨gq, hgq⟩ : ∃ z, z = En.get E ua ub := ⟨_, rfl⟩
              have HQE : Hid (∀ w, Ext W w → Calls Try.prog 41 #[.agg #[.slice b0 E.va.length d0, .slice b1 E.fi.length d1, .slice b2 E.me.length d2, .slice b3 E.pl.length d3], .agg #[.int .i64 ua, .int .i64 ub]] w (Rets w (.int .u32 gq))) := Lib.hid (fun w hx => by have h := getV (HA.out.ext hx) ua ub; rw [← hgq] at h; exact h)
              have HQF : Hid (∀ w v, EnvV w v F → Calls Try.prog 41 #[v, .agg #[.int .i64 ua, .int .i64 ub]] w (Rets w (.int .u32 gq))) := Lib.hid (fun w v hv => by have h := getV hv ua ub; rw [HF.out, En.get_set_ne HNS.out, ← hgq] at h; exact h)
              clear hgq
              refine Rel.region (W := (w5.alloc (.cells #[.slice q50 F.va.length t50, .slice q51 F.fi.length t51, .slice q52 F.me.length t52, .slice q53 F.pl.length t53] 65))) (Rel.tab [(6, fun v _ => v = .int .u32 gq), (9, fun v _ => v = .int .u32 gq)]) (Rel.tab_lasts (by intro p hp v w w' hr hx; simp only [List.mem_cons, List.not_mem_nil, or_false] at hp; rcases hp with rfl | rfl; (· exact hr); (· exact hr))) (by kernel_rfl) (by kernel_rfl) (Ext.refl _) ?_
              refine Rel.chunk 6 rfl rfl rfl ?_
              simp only [List.take_succ_cons, List.take_zero, List.drop_succ_cons, List.drop_zero, Nat.reduceAdd]
              repeat (go_big_quiet_step (fail))
              refine wpQuiet_nil ?_
              refine Rel.callG (fun v _ => v = .int .u32 gq) rfl rfl rfl Try.func41 (by nofun) (by decide) #[.agg #[.slice q50 F.va.length t50, .slice q51 F.fi.length t51, .slice q52 F.me.length t52, .slice q53 F.pl.length t53], .agg #[.int .i64 ua, .int .i64 ub]] rfl (fun w hx _ => by refine (HQF.out w _ (I5.out.ext ((grows (a := w5) (b := (w5.alloc (.cells #[.slice q50 F.va.length t50, .slice q51 F.fi.length t51, .slice q52 F.me.length t52, .slice q53 F.pl.length t53] 65)))).trans hx))).mono ?_; rintro e w9 ⟨he, hx9⟩; exact ⟨_, he, hx9, rfl⟩) ?_
              intro v6 wq6 _ _ r6
              subst r6
              simp only [Act.put, List.setIfInBounds_toArray, List.set_cons_succ, List.set_cons_zero]
              refine Rel.chunk 2 rfl rfl rfl ?_
              simp only [List.take_succ_cons, List.take_zero, List.drop_succ_cons, List.drop_zero, Nat.reduceAdd]
              repeat (go_big_quiet_step (fail))
              refine wpQuiet_nil ?_
              refine Rel.callG (fun v _ => v = .int .u32 gq) rfl rfl rfl Try.func41 (by nofun) (by decide) #[.agg #[.slice b0 E.va.length d0, .slice b1 E.fi.length d1, .slice b2 E.me.length d2, .slice b3 E.pl.length d3], .agg #[.int .i64 ua, .int .i64 ub]] rfl (fun w hx _ => by refine (HQE.out w ((grows (a := W) (b := (w5.alloc (.cells #[.slice q50 F.va.length t50, .slice q51 F.fi.length t51, .slice q52 F.me.length t52, .slice q53 F.pl.length t53] 65)))).trans hx)).mono ?_; rintro e w9 ⟨he, hx9⟩; exact ⟨_, he, hx9, rfl⟩) ?_
              intro v9 wq9 _ _ r9
              subst r9
              simp only [Act.put, List.setIfInBounds_toArray, List.set_cons_succ, List.set_cons_zero]
              refine Rel.chunk 2 rfl rfl rfl ?_
              simp only [List.take_succ_cons, List.take_zero, List.drop_succ_cons, List.drop_zero, Nat.reduceAdd]
              repeat (go_big_quiet_step (fail))
              refine wpQuiet_nil ?_
              refine Rel.fin ?_
              intro w6 x6 _
              have s6 := Step.mk x6
              go_wp2_with fail
              go_meet
              exact ⟨rfl, x6⟩
            · clear hsame
              obtain ⟨gq, hgq⟩ : ∃ z, z = En.get E ua ub := ⟨_, rfl⟩
              have HQE : Hid (∀ w, Ext W w → Calls Try.prog 41 #[.agg #[.slice b0 E.va.length d0, .slice b1 E.fi.length d1, .slice b2 E.me.length d2, .slice b3 E.pl.length d3], .agg #[.int .i64 ua, .int .i64 ub]] w (Rets w (.int .u32 gq))) := Lib.hid (fun w hx => by have h := getV (HA.out.ext hx) ua ub; rw [← hgq] at h; exact h)
              have HQF : Hid (∀ w v, EnvV w v F → Calls Try.prog 41 #[v, .agg #[.int .i64 ua, .int .i64 ub]] w (Rets w (.int .u32 gq))) := Lib.hid (fun w v hv => by have h := getV hv ua ub; rw [HF.out, En.get_set_ne HNS.out, ← hgq] at h; exact h)
              clear hgq
              refine Rel.region (W := (w5.alloc (.cells #[.slice q50 F.va.length t50, .slice q51 F.fi.length t51, .slice q52 F.me.length t52, .slice q53 F.pl.length t53] 65))) (Rel.tab [(6, fun v _ => v = .int .u32 gq), (9, fun v _ => v = .int .u32 gq)]) (Rel.tab_lasts (by intro p hp v w w' hr hx; simp only [List.mem_cons, List.not_mem_nil, or_false] at hp; rcases hp with rfl | rfl; (· exact hr); (· exact hr))) (by kernel_rfl) (by kernel_rfl) (Ext.refl _) ?_
              refine Rel.chunk 6 rfl rfl rfl ?_
              simp only [List.take_succ_cons, List.take_zero, List.drop_succ_cons, List.drop_zero, Nat.reduceAdd]
              repeat (go_big_quiet_step (fail))
              refine wpQuiet_nil ?_
              refine Rel.callG (fun v _ => v = .int .u32 gq) rfl rfl rfl Try.func41 (by nofun) (by decide) #[.agg #[.slice q50 F.va.length t50, .slice q51 F.fi.length t51, .slice q52 F.me.length t52, .slice q53 F.pl.length t53], .agg #[.int .i64 ua, .int .i64 ub]] rfl (fun w hx _ => by refine (HQF.out w _ (I5.out.ext ((grows (a := w5) (b := (w5.alloc (.cells #[.slice q50 F.va.length t50, .slice q51 F.fi.length t51, .slice q52 F.me.length t52, .slice q53 F.pl.length t53] 65)))).trans hx))).mono ?_; rintro e w9 ⟨he, hx9⟩; exact ⟨_, he, hx9, rfl⟩) ?_
              intro v6 wq6 _ _ r6
              subst r6
              simp only [Act.put, List.setIfInBounds_toArray, List.set_cons_succ, List.set_cons_zero]
              refine Rel.chunk 2 rfl rfl rfl ?_
              simp only [List.take_succ_cons, List.take_zero, List.drop_succ_cons, List.drop_zero, Nat.reduceAdd]
              repeat (go_big_quiet_step (fail))
              refine wpQuiet_nil ?_
              refine Rel.callG (fun v _ => v = .int .u32 gq) rfl rfl rfl Try.func41 (by nofun) (by decide) #[.agg #[.slice b0 E.va.length d0, .slice b1 E.fi.length d1, .slice b2 E.me.length d2, .slice b3 E.pl.length d3], .agg #[.int .i64 ua, .int .i64 ub]] rfl (fun w hx _ => by refine (HQE.out w ((grows (a := W) (b := (w5.alloc (.cells #[.slice q50 F.va.length t50, .slice q51 F.fi.length t51, .slice q52 F.me.length t52, .slice q53 F.pl.length t53] 65)))).trans hx)).mono ?_; rintro e w9 ⟨he, hx9⟩; exact ⟨_, he, hx9, rfl⟩) ?_
              intro v9 wq9 _ _ r9
              subst r9
              simp only [Act.put, List.setIfInBounds_toArray, List.set_cons_succ, List.set_cons_zero]
              refine Rel.chunk 2 rfl rfl rfl ?_
              simp only [List.take_succ_cons, List.take_zero, List.drop_succ_cons, List.drop_zero, Nat.reduceAdd]
              repeat (go_big_quiet_step (fail))
              refine wpQuiet_nil ?_
              refine Rel.fin ?_
              intro w6 x6 _
              have s6 := Step.mk x6
              go_wp2_with fail
              go_meet
              exact ⟨rfl, x6⟩
        case rest =>
          obtain ⟨rfl, hx6⟩ := hcut
          obtain ⟨w6, rfl⟩ : ∃ w6 : World, w6 = wc := ⟨_, rfl⟩
          have s6 := Step.mk hx6
          clear hx6
          go_wp2_with fail
          refine (HWD.out _ grows).mono ?_
          rintro e w7 ⟨rfl, xw7⟩
          have sw7 := Step.mk xw7
          by_cases n0 : n = 0
          · subst n0
            have HS : Hid (En.set P E a b x = E) := Lib.hid (En.set_wid (by rw [HN.out]; rfl))
            go_wp2_with fail
            have HGF : Hid (∀ w v, EnvV w v F → Calls Try.prog 41 #[v, .agg #[.int .i64 a, .int .i64 b]] w (Rets w (.int .u32 z))) := Lib.hid (fun w v hv => by have h := getV hv a b; rw [HF.out, HS.out, ← HZ.out] at h; exact h)
            refine Rel.region (W := w7) (Rel.tab [(2, fun v _ => v = .int .u32 z), (5, fun v _ => v = .int .u32 z), (8, fun v _ => v = .bool true)]) (Rel.tab_lasts (by intro p hp v w w' hr hx; simp only [List.mem_cons, List.not_mem_nil, or_false] at hp; rcases hp with rfl | rfl | rfl; (· exact hr); (· exact hr); (· exact hr))) (by kernel_rfl) (by kernel_rfl) (Ext.refl _) ?_
            refine Rel.chunk 2 rfl rfl rfl ?_
            simp only [List.take_succ_cons, List.take_zero, List.drop_succ_cons, List.drop_zero, Nat.reduceAdd]
            repeat (go_big_quiet_step (fail))
            refine wpQuiet_nil ?_
            refine Rel.callG (fun v _ => v = .int .u32 z) rfl rfl rfl Try.func41 (by nofun) (by decide) #[.agg #[.slice q50 F.va.length t50, .slice q51 F.fi.length t51, .slice q52 F.me.length t52, .slice q53 F.pl.length t53], .agg #[.int .i64 a, .int .i64 b]] rfl (fun w hx _ => by refine (HGF.out w _ (I5.out.ext ((grows (a := w5) (b := w7)).trans hx))).mono ?_; rintro e w9 ⟨he, hx9⟩; exact ⟨_, he, hx9, rfl⟩) ?_
            intro v2 wq2 _ _ r2
            subst r2
            simp only [Act.put, List.setIfInBounds_toArray, List.set_cons_succ, List.set_cons_zero]
            refine Rel.chunk 2 rfl rfl rfl ?_
            simp only [List.take_succ_cons, List.take_zero, List.drop_succ_cons, List.drop_zero, Nat.reduceAdd]
            repeat (go_big_quiet_step (fail))
            refine wpQuiet_nil ?_
            refine Rel.callG (fun v _ => v = .int .u32 z) rfl rfl rfl Try.func41 (by nofun) (by decide) #[.agg #[.slice b0 E.va.length d0, .slice b1 E.fi.length d1, .slice b2 E.me.length d2, .slice b3 E.pl.length d3], .agg #[.int .i64 a, .int .i64 b]] rfl (fun w hx _ => by refine (HGE.out w ((grows (a := W) (b := w7)).trans hx)).mono ?_; rintro e w9 ⟨he, hx9⟩; exact ⟨_, he, hx9, rfl⟩) ?_
            intro v5 wq5 _ _ r5
            subst r5
            simp only [Act.put, List.setIfInBounds_toArray, List.set_cons_succ, List.set_cons_zero]
            refine Rel.chunk 2 rfl rfl rfl ?_
            simp only [List.take_succ_cons, List.take_zero, List.drop_succ_cons, List.drop_zero, Nat.reduceAdd]
            repeat (go_big_quiet_step (fail))
            refine wpQuiet_nil ?_
            refine Rel.callG (fun v _ => v = .bool true) rfl rfl rfl Try.func33 (by nofun) (by decide) #[] rfl (fun w hx _ => by refine (eworks_any w).mono ?_; rintro e w9 ⟨he, hx9⟩; exact ⟨_, he, hx9, rfl⟩) ?_
            intro v8 wq8 _ _ r8
            subst r8
            simp only [Act.put, List.setIfInBounds_toArray, List.set_cons_succ, List.set_cons_zero]
            refine Rel.chunk 2 rfl rfl rfl ?_
            simp only [List.take_succ_cons, List.take_zero, List.drop_succ_cons, List.drop_zero, Nat.reduceAdd]
            repeat (go_big_quiet_step (fail))
            refine wpQuiet_nil ?_
            refine Rel.fin ?_
            intro w8 hx8 _
            have s8 := Step.mk hx8
            go_wp2_with fail
            go_ret
            exact ⟨rfl, grows⟩
          · have HOK : Hid (Bv.ok (Pg.wid P a b) = true) := Lib.hid (by rw [HN.out]; exact Bv.ok_of (by omega) (by omega))
            have n1 : ¬ ((n : Int) = 0) := by omega
            have q0 : ((n : Int) == 0) = false := beq_eq_false_iff_ne.2 n1
            by_cases ha : a = -1
            · subst ha
              have HEL : Hid (En.elB E (-1) b = true) := Lib.hid (En.wid_elB (En.chk_parts HCE.out).1 HOK.out (.inl rfl))
              go_wp2_with fail
              obtain ⟨y, hy⟩ : ∃ y, y = Bv.red x n := ⟨_, rfl⟩
              have hyb := Bv.red_bd x n
              rw [← hy] at hyb
              have hle : y ≤ Bv.mask n := by rw [hy]; exact En.red_mask (by rw [← HN.out]; exact HOK.out)
              have HFT : Hid (∀ w, Calls Try.prog 50 #[.int .u32 y, .int .i64 (n : Int)] w (Rets w (.bool true))) := Lib.hid (fun w => by have h := Rets.of_eq (rfits12_any (W := w) y n hyb.1 hyb.2 (by omega) (by omega)); rw [decide_eq_true hle] at h; exact h)
              have HYY := Lib.hid hy
              have HBF := Lib.hid (En.bit_fact HXU.out (by rw [← HN.out]; exact HOK.out) hy)
              clear hy hle
              have HGF : Hid (∀ w v, EnvV w v F → Calls Try.prog 41 #[v, .agg #[.int .i64 (-1), .int .i64 b]] w (Rets w (.int .u32 y))) := Lib.hid (fun w v hv => by have h := getV hv (-1) b; rw [HF.out, En.get_set_eq HEL.out HOK.out] at h; rw [HYY.out, ← HN.out]; exact h)
              refine (HGF.out _ _ (I5.out.ext grows)).mono ?_
              rintro e w9 ⟨rfl, xw9⟩
              have sw9 := Step.mk xw9
              go_wp2_with fail
              refine Rel.region (W := w9) (Rel.tab [(2, fun v _ => v = .bool true), (16, fun v _ => v = .bool true)]) (Rel.tab_lasts (by intro p hp v w w' hr hx; simp only [List.mem_cons, List.not_mem_nil, or_false] at hp; rcases hp with rfl | rfl; (· exact hr); (· exact hr))) (by kernel_rfl) (by kernel_rfl) (Ext.refl _) ?_
              refine Rel.chunk 2 rfl rfl rfl ?_
              simp only [List.take_succ_cons, List.take_zero, List.drop_succ_cons, List.drop_zero, Nat.reduceAdd]
              repeat (go_big_quiet_step (fail))
              refine wpQuiet_nil ?_
              refine Rel.callG (fun v _ => v = .bool true) rfl rfl rfl Try.func50 (by nofun) (by decide) #[.int .u32 y, .int .i64 (n : Int)] rfl (fun w hx _ => by refine (HFT.out w).mono ?_; rintro e w9 ⟨he, hx9⟩; exact ⟨_, he, hx9, rfl⟩) ?_
              intro v2 wq2 _ _ r2
              subst r2
              simp only [Act.put, List.setIfInBounds_toArray, List.set_cons_succ, List.set_cons_zero]
              refine Rel.chunk 13 rfl rfl rfl ?_
              simp only [List.take_succ_cons, List.take_zero, List.drop_succ_cons, List.drop_zero, Nat.reduceAdd]
              repeat (go_big_quiet_step (fail))
              refine wpQuiet_nil ?_
              simp only [HBF.out]
              refine Rel.callG (fun v _ => v = .bool true) rfl rfl rfl Try.func33 (by nofun) (by decide) #[] rfl (fun w hx _ => by refine (eworks_any w).mono ?_; rintro e w9 ⟨he, hx9⟩; exact ⟨_, he, hx9, rfl⟩) ?_
              intro v16 wq16 _ _ r16
              subst r16
              simp only [Act.put, List.setIfInBounds_toArray, List.set_cons_succ, List.set_cons_zero]
              refine Rel.chunk 2 rfl rfl rfl ?_
              simp only [List.take_succ_cons, List.take_zero, List.drop_succ_cons, List.drop_zero, Nat.reduceAdd]
              repeat (go_big_quiet_step (fail))
              refine wpQuiet_nil ?_
              refine Rel.fin ?_
              intro w8 hx8 _
              have s8 := Step.mk hx8
              go_wp2_with fail
              go_ret
              exact ⟨rfl, grows⟩
            · obtain ⟨hv, hhv⟩ : ∃ z, z = En.vaAt E.va a := ⟨_, rfl⟩
              have HHV := Lib.hid hhv
              have HHA : Hid (∀ w, Ext W w → Calls Try.prog 49 #[.agg #[.slice b0 E.va.length d0, .slice b1 E.fi.length d1, .slice b2 E.me.length d2, .slice b3 E.pl.length d3], .int .i64 a] w (Rets w (.bool hv))) := Lib.hid (fun w hx => by have h := HHS.out w hx; rw [← hhv] at h; exact h)
              have HNA := Lib.hid ha
              have q1 : (a != -1) = true := bne_iff_ne.2 ha
              clear hhv HHS
              cases hv with
              | true =>
                have HEL : Hid (En.elB E a b = true) := Lib.hid (En.wid_elB (En.chk_parts HCE.out).1 HOK.out (.inr HHV.out.symm))
                go_wp2_with fail
                refine (HHA.out _ grows).mono ?_
                rintro e w8 ⟨rfl, xw8⟩
                have sw8 := Step.mk xw8
                go_wp2_with fail
                obtain ⟨y, hy⟩ : ∃ y, y = Bv.red x n := ⟨_, rfl⟩
                have hyb := Bv.red_bd x n
                rw [← hy] at hyb
                have hle : y ≤ Bv.mask n := by rw [hy]; exact En.red_mask (by rw [← HN.out]; exact HOK.out)
                have HFT : Hid (∀ w, Calls Try.prog 50 #[.int .u32 y, .int .i64 (n : Int)] w (Rets w (.bool true))) := Lib.hid (fun w => by have h := Rets.of_eq (rfits12_any (W := w) y n hyb.1 hyb.2 (by omega) (by omega)); rw [decide_eq_true hle] at h; exact h)
                have HYY := Lib.hid hy
                have HBF := Lib.hid (En.bit_fact HXU.out (by rw [← HN.out]; exact HOK.out) hy)
                clear hy hle
                have HGF : Hid (∀ w v, EnvV w v F → Calls Try.prog 41 #[v, .agg #[.int .i64 a, .int .i64 b]] w (Rets w (.int .u32 y))) := Lib.hid (fun w v hv => by have h := getV hv a b; rw [HF.out, En.get_set_eq HEL.out HOK.out] at h; rw [HYY.out, ← HN.out]; exact h)
                refine (HGF.out _ _ (I5.out.ext grows)).mono ?_
                rintro e w9 ⟨rfl, xw9⟩
                have sw9 := Step.mk xw9
                go_wp2_with fail
                refine Rel.region (W := w9) (Rel.tab [(2, fun v _ => v = .bool true), (16, fun v _ => v = .bool true)]) (Rel.tab_lasts (by intro p hp v w w' hr hx; simp only [List.mem_cons, List.not_mem_nil, or_false] at hp; rcases hp with rfl | rfl; (· exact hr); (· exact hr))) (by kernel_rfl) (by kernel_rfl) (Ext.refl _) ?_
                refine Rel.chunk 2 rfl rfl rfl ?_
                simp only [List.take_succ_cons, List.take_zero, List.drop_succ_cons, List.drop_zero, Nat.reduceAdd]
                repeat (go_big_quiet_step (fail))
                refine wpQuiet_nil ?_
                refine Rel.callG (fun v _ => v = .bool true) rfl rfl rfl Try.func50 (by nofun) (by decide) #[.int .u32 y, .int .i64 (n : Int)] rfl (fun w hx _ => by refine (HFT.out w).mono ?_; rintro e w9 ⟨he, hx9⟩; exact ⟨_, he, hx9, rfl⟩) ?_
                intro v2 wq2 _ _ r2
                subst r2
                simp only [Act.put, List.setIfInBounds_toArray, List.set_cons_succ, List.set_cons_zero]
                refine Rel.chunk 13 rfl rfl rfl ?_
                simp only [List.take_succ_cons, List.take_zero, List.drop_succ_cons, List.drop_zero, Nat.reduceAdd]
                repeat (go_big_quiet_step (fail))
                refine wpQuiet_nil ?_
                simp only [HBF.out]
                refine Rel.callG (fun v _ => v = .bool true) rfl rfl rfl Try.func33 (by nofun) (by decide) #[] rfl (fun w hx _ => by refine (eworks_any w).mono ?_; rintro e w9 ⟨he, hx9⟩; exact ⟨_, he, hx9, rfl⟩) ?_
                intro v16 wq16 _ _ r16
                subst r16
                simp only [Act.put, List.setIfInBounds_toArray, List.set_cons_succ, List.set_cons_zero]
                refine Rel.chunk 2 rfl rfl rfl ?_
                simp only [List.take_succ_cons, List.take_zero, List.drop_succ_cons, List.drop_zero, Nat.reduceAdd]
                repeat (go_big_quiet_step (fail))
                refine wpQuiet_nil ?_
                refine Rel.fin ?_
                intro w8 hx8 _
                have s8 := Step.mk hx8
                go_wp2_with fail
                go_ret
                exact ⟨rfl, grows⟩
              | false =>
                have HS : Hid (En.set P E a b x = E) := Lib.hid (En.set_el (by rw [En.elB_lst, decide_eq_false HNA.out, ← HHV.out]; rfl))
                go_wp2_with fail
                refine (HHA.out _ grows).mono ?_
                rintro e w8 ⟨rfl, xw8⟩
                have sw8 := Step.mk xw8
                go_wp2_with fail
                have HGF : Hid (∀ w v, EnvV w v F → Calls Try.prog 41 #[v, .agg #[.int .i64 a, .int .i64 b]] w (Rets w (.int .u32 z))) := Lib.hid (fun w v hv => by have h := getV hv a b; rw [HF.out, HS.out, ← HZ.out] at h; exact h)
                refine Rel.region (W := w8) (Rel.tab [(2, fun v _ => v = .int .u32 z), (5, fun v _ => v = .int .u32 z), (8, fun v _ => v = .bool true)]) (Rel.tab_lasts (by intro p hp v w w' hr hx; simp only [List.mem_cons, List.not_mem_nil, or_false] at hp; rcases hp with rfl | rfl | rfl; (· exact hr); (· exact hr); (· exact hr))) (by kernel_rfl) (by kernel_rfl) (Ext.refl _) ?_
                refine Rel.chunk 2 rfl rfl rfl ?_
                simp only [List.take_succ_cons, List.take_zero, List.drop_succ_cons, List.drop_zero, Nat.reduceAdd]
                repeat (go_big_quiet_step (fail))
                refine wpQuiet_nil ?_
                refine Rel.callG (fun v _ => v = .int .u32 z) rfl rfl rfl Try.func41 (by nofun) (by decide) #[.agg #[.slice q50 F.va.length t50, .slice q51 F.fi.length t51, .slice q52 F.me.length t52, .slice q53 F.pl.length t53], .agg #[.int .i64 a, .int .i64 b]] rfl (fun w hx _ => by refine (HGF.out w _ (I5.out.ext ((grows (a := w5) (b := w8)).trans hx))).mono ?_; rintro e w9 ⟨he, hx9⟩; exact ⟨_, he, hx9, rfl⟩) ?_
                intro v2 wq2 _ _ r2
                subst r2
                simp only [Act.put, List.setIfInBounds_toArray, List.set_cons_succ, List.set_cons_zero]
                refine Rel.chunk 2 rfl rfl rfl ?_
                simp only [List.take_succ_cons, List.take_zero, List.drop_succ_cons, List.drop_zero, Nat.reduceAdd]
                repeat (go_big_quiet_step (fail))
                refine wpQuiet_nil ?_
                refine Rel.callG (fun v _ => v = .int .u32 z) rfl rfl rfl Try.func41 (by nofun) (by decide) #[.agg #[.slice b0 E.va.length d0, .slice b1 E.fi.length d1, .slice b2 E.me.length d2, .slice b3 E.pl.length d3], .agg #[.int .i64 a, .int .i64 b]] rfl (fun w hx _ => by refine (HGE.out w ((grows (a := W) (b := w8)).trans hx)).mono ?_; rintro e w9 ⟨he, hx9⟩; exact ⟨_, he, hx9, rfl⟩) ?_
                intro v5 wq5 _ _ r5
                subst r5
                simp only [Act.put, List.setIfInBounds_toArray, List.set_cons_succ, List.set_cons_zero]
                refine Rel.chunk 2 rfl rfl rfl ?_
                simp only [List.take_succ_cons, List.take_zero, List.drop_succ_cons, List.drop_zero, Nat.reduceAdd]
                repeat (go_big_quiet_step (fail))
                refine wpQuiet_nil ?_
                refine Rel.callG (fun v _ => v = .bool true) rfl rfl rfl Try.func33 (by nofun) (by decide) #[] rfl (fun w hx _ => by refine (eworks_any w).mono ?_; rintro e w9 ⟨he, hx9⟩; exact ⟨_, he, hx9, rfl⟩) ?_
                intro v8 wq8 _ _ r8
                subst r8
                simp only [Act.put, List.setIfInBounds_toArray, List.set_cons_succ, List.set_cons_zero]
                refine Rel.chunk 2 rfl rfl rfl ?_
                simp only [List.take_succ_cons, List.take_zero, List.drop_succ_cons, List.drop_zero, Nat.reduceAdd]
                repeat (go_big_quiet_step (fail))
                refine wpQuiet_nil ?_
                refine Rel.fin ?_
                intro w8 hx8 _
                have s8 := Step.mk hx8
                go_wp2_with fail
                go_ret
                exact ⟨rfl, grows⟩
end Go.Proofs.Ytdgepbolfflidaa
