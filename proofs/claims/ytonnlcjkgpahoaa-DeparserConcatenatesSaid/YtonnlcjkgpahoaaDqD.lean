/- The deparser: plain laws; right; regions whose calls are known by relations. No condition. -/
import Derived.Test.YtonnlcjkgpahoaaDqB
import Derived.Test.YtonnlcjkgpahoaaDqC
import Derived.Test.YtonnlcjkgpahoaaBase
import Derived.StillTail
import Derived.BigQuiet
import Derived.BigCall
namespace Go.Proofs.Ytonnlcjkgpahoaa
open Go.RowKit

namespace Dp
theorem bad_iff {P : Pg.Prog} {k : Nat} (hk : k < P.dp.length) : bad P k = 0 ↔ (0 ≤ P.dp[k] ∧ P.dp[k] < P.hs.length) ∧ P.dp[k] ∉ P.dp.take k := by
  have hx : P.dp[k]? = some P.dp[k] := List.getElem?_eq_getElem hk
  obtain ⟨x, hxe⟩ : ∃ x, x = P.dp[k] := ⟨_, rfl⟩
  rw [← hxe] at hx ⊢
  constructor
  · intro h
    have h1 := bad_zero h
    rw [List.getD_eq_getElem?_getD, hx, Option.getD_some] at h1
    refine ⟨h1, fun hm => ?_⟩
    rw [bad_dup hx h1.1 h1.2 (List.any_eq_true.2 ⟨x, hm, by simp⟩)] at h
    simp at h
  · rintro ⟨⟨h0, h1⟩, h2⟩
    refine bad_no hx h0 h1 ?_
    rw [← Bool.not_eq_true, List.any_eq_true]
    rintro ⟨y, hy, he⟩
    simp only [beq_iff_eq] at he
    exact h2 (he ▸ hy)
/-- the list is accepted: at most eight, headers all, none twice -/
theorem chk_iff (P : Pg.Prog) : (chk P).2 = 0 ↔ P.dp.length ≤ 8 ∧ (∀ x ∈ P.dp, 0 ≤ x ∧ x < P.hs.length) ∧ P.dp.Nodup := by
  constructor
  · intro h
    obtain ⟨h1, h2⟩ := chk_ok h
    refine ⟨h1, fun x hx => ?_, ?_⟩
    · obtain ⟨j, hj, rfl⟩ := List.mem_iff_getElem.1 hx
      exact ((bad_iff hj).1 (h2 j hj)).1
    · rw [List.nodup_iff_pairwise_ne, List.pairwise_iff_getElem]
      intro i j hi hj hij he
      refine ((bad_iff hj).1 (h2 j hj)).2 ?_
      rw [← he]
      exact List.mem_take_iff_getElem.2 ⟨i, by omega, rfl⟩
  · rintro ⟨h1, h2, h3⟩
    rw [chk_none (by omega) fun j hj => ?_]
    rw [bad_iff hj]
    refine ⟨h2 _ (List.getElem_mem hj), fun hm => ?_⟩
    obtain ⟨i, hi, he⟩ := List.mem_take_iff_getElem.1 hm
    rw [List.nodup_iff_pairwise_ne, List.pairwise_iff_getElem] at h3
    exact h3 i j (by omega) hj (by omega) he
def withDp (P : Pg.Prog) (dp : List Int) : Pg.Prog := ⟨P.hs, P.md, dp⟩
theorem chkE_dp (P : Pg.Prog) (dp : List Int) (E : Pg.Env) : Pg.chkE (withDp P dp) E = Pg.chkE P E := rfl
theorem chkE_pl (P : Pg.Prog) (E : Pg.Env) (pl : List Int) : Pg.chkE P ⟨E.va, E.fi, E.me, pl⟩ = Pg.chkE P E := rfl
/-- a part of an accepted list is accepted -/
theorem ok_sub {P : Pg.Prog} {E : Pg.Env} {dp : List Int} (pl : List Int) (h : ok P E = true) (hs : dp.Sublist P.dp) : ok (withDp P dp) ⟨E.va, E.fi, E.me, pl⟩ = true := by
  unfold ok at h ⊢
  simp only [Bool.and_eq_true, beq_iff_eq] at h ⊢
  obtain ⟨h1, h2, h3⟩ := h
  obtain ⟨g1, g2, g3⟩ := (chk_iff P).1 h1
  refine ⟨(chk_iff _).2 ⟨Nat.le_trans hs.length_le g1, fun x hx => g2 x (hs.subset hx), g3.sublist hs⟩, h2, ?_⟩
  rw [chkE_pl, chkE_dp]; exact h3
theorem one_dp (P : Pg.Prog) (dp pl : List Int) (E : Pg.Env) (h : Int) (L : List Int) : one (withDp P dp) ⟨E.va, E.fi, E.me, pl⟩ h L = one P E h L := rfl
theorem bits_dp (P : Pg.Prog) (dp pl : List Int) (E : Pg.Env) : ∀ l L, bitsFrom (withDp P dp) ⟨E.va, E.fi, E.me, pl⟩ l L = bitsFrom P E l L
  | [], _ => rfl
  | h :: t, L => by simp only [bitsFrom]; rw [one_dp]; exact bits_dp P dp pl E t _
theorem putAll_pre : ∀ (vs ns L : List Int), (Io.putAll vs ns L).1 = 0 → (Io.putAll vs ns L).2 = L ++ (Io.putAll vs ns []).2
  | [], _, L, _ => by simp [Io.putAll]
  | _ :: _, [], L, _ => by simp [Io.putAll]
  | v :: vs, n :: ns, L, h => by
    unfold Io.putAll at h ⊢
    by_cases h1 : Io.wrE v n = 0
    · rw [if_pos h1] at h ⊢
      rw [if_pos h1]
      have h2 : (Io.putAll vs ns (Io.wrL [] v n)).1 = 0 := by rw [Hd.putAll_err vs ns _ (Io.wrL L v n)]; exact h
      rw [putAll_pre vs ns (Io.wrL L v n) h, putAll_pre vs ns (Io.wrL [] v n) h2]
      unfold Io.wrL
      rw [if_pos h1, if_pos h1, List.nil_append, List.append_assoc]
    · rw [if_neg h1] at h; exact absurd h h1
theorem wL_pre (h : Hd.Hdr) (vs L : List Int) : Hd.wL h vs L = L ++ Hd.wL h vs [] := by
  unfold Hd.wL
  by_cases hw : Hd.wE h vs = 0
  · rw [if_pos hw, if_pos hw]
    refine putAll_pre _ _ _ ?_
    unfold Hd.wE at hw
    by_cases hc : Hd.chk h = 0
    · rw [if_pos hc] at hw
      by_cases hl : vs.length = h.2.length
      · rw [if_pos hl] at hw; rw [Hd.putAll_err _ _ _ []]; exact hw
      · rw [if_neg hl] at hw; simp at hw
    · rw [if_neg hc] at hw; exact absurd hw hc
  · rw [if_neg hw, if_neg hw, List.append_nil]
theorem wL_mod (h : Hd.Hdr) (vs : List Int) : (Hd.wL h vs []).length % 8 = 0 := by
  unfold Hd.wL
  by_cases hw : Hd.wE h vs = 0
  · rw [if_pos hw]
    unfold Hd.wE at hw
    by_cases hc : Hd.chk h = 0
    · rw [if_pos hc] at hw
      by_cases hl : vs.length = h.2.length
      · rw [if_pos hl] at hw
        obtain ⟨_, _, _, g1, g2⟩ := Hd.chk_ok hc
        have := Hd.putAll_len vs (Hd.wds h.2) [] (by rw [Hd.wds_len]; exact hl) g1 hw
        simp at this
        omega
      · rw [if_neg hl] at hw; simp at hw
    · rw [if_neg hc] at hw; exact absurd hw hc
  · rw [if_neg hw]; rfl
theorem one_pre (P : Pg.Prog) (E : Pg.Env) (h : Int) (L : List Int) : one P E h L = L ++ one P E h [] := by
  unfold one; split
  · exact wL_pre _ _ _
  · simp
theorem one_mod (P : Pg.Prog) (E : Pg.Env) (h : Int) : (one P E h []).length % 8 = 0 := by
  unfold one; split
  · exact wL_mod _ _
  · rfl
theorem bits_pre (P : Pg.Prog) (E : Pg.Env) : ∀ l L, bitsFrom P E l L = L ++ bitsFrom P E l []
  | [], L => by simp [bitsFrom]
  | h :: t, L => by
    simp only [bitsFrom]
    rw [bits_pre P E t (one P E h L), bits_pre P E t (one P E h []), one_pre, List.append_assoc]
theorem bits_mod (P : Pg.Prog) (E : Pg.Env) : ∀ l, (bitsFrom P E l []).length % 8 = 0
  | [] => rfl
  | h :: t => by
    simp only [bitsFrom]
    rw [bits_pre, List.length_append]
    have h1 := one_mod P E h
    have h2 := bits_mod P E t
    omega
theorem byteOf_app {A B : List Int} (hA : A.length % 8 = 0) (q : Nat) : Io.byteOf (A ++ B) q = if q < A.length / 8 then Io.byteOf A q else Io.byteOf B (q - A.length / 8) := by
  have h1 : ∀ i, (A ++ B).getD i 0 = if i < A.length then A.getD i 0 else B.getD (i - A.length) 0 := fun i => by
    by_cases hi : i < A.length
    · rw [if_pos hi, List.getD_eq_getElem?_getD, List.getD_eq_getElem?_getD, List.getElem?_append_left hi]
    · rw [if_neg hi, List.getD_eq_getElem?_getD, List.getD_eq_getElem?_getD, List.getElem?_append_right (by omega)]
  unfold Io.byteOf
  by_cases hq : q < A.length / 8
  · rw [if_pos hq]
    simp only [h1]
    rw [if_pos (by omega), if_pos (by omega), if_pos (by omega), if_pos (by omega), if_pos (by omega), if_pos (by omega), if_pos (by omega), if_pos (by omega)]
  · rw [if_neg hq]
    simp only [h1]
    rw [if_neg (by omega), if_neg (by omega), if_neg (by omega), if_neg (by omega), if_neg (by omega), if_neg (by omega), if_neg (by omega), if_neg (by omega)]
    rw [show 8 * q - A.length = 8 * (q - A.length / 8) by omega, show 8 * q + 1 - A.length = 8 * (q - A.length / 8) + 1 by omega, show 8 * q + 2 - A.length = 8 * (q - A.length / 8) + 2 by omega, show 8 * q + 3 - A.length = 8 * (q - A.length / 8) + 3 by omega, show 8 * q + 4 - A.length = 8 * (q - A.length / 8) + 4 by omega, show 8 * q + 5 - A.length = 8 * (q - A.length / 8) + 5 by omega, show 8 * q + 6 - A.length = 8 * (q - A.length / 8) + 6 by omega, show 8 * q + 7 - A.length = 8 * (q - A.length / 8) + 7 by omega]
theorem pack_app {A B : List Int} (hA : A.length % 8 = 0) : Io.pack (A ++ B) = Io.pack A ++ Io.pack B := by
  unfold Io.pack
  rw [show ((A ++ B).length + 7) / 8 = (A.length + 7) / 8 + (B.length + 7) / 8 by rw [List.length_append]; omega, List.range_add, List.map_append, List.map_map]
  congr 1
  · refine List.map_congr_left fun q hq => ?_
    rw [List.mem_range] at hq
    rw [byteOf_app hA, if_pos (by omega)]
  · refine List.map_congr_left fun q hq => ?_
    simp only [Function.comp]
    rw [byteOf_app hA, if_neg (by omega)]
    congr 1; omega
theorem byL_bits (P : Pg.Prog) (E : Pg.Env) (l : List Int) : Io.byL (bitsFrom P E l []) = Io.pack (bitsFrom P E l []) := by
  unfold Io.byL; rw [if_pos (bits_mod P E l)]
/-- the list may be split -/
theorem emit_split {P : Pg.Prog} {E : Pg.Env} (h : ok P E = true) (k : Nat) :
    emit (withDp P (P.dp.take k)) ⟨E.va, E.fi, E.me, []⟩ ++ emit (withDp P (P.dp.drop k)) E = emit P E := by
  have h1 := ok_sub (E := E) [] h (List.take_sublist k P.dp)
  have h2 : ok (withDp P (P.dp.drop k)) E = true := ok_sub (E := E) E.pl h (List.drop_sublist k P.dp)
  have e2 := bits_dp P (P.dp.drop k) E.pl E
  rw [emit_yes h, emit_yes h1, emit_yes h2]
  simp only [List.append_nil]
  rw [show (withDp P (P.dp.take k)).dp = P.dp.take k from rfl, show (withDp P (P.dp.drop k)).dp = P.dp.drop k from rfl, bits_dp, show bitsFrom (withDp P (P.dp.drop k)) E (P.dp.drop k) [] = bitsFrom P E (P.dp.drop k) [] from e2 _ _]
  rw [byL_bits, byL_bits, byL_bits, ← List.append_assoc, ← pack_app (bits_mod P E _), ← bits_pre, ← bits_app, List.take_append_drop]
/-- a header that is not valid may be left out -/
theorem emit_omit {P : Pg.Prog} {E : Pg.Env} (h : ok P E = true) {k : Nat} {x : Int} (hk : P.dp[k]? = some x) (hv : E.va.getD x.toNat false = false) :
    emit (withDp P (P.dp.eraseIdx k)) E = emit P E := by
  have h2 : ok (withDp P (P.dp.eraseIdx k)) E = true := ok_sub (E := E) E.pl h (List.eraseIdx_sublist P.dp k)
  have e2 := bits_dp P (P.dp.eraseIdx k) E.pl E
  have hkl := (List.getElem?_eq_some_iff.1 hk).1
  have hxe := (List.getElem?_eq_some_iff.1 hk).2
  rw [emit_yes h, emit_yes h2, show (withDp P (P.dp.eraseIdx k)).dp = P.dp.eraseIdx k from rfl, show bitsFrom (withDp P (P.dp.eraseIdx k)) E (P.dp.eraseIdx k) [] = bitsFrom P E (P.dp.eraseIdx k) [] from e2 _ _]
  have h3 : P.dp = P.dp.take k ++ x :: P.dp.drop (k + 1) := by
    rw [← hxe, ← List.drop_eq_getElem_cons hkl, List.take_append_drop]
  have h4 : bitsFrom P E P.dp [] = bitsFrom P E (P.dp.eraseIdx k) [] := by
    rw [List.eraseIdx_eq_take_drop_succ, bits_app]
    conv => lhs; rw [h3]
    rw [bits_app]
    simp only [bitsFrom]
    unfold one
    rw [hv]; rfl
  rw [h4]
end Dp
end Go.Proofs.Ytonnlcjkgpahoaa
namespace Go.Proofs.Ytonnlcjkgpahoaa
open Go.RowKit

namespace Dp
def flB (P : Pg.Prog) : Bool := (List.range P.hs.length).all fun k => decide ((P.hs.getD k (⟨#[]⟩, [])).2.length ≤ 40)
def smB (P : Pg.Prog) : Bool := decide (P.hs.length ≤ 20) && (decide (P.dp.length ≤ 40) && (decide (P.md.length ≤ 40) && flB P))
def rightB (P : Pg.Prog) (E : Pg.Env) : Bool := smB P && (decide (E.pl.length ≤ 2000) && ok P E)
theorem sm_1 {P : Pg.Prog} (h : ¬ P.hs.length ≤ 20) : smB P = false := by unfold smB; rw [decide_eq_false h]; rfl
theorem sm_2 {P : Pg.Prog} (h : ¬ P.dp.length ≤ 40) : smB P = false := by unfold smB; rw [decide_eq_false h]; simp
theorem sm_3 {P : Pg.Prog} (h : ¬ P.md.length ≤ 40) : smB P = false := by unfold smB; rw [decide_eq_false h]; simp
theorem sm_4 {P : Pg.Prog} (h : flB P = false) : smB P = false := by unfold smB; rw [h]; simp
theorem sm_5 {P : Pg.Prog} (h1 : P.hs.length ≤ 20) (h2 : P.dp.length ≤ 40) (h3 : P.md.length ≤ 40) (h : flB P = true) : smB P = true := by unfold smB; rw [decide_eq_true h1, decide_eq_true h2, decide_eq_true h3, h]; rfl
theorem ri_sm {P : Pg.Prog} {E : Pg.Env} (h : smB P = false) : rightB P E = false := by unfold rightB; rw [h]; rfl
theorem ri_pl {P : Pg.Prog} {E : Pg.Env} (h : ¬ E.pl.length ≤ 2000) : rightB P E = false := by unfold rightB; rw [decide_eq_false h]; simp
theorem ri_ok {P : Pg.Prog} {E : Pg.Env} (h : ok P E = false) : rightB P E = false := by unfold rightB; rw [h]; simp
theorem ri_yes {P : Pg.Prog} {E : Pg.Env} (h : smB P = true) (h1 : E.pl.length ≤ 2000) (h2 : ok P E = true) : rightB P E = true := by unfold rightB; rw [h, decide_eq_true h1, h2]; rfl
theorem ri_inv {P : Pg.Prog} {E : Pg.Env} (h : rightB P E = true) : E.pl.length ≤ 2000 ∧ ok P E = true := by
  unfold rightB at h
  simp only [Bool.and_eq_true, decide_eq_true_eq] at h
  exact h.2
end Dp

set_option maxRecDepth 8000 in
set_option maxHeartbeats 2000000 in
theorem smallx_any {W : World} {p : Pg.PV} {P : Pg.Prog} (hp : Pg.IsP W p P) :
    Calls Try.prog 12 #[p.val] W (Rets W (.bool (Dp.smB P))) := by
  obtain ⟨s, a1, a2, a3, a4, a5, a6, a7, a8, m1, m2, n3, m3, n4, m4, n5, m5, n6, m6, n7, m7, m8, hf⟩ := hp.form
  obtain ⟨rfl, hhs, hmd, hdp, hl1, hl2, hl8⟩ := hf
  dsimp only [Pg.PV.val]
  have bb := alloc_heap W (.cells #[.string s, .slice a1 P.hs.length m1, .slice a2 P.md.length m2, .slice a3 n3 m3, .slice a4 n4 m4, .slice a5 n5 m5, .slice a6 n6 m6, .slice a7 n7 m7, .slice a8 P.dp.length m8] 31)
  have k1 := alw (cell_of (o := 1) bb)
  have k2 := alw (cell_of (o := 2) bb)
  have k8 := alw (cell_of (o := 8) bb)
  have HHS := Lib.hid hhs
  clear bb hp hhs hmd hdp
  by_cases h1 : P.hs.length ≤ 20
  · by_cases h2 : P.dp.length ≤ 40
    · by_cases h3 : P.md.length ≤ 40
      · go_enter Try.func12, Try.ntmps12
        go_wp2_with fail
        go_loopw [3] (fun i wr => ∃ k : Nat, k ≤ P.hs.length ∧ i = .int .i64 k ∧ wr = (W.alloc (.cells #[.string s, .slice a1 P.hs.length m1, .slice a2 P.md.length m2, .slice a3 n3 m3, .slice a4 n4 m4, .slice a5 n5 m5, .slice a6 n6 m6, .slice a7 n7 m7, .slice a8 P.dp.length m8] 31)) ∧ Hid (∀ j, j < k → decide ((P.hs.getD j (⟨#[]⟩, [])).2.length ≤ 40) = true)) (fun i _ => P.hs.length - (intOf i).toNat)
        case atStart => exact ⟨0, Nat.zero_le _, rfl, rfl, Lib.hid (by intro j hj; omega)⟩
        case round =>
          obtain ⟨k, hk, rfl, rfl, HZ⟩ := hrel
          by_cases hlt : k < P.hs.length
          · obtain ⟨⟨nm, fs⟩, hhk⟩ : ∃ x, P.hs[k]? = some x := ⟨_, List.getElem?_eq_getElem hlt⟩
            obtain ⟨bh, oh, hoh, _, _⟩ := Rows.at HHS.out (by omega)
            subst hoh
            obtain ⟨fa, fc, q0, q1, qn, qf, qc, qm⟩ := hdrs_at HHS.out k nm fs hhk rfl
            have hgh : P.hs.getD k (⟨#[]⟩, []) = (nm, fs) := by rw [List.getD_eq_getElem?_getD, hhk]; rfl
            have HGH := Lib.hid hgh
            have QF := Lib.hid qf
            unfold maxLen at qm
            clear hhk hgh qf
            by_cases h4 : fs.length ≤ 40
            · have H4 := Lib.hid h4
              go_wp2_with fail
              go_roundw
              case rel =>
                refine ⟨k + 1, by omega, by go_num, (by first | exact rfl | trivial), Lib.hid (fun j hj => ?_)⟩
                rcases Nat.lt_or_ge j k with h1 | h1
                · exact HZ.out j h1
                · obtain rfl : j = k := by omega
                  rw [HGH.out]; exact decide_eq_true H4.out
              case measure => simp [intOf]; omega
            · have h4' : 40 < fs.length := by omega
              have H4 := Lib.hid h4
              clear h4
              go_wp2_with fail
              go_ret
              exact ⟨ret_bool (by rw [Dp.sm_4 (Pg.all_no hlt (by rw [HGH.out]; exact decide_eq_false H4.out))]), grows⟩
          · obtain rfl : k = P.hs.length := by omega
            go_wp2_with fail
            go_ret
            exact ⟨ret_bool (by rw [Dp.sm_5 h1 h2 h3 (Pg.all_yes HZ.out)]), grows⟩
      · have h3' : 40 < P.md.length := by omega
        have HR := Lib.hid (Dp.sm_3 h3)
        clear h3
        go_enter Try.func12, Try.ntmps12
        go_wp2_with fail
        go_ret
        exact ⟨ret_bool (by rw [HR.out]), grows⟩
    · have h2' : 40 < P.dp.length := by omega
      have HR := Lib.hid (Dp.sm_2 h2)
      clear h2
      go_enter Try.func12, Try.ntmps12
      go_wp2_with fail
      go_ret
      exact ⟨ret_bool (by rw [HR.out]), grows⟩
  · have h1' : 20 < P.hs.length := by omega
    have HR := Lib.hid (Dp.sm_1 h1)
    clear h1
    go_enter Try.func12, Try.ntmps12
    go_wp2_with fail
    go_ret
    exact ⟨ret_bool (by rw [HR.out]), grows⟩

set_option maxRecDepth 8000 in
set_option maxHeartbeats 2000000 in
theorem right_any {W : World} {p : Pg.PV} {P : Pg.Prog} {e : Pg.EV} {E : Pg.Env} (hp : Pg.IsP W p P) (hc : Pg.CapP p) (he : Pg.IsE W e E) :
    Calls Try.prog 20 #[p.val, e.val] W (Rets W (.bool (Dp.rightB P E))) := by
  have HP := Lib.hid hp
  have HE := Lib.hid he
  have HC := Lib.hid hc
  obtain ⟨s, a1, a2, a3, a4, a5, a6, a7, a8, m1, m2, n3, m3, n4, m4, n5, m5, n6, m6, n7, m7, m8, hf⟩ := hp.form
  obtain ⟨rfl, hhs, hmd, hdp, hl1, hl2, hl8⟩ := hf
  obtain ⟨b0, b1, b2, b3, d0, d1, d2, d3, hg⟩ := he.form
  obtain ⟨rfl, hva, hfi, hme, hpl, g0, g1, g2, g3⟩ := hg
  obtain ⟨x, y, hxy⟩ : ∃ x y, Dp.chk P = (x, y) := ⟨_, _, rfl⟩
  obtain ⟨z, hz⟩ : ∃ z, Pg.chkE P E = z := ⟨_, rfl⟩
  obtain ⟨sm, hsm⟩ : ∃ z, Dp.smB P = z := ⟨_, rfl⟩
  have HSM : Hid (∀ w, Ext W w → Calls Try.prog 12 #[.agg #[.string s, .slice a1 P.hs.length m1, .slice a2 P.md.length m2, .slice a3 n3 m3, .slice a4 n4 m4, .slice a5 n5 m5, .slice a6 n6 m6, .slice a7 n7 m7, .slice a8 P.dp.length m8]] w (Rets w (.bool sm))) := Lib.hid (fun w hx => by have h := smallx_any (HP.out.ext hx); rw [hsm] at h; exact h)
  have HCK : Hid (∀ w, Ext W w → Calls Try.prog 15 #[.agg #[.string s, .slice a1 P.hs.length m1, .slice a2 P.md.length m2, .slice a3 n3 m3, .slice a4 n4 m4, .slice a5 n5 m5, .slice a6 n6 m6, .slice a7 n7 m7, .slice a8 P.dp.length m8]] w (Rets w (.tuple #[.int .i64 x, .int .i64 y]))) := Lib.hid (fun w hx => by have h := rdcheck_any (HP.out.ext hx) HC.out; rw [Dp.chkV_of hxy] at h; exact h)
  have HEC : Hid (∀ w, Ext W w → Calls Try.prog 34 #[.agg #[.string s, .slice a1 P.hs.length m1, .slice a2 P.md.length m2, .slice a3 n3 m3, .slice a4 n4 m4, .slice a5 n5 m5, .slice a6 n6 m6, .slice a7 n7 m7, .slice a8 P.dp.length m8], .agg #[.slice b0 E.va.length d0, .slice b1 E.fi.length d1, .slice b2 E.me.length d2, .slice b3 E.pl.length d3]] w (Rets w (.int .i64 z))) := Lib.hid (fun w hx => by have h := rcheck12_any (HP.out.ext hx) (HE.out.ext hx); rw [hz] at h; exact h)
  have HXY : Hid ((Dp.chk P).2 = y) := Lib.hid (by rw [hxy])
  have HZ0 := Lib.hid hz
  have HS0 := Lib.hid hsm
  dsimp only [Pg.PV.val, Pg.EV.val]
  have bb := alloc_heap W (.cells #[.string s, .slice a1 P.hs.length m1, .slice a2 P.md.length m2, .slice a3 n3 m3, .slice a4 n4 m4, .slice a5 n5 m5, .slice a6 n6 m6, .slice a7 n7 m7, .slice a8 P.dp.length m8] 31)
  have k0 := alw (cell_of (o := 0) bb)
  have k1 := alw (cell_of (o := 1) bb)
  have k2 := alw (cell_of (o := 2) bb)
  have k3 := alw (cell_of (o := 3) bb)
  have k4 := alw (cell_of (o := 4) bb)
  have k5 := alw (cell_of (o := 5) bb)
  have k6 := alw (cell_of (o := 6) bb)
  have k7 := alw (cell_of (o := 7) bb)
  have k8 := alw (cell_of (o := 8) bb)
  have be := alloc_heap (W.alloc (.cells #[.string s, .slice a1 P.hs.length m1, .slice a2 P.md.length m2, .slice a3 n3 m3, .slice a4 n4 m4, .slice a5 n5 m5, .slice a6 n6 m6, .slice a7 n7 m7, .slice a8 P.dp.length m8] 31)) (.cells #[.slice b0 E.va.length d0, .slice b1 E.fi.length d1, .slice b2 E.me.length d2, .slice b3 E.pl.length d3] 37)
  rw [World.size_alloc] at be
  have j0 := alw (cell_of (o := 0) be)
  have j1 := alw (cell_of (o := 1) be)
  have j2 := alw (cell_of (o := 2) be)
  have j3 := alw (cell_of (o := 3) be)
  have HHS := Lib.hid hhs
  clear bb be hp he hc hhs hmd hdp hva hfi hme hpl hxy hz hsm
  cases sm with
  | false =>
    have HR := Lib.hid (Dp.ri_sm (P := P) (E := E) HS0.out)
    go_enter Try.func20, Try.ntmps20
    go_wp2_with fail
    refine (HSM.out _ (grows (a := W))).mono ?_
    rintro e' w1 ⟨rfl, x1⟩
    have s1 := Step.mk x1
    go_wp2_with fail
    go_ret
    exact ⟨ret_bool (by rw [HR.out]), grows⟩
  | true =>
    by_cases h2000 : E.pl.length ≤ 2000
    · by_cases hz0 : z = 0
      · have hzb : (z != 0) = false := by simp [hz0]
        have HZ1 := Lib.hid (HZ0.out.trans hz0)
        clear hz0
        go_enter Try.func20, Try.ntmps20
        go_wp2_with fail
        refine (HSM.out _ (grows (a := W))).mono ?_
        rintro e' w1 ⟨rfl, x1⟩
        have s1 := Step.mk x1
        go_wp2_with fail
        refine (HEC.out _ (grows (a := W))).mono ?_
        rintro e' w2 ⟨rfl, x2⟩
        have s2 := Step.mk x2
        go_wp2_with fail
        go_loopw [5] (fun i wr => ∃ k : Nat, k ≤ P.hs.length ∧ i = .int .i64 k ∧ Ext w2 wr ∧ Hid (∀ j, j < k → (Hd.chk (P.hs.getD j (⟨#[]⟩, [])) == 0) = true)) (fun i _ => P.hs.length - (intOf i).toNat)
        case atStart => exact ⟨0, Nat.zero_le _, rfl, Ext.refl _, Lib.hid (by intro j hj; omega)⟩
        case round =>
          obtain ⟨k, hk, rfl, hx, HZ⟩ := hrel
          obtain ⟨wo, rfl⟩ : ∃ wo : World, wo = wr := ⟨_, rfl⟩
          have sx := Step.mk hx
          by_cases hlt : k < P.hs.length
          · obtain ⟨⟨nm, fs⟩, hhk⟩ : ∃ x, P.hs[k]? = some x := ⟨_, List.getElem?_eq_getElem hlt⟩
            obtain ⟨bh, oh, hoh, _, _⟩ := Rows.at HHS.out (by omega)
            subst hoh
            obtain ⟨fa, fc, q0, q1, qn, qf, qc, qm⟩ := hdrs_at HHS.out k nm fs hhk rfl
            have hgh : P.hs.getD k (⟨#[]⟩, []) = (nm, fs) := by rw [List.getD_eq_getElem?_getD, hhk]; rfl
            have HGH := Lib.hid hgh
            have QF := Lib.hid qf
            unfold maxLen at qm
            clear hhk hgh qf
            obtain ⟨c, hcc⟩ : ∃ c, Hd.chk (nm, fs) = c := ⟨_, rfl⟩
            have HCC := Lib.hid hcc
            have HCH : Hid (∀ w, Ext W w → Calls Try.prog 37 #[.agg #[.string nm, .slice fa fs.length fc]] w (Rets w (.int .i64 c))) := Lib.hid (fun w hx => by have h := rhcheck_any (nm, fs) (Hd.Flds.ext QF.out hx) qn; rw [hcc] at h; exact h)
            clear hcc
            by_cases hc0 : c = 0
            · have hcb : (c != 0) = false := by simp [hc0]
              have HC0 := Lib.hid hc0
              clear hc0
              go_wp2_with fail
              refine (HCH.out _ (grows (a := W))).mono ?_
              rintro e' w3 ⟨rfl, x3⟩
              have s3 := Step.mk x3
              go_wp2_with fail
              go_roundw
              case rel =>
                refine ⟨k + 1, by omega, by go_num, by exact (grows (a := w2)), Lib.hid (fun j hj => ?_)⟩
                rcases Nat.lt_or_ge j k with h1 | h1
                · exact HZ.out j h1
                · obtain rfl : j = k := by omega
                  rw [HGH.out, HCC.out, HC0.out]; rfl
              case measure => simp [intOf]; omega
            · have hcb : (c != 0) = true := by simp [hc0]
              have HC0 := Lib.hid hc0
              clear hc0
              have HR := Lib.hid (Dp.ri_ok (P := P) (E := E) (Dp.no_hs (Pg.all_no hlt (by rw [HGH.out, HCC.out]; simpa using HC0.out))))
              go_wp2_with fail
              refine (HCH.out _ (grows (a := W))).mono ?_
              rintro e' w3 ⟨rfl, x3⟩
              have s3 := Step.mk x3
              go_wp2_with fail
              go_ret
              exact ⟨ret_bool (by rw [HR.out]), grows⟩
          · obtain rfl : k = P.hs.length := by omega
            have HHB : Hid (Dp.hsB P = true) := Lib.hid (Pg.all_yes HZ.out)
            clear HZ hk hlt
            by_cases h0 : y = 0
            · have h0b : (y == 0) = true := by simp [h0]
              have HR := Lib.hid (Dp.ri_yes HS0.out h2000 (by rw [Dp.ok_of (HXY.out.trans h0) HHB.out, HZ1.out]; rfl))
              clear h0
              go_wp2_with fail
              refine (HCK.out _ (grows (a := W))).mono ?_
              rintro e' w3 ⟨rfl, x3⟩
              have s3 := Step.mk x3
              go_wp2_with fail
              go_ret
              exact ⟨ret_bool (by rw [HR.out]), grows⟩
            · have h0b : (y == 0) = false := by simp [h0]
              have HR := Lib.hid (Dp.ri_ok (P := P) (E := E) (Dp.no_chk (by rw [HXY.out]; exact h0)))
              clear h0
              go_wp2_with fail
              refine (HCK.out _ (grows (a := W))).mono ?_
              rintro e' w3 ⟨rfl, x3⟩
              have s3 := Step.mk x3
              go_wp2_with fail
              go_ret
              exact ⟨ret_bool (by rw [HR.out]), grows⟩
      · have hzb : (z != 0) = true := by simp [hz0]
        have HR := Lib.hid (Dp.ri_ok (P := P) (E := E) (Dp.no_env (by rw [HZ0.out]; exact hz0)))
        clear hz0
        go_enter Try.func20, Try.ntmps20
        go_wp2_with fail
        refine (HSM.out _ (grows (a := W))).mono ?_
        rintro e' w1 ⟨rfl, x1⟩
        have s1 := Step.mk x1
        go_wp2_with fail
        refine (HEC.out _ (grows (a := W))).mono ?_
        rintro e' w2 ⟨rfl, x2⟩
        have s2 := Step.mk x2
        go_wp2_with fail
        go_ret
        exact ⟨ret_bool (by rw [HR.out]), grows⟩
    · have h2001 : 2000 < E.pl.length := by omega
      have HR := Lib.hid (Dp.ri_pl (P := P) h2000)
      clear h2000
      go_enter Try.func20, Try.ntmps20
      go_wp2_with fail
      refine (HSM.out _ (grows (a := W))).mono ?_
      rintro e' w1 ⟨rfl, x1⟩
      have s1 := Step.mk x1
      go_wp2_with fail
      go_ret
      exact ⟨ret_bool (by rw [HR.out]), grows⟩
end Go.Proofs.Ytonnlcjkgpahoaa
namespace Go.Proofs.Ytonnlcjkgpahoaa
open Go.RowKit

namespace Rel
/-- what one operation leaves -/
def upon (P : Program) (r : Value → World → Prop) (w : World) : Result Next → Prop
  | .ok (.value u) w' => Ext w w' ∧ r u w'
  | .ok .skip w' => Ext w w' ∧ r undef w'
  | .ok (.enter f args) w' => w' = w ∧ Calls P f args w (fun e w'' => ∃ v, e = .returned v ∧ Ext w w'' ∧ r v w'')
  | _ => False
def leaves (P : Program) (r : Value → World → Prop) (o : Oper) (a : Act) (w : World) : Prop := upon P r w ((execOp a.eval o).run P w)
/-- an operation that enters no function -/
def pureB (o : Oper) : Bool :=
  match o.op with
  | .call c => (match c.callee with | .builtin .len => true | _ => false)
  | .nilCheck _ | .go _ | .defer _ | .send _ _ | .recv _ _ _ | .select _ _ => false
  | _ => true
theorem no_enter_v {s : Sem Value} {P : Program} {w w' : World} {f : FuncId} {args : Array Value} : (do pure (Next.value (← s)) : Sem Next).run P w ≠ .ok (.enter f args) w' := by
  rw [Sem.run_bind]
  cases s.run P w <;> simp [Result.andThen, Sem.run_pure]
theorem no_enter_g {α : Type} {s : Sem α} {g : α → Value} {P : Program} {w w' : World} {f : FuncId} {args : Array Value} : (do pure (Next.value (g (← s))) : Sem Next).run P w ≠ .ok (.enter f args) w' := by
  rw [Sem.run_bind]
  cases s.run P w <;> simp [Result.andThen, Sem.run_pure]
theorem no_enter_u {s : Sem Unit} {P : Program} {w w' : World} {f : FuncId} {args : Array Value} : (do s; pure Next.skip : Sem Next).run P w ≠ .ok (.enter f args) w' := by
  rw [Sem.run_bind]
  cases s.run P w <;> simp [Result.andThen, Sem.run_pure]
theorem no_enter_p {v : Value} {P : Program} {w w' : World} {f : FuncId} {args : Array Value} : (pure (Next.value v) : Sem Next).run P w ≠ .ok (.enter f args) w' := by
  simp [Sem.run_pure]
theorem no_enter {o : Oper} (h : pureB o = true) {ρ : Operand → Value} {P : Program} {w w' : World} {f : FuncId} {args : Array Value} : (execOp ρ o).run P w ≠ .ok (.enter f args) w' := by
  obtain ⟨dst, op, ty, pos, aft, gd⟩ := o
  cases op with
  | call c =>
    obtain ⟨ce, xs, ts⟩ := c
    cases ce with
    | builtin b => cases b <;> first | (simp [pureB] at h; done) | exact no_enter_v
    | value f => simp [pureB] at h
    | invoke r m => simp [pureB] at h
  | _ => first | (simp [pureB] at h; done) | exact no_enter_p | exact no_enter_v | exact no_enter_u | exact no_enter_g

abbrev Facts := Nat → World → Prop
def add (Φ : Facts) (j : Nat) (F : World → Prop) : Facts := fun k w => Φ k w ∧ (k = j → F w)
theorem add_true (Φ : Facts) (j : Nat) : add Φ j (fun _ => True) = Φ := by
  funext k w; exact propext ⟨fun h => h.1, fun h => ⟨h, fun _ => trivial⟩⟩
theorem add_comm (Φ : Facts) (i j : Nat) (F G : World → Prop) : add (add Φ i F) j G = add (add Φ j G) i F := by
  funext k w; exact propext ⟨fun h => ⟨⟨h.1.1, h.2⟩, h.1.2⟩, fun h => ⟨⟨h.1.1, h.2⟩, h.1.2⟩⟩

section
variable {P : Program} {ops : Array Oper} {md : Region.Mode} {W0 : World} {R : Nat → Option (Value → World → Prop)}

/-- the worlds in which operation j may come up: the facts of those it waits for hold -/
def cls (md : Region.Mode) (ops : Array Oper) (W0 : World) (Φ : Facts) (j : Nat) (w : World) : Prop := Ext W0 w ∧ ∀ k, Region.waitsFor md ops j k = true → Φ k w
theorem cls_add {Φ : Facts} {i j : Nat} {F : World → Prop} {w : World} (h : Region.waitsFor md ops j i = false) : cls md ops W0 (add Φ i F) j w ↔ cls md ops W0 Φ j w :=
  ⟨fun ⟨h1, h2⟩ => ⟨h1, fun k hk => (h2 k hk).1⟩, fun ⟨h1, h2⟩ => ⟨h1, fun k hk => ⟨h2 k hk, fun e => by subst e; rw [h] at hk; cases hk⟩⟩⟩

/-- one operation: its possible values, and what comes with each -/
inductive Mode (P : Program) (md : Region.Mode) (ops : Array Oper) (W0 : World) (R : Nat → Option (Value → World → Prop)) (Φ : Facts) (j : Nat) (o : Oper) (a : Act) : (Value → Prop) → (Value → World → Prop) → Prop
  | skip (h : Region.wanted o (yielded ops a.tmps) = false) : Mode P md ops W0 R Φ j o a (fun v => v = undef) (fun _ _ => True)
  | exact (v0 : Value) (h : Region.wanted o (yielded ops a.tmps) = true) (hr : R j = none) (hp : pureB o = true) (hv : ∀ w, cls md ops W0 Φ j w → o.quietAt P a (Ext W0) w v0) : Mode P md ops W0 R Φ j o a (fun v => v = v0) (fun _ _ => True)
  | rel (r : Value → World → Prop) (h : Region.wanted o (yielded ops a.tmps) = true) (hr : R j = some r) (hv : ∀ w, cls md ops W0 Φ j w → leaves P r o a w) : Mode P md ops W0 R Φ j o a (fun v => ∃ w, Ext W0 w ∧ (∀ k, Φ k w) ∧ r v w) r

def step (P : Program) (md : Region.Mode) (ops : Array Oper) (W0 : World) (R : Nat → Option (Value → World → Prop)) (Φ : Facts) (j : Nat) (K : Facts → Act → Prop) (a : Act) : Prop :=
  ∃ o V F, ops[j]? = some o ∧ Mode P md ops W0 R Φ j o a V F ∧ ∀ v, V v → K (add Φ j (F v)) (a.put o.dst v)

/-- facts outlive later steps -/
def Lasts (Φ : Facts) : Prop := ∀ k w w', Φ k w → Ext w w' → Φ k w'
def LastsR (R : Nat → Option (Value → World → Prop)) : Prop := ∀ j r, R j = some r → ∀ v w w', r v w → Ext w w' → r v w'
/-- some world has them all -/
def Sat (W0 : World) (Φ : Facts) : Prop := ∃ w, Ext W0 w ∧ ∀ k, Φ k w

theorem Mode.lasts {Φ : Facts} {j : Nat} {o : Oper} {a : Act} {V : Value → Prop} {F : Value → World → Prop} (hR : LastsR R) (hΦ : Lasts Φ) (h : Mode P md ops W0 R Φ j o a V F) (v : Value) : Lasts (add Φ j (F v)) := by
  intro k w w' hk hx
  refine ⟨hΦ k w w' hk.1 hx, fun e => ?_⟩
  have hF := hk.2 e
  cases h with
  | skip h => trivial
  | exact v0 h hr hp hv => trivial
  | rel r h hr hv => exact hR j _ hr v w w' hF hx
theorem Mode.sat {Φ : Facts} {j : Nat} {o : Oper} {a : Act} {V : Value → Prop} {F : Value → World → Prop} (hs : Sat W0 Φ) (h : Mode P md ops W0 R Φ j o a V F) {v : Value} (hv : V v) : Sat W0 (add Φ j (F v)) := by
  cases h with
  | skip h => rw [add_true]; exact hs
  | exact v0 h hr hp hv => rw [add_true]; exact hs
  | rel r h hr hv' =>
    obtain ⟨w, h1, h2, h3⟩ := hv
    exact ⟨w, h1, fun k => ⟨h2 k, fun _ => h3⟩⟩
theorem Mode.some {Φ : Facts} {j : Nat} {o : Oper} {a : Act} {V : Value → Prop} {F : Value → World → Prop} (hΦ : Lasts Φ) (hs : Sat W0 Φ) (h : Mode P md ops W0 R Φ j o a V F) : ∃ v, V v := by
  cases h with
  | skip h => exact ⟨_, rfl⟩
  | exact v0 h hr hp hv => exact ⟨_, rfl⟩
  | rel r h hr hv =>
    obtain ⟨w, h1, h2⟩ := hs
    have h3 := hv w ⟨h1, fun k _ => h2 k⟩
    unfold leaves at h3
    generalize (execOp a.eval o).run P w = res at h3
    cases res with
    | ok n w' =>
      cases n <;> simp only [upon] at h3
      case value u => exact ⟨u, w', h1.trans h3.1, fun k => hΦ k w w' (h2 k) h3.1, h3.2⟩
      case skip => exact ⟨undef, w', h1.trans h3.1, fun k => hΦ k w w' (h2 k) h3.1, h3.2⟩
      case enter f args =>
        obtain ⟨_, hc⟩ := h3
        obtain ⟨e, w'', fr, ⟨v, _, hx, hr'⟩, _⟩ := hc []
        exact ⟨v, w'', h1.trans hx, fun k => hΦ k w w'' (h2 k) hx, hr'⟩
    | halt x w' => simp only [upon] at h3

/-- two values of one operation that enters no function are one -/
theorem quiet_one {o : Oper} {a : Act} {w : World} {u v : Value} {C : World → Prop} (hp : pureB o = true) (hu : o.quietAt P a C w u) (hv : o.quietAt P a C w v) : u = v := by
  have hn := fun w' f args => no_enter (P := P) (w := w) (w' := w') (f := f) (args := args) hp (ρ := a.eval)
  unfold Oper.quietAt at hu hv
  generalize (execOp a.eval o).run P w = res at hu hv hn
  cases res with
  | ok n w' =>
    cases n <;> simp only [Oper.quietUpon] at hu hv
    case value x => rw [← hu.2, ← hv.2]
    case skip => rw [hu.2, hv.2]
    case enter f args => exact absurd rfl (hn w' f args)
  | halt x w' => simp only [Oper.quietUpon] at hu

theorem leaves_put {o : Oper} (hs : ∀ cs b, o.op ≠ .select cs b) {a : Act} {dst : Option Tmp} {v : Value} (h : ∀ d, dst = some d → d ∉ o.looksAt ops) {r : Value → World → Prop} {w : World} : leaves P r o (a.put dst v) w ↔ leaves P r o a w := by
  unfold leaves; rw [execOp_put o hs a dst v h]
theorem quiet_put {o : Oper} (hs : ∀ cs b, o.op ≠ .select cs b) {a : Act} {dst : Option Tmp} {v : Value} (h : ∀ d, dst = some d → d ∉ o.looksAt ops) {C : World → Prop} {w : World} {u : Value} : o.quietAt P (a.put dst v) C w u ↔ o.quietAt P a C w u := by
  unfold Oper.quietAt; rw [execOp_put o hs a dst v h]

/-- what i was taken for may as well be taken behind j -/
theorem swap {Φ : Facts} {i j : Nat} {oi oj : Oper} {a : Act} {K : Facts → Act → Prop} (hΦ : Lasts Φ) (hs : Sat W0 Φ) (hi : ops[i]? = some oi) (hj : ops[j]? = some oj) (hap : oi.apart ops oj = true)
    (hsi : ∀ cs b, oi.op ≠ .select cs b) (hsj : ∀ cs b, oj.op ≠ .select cs b) (wji : Region.waitsFor md ops j i = false) (wij : Region.waitsFor md ops i j = false)
    (h : step P md ops W0 R Φ i (fun Φ1 a1 => step P md ops W0 R Φ1 j K a1) a) : step P md ops W0 R Φ j (fun Φ2 a2 => step P md ops W0 R Φ2 i K a2) a := by
  obtain ⟨h1, h2, h3⟩ := Oper.apart_spec hap
  obtain ⟨o', V, F, ho, hm, hk⟩ := h
  obtain rfl : o' = oi := Option.some.inj (ho.symm.trans hi)
  obtain ⟨v1, hv1⟩ := hm.some hΦ hs
  have hk1 := hk v1 hv1
  obtain ⟨oj', Vj, Fj, hoj, hmj, _⟩ := hk1
  obtain rfl : oj' = oj := Option.some.inj (hoj.symm.trans hj)
  have hwt : ∀ v, Region.wanted oj' (yielded ops (a.put o'.dst v).tmps) = Region.wanted oj' (yielded ops a.tmps) := fun v => wanted_put oj' a o'.dst v h1
  have hwti : ∀ v, Region.wanted o' (yielded ops (a.put oj'.dst v).tmps) = Region.wanted o' (yielded ops a.tmps) := fun v => wanted_put o' a oj'.dst v h3
  -- i behind j, when j brings no fact
  have keep : ∀ u, Mode P md ops W0 R Φ i o' (a.put oj'.dst u) V F := fun u => by
    cases hm with
    | skip h => exact .skip (by rw [hwti]; exact h)
    | exact v0 h hr hp hv => exact .exact v0 (by rw [hwti]; exact h) hr hp (fun w hw => (quiet_put hsi h3).2 (hv w hw))
    | rel r h hr hv => exact .rel _ (by rw [hwti]; exact h) hr (fun w hw => (leaves_put hsi h3).2 (hv w hw))
  cases hmj with
  | skip hw =>
    refine ⟨oj', _, _, hj, .skip (by rw [← hwt v1]; exact hw), fun u hu => ?_⟩
    subst hu
    rw [add_true]
    refine ⟨o', V, F, hi, keep _, fun v hv => ?_⟩
    obtain ⟨oj2, Vj, Fj, hoj2, hmj, hkj⟩ := hk v hv
    obtain rfl : oj2 = oj' := Option.some.inj (hoj2.symm.trans hj)
    cases hmj with
    | skip h =>
      have := hkj undef rfl
      rw [add_true, Act.put_comm a v undef h2] at this
      exact this
    | exact v0 h => rw [hwt] at h; rw [hwt, h] at hw; cases hw
    | rel r h => rw [hwt] at h; rw [hwt, h] at hw; cases hw
  | exact v0 hw hr hp hv0 =>
    have hv0' : ∀ w, cls md ops W0 Φ j w → oj'.quietAt P a (Ext W0) w v0 := fun w hw => (quiet_put hsj h1).1 (hv0 w ((cls_add wji).2 hw))
    refine ⟨oj', _, _, hj, .exact v0 (by rw [← hwt v1]; exact hw) hr hp hv0', fun u hu => ?_⟩
    subst hu
    rw [add_true]
    refine ⟨o', V, F, hi, keep _, fun v hv => ?_⟩
    obtain ⟨oj2, Vj, Fj, hoj2, hmj, hkj⟩ := hk v hv
    obtain rfl : oj2 = oj' := Option.some.inj (hoj2.symm.trans hj)
    cases hmj with
    | skip h => rw [hwt] at h; rw [hwt, h] at hw; cases hw
    | exact v0' h hr' hp' hv' =>
      obtain ⟨w0, g1, g2⟩ := hs
      have hc : cls md ops W0 Φ j w0 := ⟨g1, fun k _ => g2 k⟩
      have e : v0' = u := quiet_one hp ((quiet_put hsj h1).1 (hv' w0 ((cls_add wji).2 hc))) (hv0' w0 hc)
      subst e
      have := hkj v0' rfl
      rw [add_true, Act.put_comm a v v0' h2] at this
      exact this
    | rel r h hr' => rw [hr] at hr'; cases hr'
  | rel r hw hr hvj =>
    refine ⟨oj', _, _, hj, .rel _ (by rw [← hwt v1]; exact hw) hr (fun w hw => (leaves_put hsj h1).1 (hvj w ((cls_add wji).2 hw))), fun u hu => ?_⟩
    obtain ⟨w1, g1, g2, g3⟩ := hu
    have last : ∀ v, V v → (∃ w, Ext W0 w ∧ (∀ k, add Φ i (F v) k w) ∧ Fj u w) → K (add (add Φ j (Fj u)) i (F v)) ((a.put oj'.dst u).put o'.dst v) := fun v hv hu => by
      obtain ⟨oj2, Vj2, Fj2, hoj2, hmj, hkj⟩ := hk v hv
      obtain rfl : oj2 = oj' := Option.some.inj (hoj2.symm.trans hj)
      cases hmj with
      | skip h => rw [hwt] at h; rw [hwt, h] at hw; cases hw
      | exact v0' h hr' => rw [hr] at hr'; cases hr'
      | rel r' h hr' hv' =>
        obtain rfl : Fj = Fj2 := Option.some.inj (hr.symm.trans hr')
        have := hkj u hu
        rw [add_comm, Act.put_comm a v u h2] at this
        exact this
    cases hm with
    | skip h => exact ⟨o', _, _, hi, .skip (by rw [hwti]; exact h), fun v hv => last v hv ⟨w1, g1, fun k => ⟨g2 k, fun _ => trivial⟩, g3⟩⟩
    | exact v0 h hr' hp hv => exact ⟨o', _, _, hi, .exact v0 (by rw [hwti]; exact h) hr' hp (fun w hw => (quiet_put hsi h3).2 (hv w ((cls_add wij).1 hw))), fun v hv => last v hv ⟨w1, g1, fun k => ⟨g2 k, fun _ => trivial⟩, g3⟩⟩
    | rel r' h hr' hv =>
      refine ⟨o', _, _, hi, .rel _ (by rw [hwti]; exact h) hr' (fun w hw => (leaves_put hsi h3).2 (hv w ((cls_add wij).1 hw))), fun v hv => ?_⟩
      obtain ⟨w2, q1, q2, q3⟩ := hv
      exact last v ⟨w2, q1, fun k => (q2 k).1, q3⟩ ⟨w2, q1, fun k => ⟨(q2 k).1, fun _ => q3⟩, (q2 j).2 rfl⟩

theorem step_mono {Φ : Facts} {j : Nat} {a : Act} {K K' : Facts → Act → Prop} (hR : LastsR R) (hΦ : Lasts Φ) (hs : Sat W0 Φ) (h : ∀ Φ' a', Lasts Φ' → Sat W0 Φ' → K Φ' a' → K' Φ' a') (hh : step P md ops W0 R Φ j K a) : step P md ops W0 R Φ j K' a := by
  obtain ⟨o, V, F, h1, h2, h3⟩ := hh
  exact ⟨o, V, F, h1, h2, fun v hv => h _ _ (h2.lasts hR hΦ v) (h2.sat hs hv) (h3 v hv)⟩

/-- whatever order is picked from here on -/
def any (P : Program) (md : Region.Mode) (ops : Array Oper) (W0 : World) (R : Nat → Option (Value → World → Prop)) (Q : Facts → Act → Prop) : Nat → Array Bool → Facts → Act → Prop
  | 0, listed, Φ, a => Region.ready md ops listed = [] ∧ Q Φ a
  | f + 1, listed, Φ, a => (Region.ready md ops listed = [] → Q Φ a) ∧ ∀ i ∈ Region.ready md ops listed, step P md ops W0 R Φ i (any P md ops W0 R Q f (listed.setIfInBounds i true)) a

theorem wp_of_step {Φ : Facts} {j : Nat} {a : Act} {w : World} {K : Facts → Act → Prop} {K' : Act → World → Prop} {Q' : Exit → Act → World → Prop} (hR : LastsR R) (hΦ : Lasts Φ) (hw : Ext W0 w) (hf : ∀ k, Φ k w)
    (h : ∀ Φ' a' w', Lasts Φ' → Ext W0 w' → (∀ k, Φ' k w') → K Φ' a' → K' a' w') (hh : step P md ops W0 R Φ j K a) : wpOp P ops Q' j K' a w := by
  obtain ⟨o, V, F, ho, hm, hk⟩ := hh
  unfold wpOp
  simp only [ho]
  have hl := hm.lasts hR hΦ
  cases hm with
  | skip hn =>
    simp only [hn]
    exact h _ _ _ (hl undef) hw (fun k => ⟨hf k, fun _ => trivial⟩) (hk undef rfl)
  | exact v0 hn hr hp hv =>
    simp only [hn, if_true]
    refine .inl ?_
    have h3 := hv w ⟨hw, fun k _ => hf k⟩
    have hK := hk v0 rfl
    unfold Oper.quietAt at h3
    unfold Oper.wp
    have hn := fun w' f args => no_enter (P := P) (w := w) (w' := w') (f := f) (args := args) hp (ρ := a.eval)
    generalize (execOp a.eval o).run P w = res at h3 hn
    cases res with
    | ok n w' =>
      cases n <;> simp only [Oper.quietUpon] at h3 <;> simp only [Oper.upon]
      case value u => obtain ⟨e1, e2⟩ := h3; subst e1 e2; exact h _ _ _ (hl u) hw (fun k => ⟨hf k, fun _ => trivial⟩) hK
      case skip => obtain ⟨e1, e2⟩ := h3; subst e1 e2; exact h _ _ _ (hl undef) hw (fun k => ⟨hf k, fun _ => trivial⟩) hK
      case enter f args => exact absurd rfl (hn w' f args)
    | halt x w' => simp only [Oper.quietUpon] at h3
  | rel r hn hr hv =>
    simp only [hn, if_true]
    refine .inl ?_
    have h3 := hv w ⟨hw, fun k _ => hf k⟩
    unfold leaves at h3
    unfold Oper.wp
    generalize (execOp a.eval o).run P w = res at h3
    cases res with
    | ok n w' =>
      cases n <;> simp only [upon] at h3 <;> simp only [Oper.upon]
      case value u => exact h _ _ _ (hl u) (hw.trans h3.1) (fun k => ⟨hΦ k _ _ (hf k) h3.1, fun _ => h3.2⟩) (hk u ⟨w', hw.trans h3.1, fun k => hΦ k _ _ (hf k) h3.1, h3.2⟩)
      case skip => exact h _ _ _ (hl undef) (hw.trans h3.1) (fun k => ⟨hΦ k _ _ (hf k) h3.1, fun _ => h3.2⟩) (hk undef ⟨w', hw.trans h3.1, fun k => hΦ k _ _ (hf k) h3.1, h3.2⟩)
      case enter f args =>
        obtain ⟨e1, hc⟩ := h3
        subst e1
        refine hc.mono fun e w'' he => ?_
        obtain ⟨u, he, hx, hu⟩ := he
        subst he
        exact h _ _ _ (hl u) (hw.trans hx) (fun k => ⟨hΦ k _ _ (hf k) hx, fun _ => hu⟩) (hk u ⟨w'', hw.trans hx, fun k => hΦ k _ _ (hf k) hx, hu⟩)
    | halt x w' => simp only [upon] at h3

theorem wpAny_of_any {Q : Facts → Act → Prop} {Q' : Exit → Act → World → Prop} (hR : LastsR R) (hQ : ∀ Φ a w, Ext W0 w → (∀ k, Φ k w) → Q Φ a → Q' .normal a w) :
    ∀ (f : Nat) (listed : Array Bool) (Φ : Facts) (a : Act) (w : World), Lasts Φ → Ext W0 w → (∀ k, Φ k w) → any P md ops W0 R Q f listed Φ a → wpAny P md ops Q' f listed a w
  | 0, _, _, _, _, _, hw, hf, h => ⟨h.1, hQ _ _ _ hw hf h.2⟩
  | f + 1, _, _, _, _, hl, hw, hf, h => ⟨fun h0 => hQ _ _ _ hw hf (h.1 h0), fun i hi => wp_of_step hR hl hw hf (fun Φ' a' w' hl' hw' hf' => wpAny_of_any hR hQ f _ Φ' a' w' hl' hw' hf') (h.2 i hi)⟩

/-- an operation that may come up now may be taken first -/
theorem any_first {Q : Facts → Act → Prop} {i : Nat} {oi : Oper} (hR : LastsR R) (hi : ops[i]? = some oi) (hsel : ∀ (j : Nat) (o : Oper) cs b, ops[j]? = some o → o.op ≠ .select cs b) :
    ∀ (f : Nat) (listed : Array Bool) (Φ : Facts) (a : Act), Lasts Φ → Sat W0 Φ →
      (∀ j oj, ops[j]? = some oj → j ≠ i → listed.getD j true = false → (∀ e ∈ oj.after, Region.binds md e = true → e.on ≠ i) → oi.apart ops oj = true) →
      i ∈ Region.ready md ops listed → step P md ops W0 R Φ i (any P md ops W0 R Q f (listed.setIfInBounds i true)) a → any P md ops W0 R Q (f + 1) listed Φ a := by
  intro f
  induction f with
  | zero =>
    intro listed Φ a hl hs _ hr H
    refine ⟨fun h => (by rw [h] at hr; cases hr), fun j hj => ?_⟩
    by_cases hji : j = i
    · subst hji; exact H
    · have hm := ready_mono hj hji
      obtain ⟨o, V, F, _, hmd, hk⟩ := H
      obtain ⟨v, hv⟩ := hmd.some hl hs
      rw [(hk v hv).1] at hm
      cases hm
  | succ f ih =>
    intro listed Φ a hl hs hfree hr H
    refine ⟨fun h => (by rw [h] at hr; cases hr), fun j hj => ?_⟩
    by_cases hji : j = i
    · subst hji; exact H
    · obtain ⟨hjun, oj, hoj, hall⟩ := mem_ready.1 hj
      obtain ⟨hiun, oi', hoi', halli⟩ := mem_ready.1 hr
      obtain rfl : oi = oi' := Option.some.inj (hi.symm.trans hoi')
      have hnot : ∀ e ∈ oj.after, Region.binds md e = true → e.on ≠ i := fun e he hb heq => by
        have h1 := hall e he hb
        rw [heq, getD_both hiun] at h1; cases h1
      have wji : Region.waitsFor md ops j i = false := by
        rw [← Bool.not_eq_true]; intro hw
        obtain ⟨o, ho, e, he, hb, hon⟩ := Region.waitsFor_spec hw
        obtain rfl : oj = o := Option.some.inj (hoj.symm.trans ho)
        exact hnot e he hb hon
      have wij : Region.waitsFor md ops i j = false := by
        rw [← Bool.not_eq_true]; intro hw
        obtain ⟨o, ho, e, he, hb, hon⟩ := Region.waitsFor_spec hw
        obtain rfl : oi = o := Option.some.inj (hi.symm.trans ho)
        have h1 := halli e he hb
        rw [hon, getD_both hjun] at h1; cases h1
      have hfree' : ∀ k ok, ops[k]? = some ok → k ≠ i → (listed.setIfInBounds j true).getD k true = false →
          (∀ e ∈ ok.after, Region.binds md e = true → e.on ≠ i) → oi.apart ops ok = true := fun k ok hk hki hun hno => by
        refine hfree k ok hk hki ?_ hno
        by_cases hjk : j = k
        · subst hjk; exact hjun
        · rw [getD_set_ne true hjk] at hun; exact hun
      have H2 : step P md ops W0 R Φ i (fun Φ1 a1 => step P md ops W0 R Φ1 j (any P md ops W0 R Q f ((listed.setIfInBounds i true).setIfInBounds j true)) a1) a :=
        step_mono hR hl hs (fun Φ' a' _ _ h => h.2 j (ready_mono hj hji)) H
      refine step_mono hR hl hs (fun Φ' a' hl' hs' h3 => ih (listed.setIfInBounds j true) Φ' a' hl' hs' hfree' (ready_mono hr (Ne.symm hji)) ?_)
        (swap hl hs hi hoj (hfree j oj hoj hji hjun hnot) (fun cs b => hsel i oi cs b hi) (fun cs b => hsel j oj cs b hoj) wji wij H2)
      rw [Array.setIfInBounds_comm _ _ hji]
      exact h3

/-- the walk in the order of the text -/
def walk (P : Program) (md : Region.Mode) (ops : Array Oper) (W0 : World) (R : Nat → Option (Value → World → Prop)) (Q : Facts → Act → Prop) : List Oper → Nat → Facts → Act → Prop
  | [], _, Φ, a => Q Φ a
  | _ :: l, k, Φ, a => step P md ops W0 R Φ k (walk P md ops W0 R Q l (k + 1)) a

theorem any_lex {Q : Facts → Act → Prop} (hR : LastsR R) (hs : Region.noSelect ops = true) : ∀ (l : List Oper) (k : Nat) (listed : Array Bool) (Φ : Facts) (a : Act), (∀ j, l[j]? = ops[k + j]?) →
    Region.lexFrom md ops l.length k listed = true → Lasts Φ → Sat W0 Φ → walk P md ops W0 R Q l k Φ a → any P md ops W0 R Q l.length listed Φ a
  | [], _, _, _, _, _, hB, _, _, h => ⟨by simpa [Region.lexFrom] using hB, h⟩
  | o :: l, k, listed, Φ, a, hl, hB, hL, hS, h => by
    have h0 : ops[k]? = some o := by simpa using (hl 0).symm
    simp only [List.length_cons, Region.lexFrom, Bool.and_eq_true] at hB
    obtain ⟨⟨hr, hf⟩, hB'⟩ := hB
    exact any_first hR h0 (Region.noSelect_spec hs) l.length listed Φ a hL hS (Region.free_spec h0 hf) (by simpa using hr)
      (step_mono hR hL hS (fun Φ' a' hL' hS' h' => any_lex hR hs l (k + 1) _ Φ' a' (fun j => by have := hl (j + 1); simpa [Nat.add_assoc, Nat.add_comm 1 j] using this) hB' hL' hS' h') h)

/-- The region. -/
theorem region {id : Nat} {Q : Exit → Act → World → Prop} {a : Act} {w W : World} {l : List Oper} (R : Nat → Option (Value → World → Prop)) (hR : LastsR R) (hm : P.follows .mixedOrders = true) (hB : Region.lexB .any l.toArray = true) (hW : Ext W w)
    (h : walk P .any l.toArray W R (fun Φ a' => ∀ w' : World, Ext W w' → (∀ k, Φ k w') → Q .normal a' w') l 0 (fun _ _ => True) a) : (Code.region id l.toArray true).wp P Q a w := by
  simp only [Region.lexB, Bool.and_eq_true] at hB
  refine wp_region_any hm (wpAny_of_any (Q := fun Φ a' => ∀ w' : World, Ext W w' → (∀ k, Φ k w') → Q .normal a' w') hR (fun Φ a w' hw' hf h => h w' hw' hf) _ _ _ _ _ (fun _ _ _ _ _ => trivial) hW.drew (fun _ => trivial) ?_)
  have := any_lex (P := P) (md := .any) hR hB.1 l 0 (Array.replicate l.toArray.size false) (fun _ _ => True) a (by simp) (by simpa using hB.2) (fun _ _ _ _ _ => trivial) ⟨W, Ext.refl W, fun _ => trivial⟩ h
  simpa using this

/-- some operations that need no fact, walked by the quiet walk -/
theorem chunk' {Q : Facts → Act → Prop} : ∀ (m : Nat) {l : List Oper} {k : Nat} {Φ : Facts} {a : Act}, (∀ j, l[j]? = ops[k + j]?) → (List.range m).all (fun j => (R (k + j)).isNone) = true → (l.take m).all pureB = true →
    wpQuiet P ops (fun w' => ∃ x : Later W0, w' = x.val) (fun a' => walk P md ops W0 R Q (l.drop m) (k + m) Φ a') (l.take m) a → walk P md ops W0 R Q l k Φ a
  | 0, l, k, Φ, a, _, _, _, h => by simpa [wpQuiet] using h
  | m + 1, [], k, Φ, a, _, _, _, h => by simpa [wpQuiet, walk] using h
  | m + 1, o :: l, k, Φ, a, hl, hR, hp, h => by
    have h0 : ops[k]? = some o := by simpa using (hl 0).symm
    have hn : R k = none := by
      have := List.all_eq_true.1 hR 0 (List.mem_range.2 (by omega))
      simpa using this
    simp only [List.take_succ_cons, List.all_cons, Bool.and_eq_true] at hp
    have hl' : ∀ j, l[j]? = ops[k + 1 + j]? := fun j => by have := hl (j + 1); simpa [Nat.add_assoc, Nat.add_comm 1 j] using this
    have hR' : (List.range m).all (fun j => (R (k + 1 + j)).isNone) = true := List.all_eq_true.2 fun j hj => by
      have := List.all_eq_true.1 hR (j + 1) (List.mem_range.2 (by have := List.mem_range.1 hj; omega))
      rw [show k + 1 + j = k + (j + 1) by omega]; exact this
    have go : ∀ a', wpQuiet P ops (fun w' => ∃ x : Later W0, w' = x.val) (fun a' => walk P md ops W0 R Q ((o :: l).drop (m + 1)) (k + (m + 1)) Φ a') (l.take m) a' → walk P md ops W0 R Q l (k + 1) Φ a' := fun a' h' =>
      chunk' m hl' hR' hp.2 (by rw [show k + 1 + m = k + (m + 1) by omega]; simpa using h')
    simp only [List.take_succ_cons, wpQuiet] at h
    by_cases hw : Region.wanted o (yielded ops a.tmps) = true
    · rw [if_pos hw] at h
      obtain ⟨v0, hv, hk⟩ := h
      refine ⟨o, _, _, h0, .exact v0 hw hn hp.1 (fun w hc => ?_), fun v hv => ?_⟩
      · have := hv w ⟨⟨w, hc.1⟩, rfl⟩
        have e : (fun w' => ∃ x : Later W0, w' = x.val) = Ext W0 := by
          funext w'; exact propext ⟨fun ⟨x, hx⟩ => by subst hx; exact x.ext, fun h => ⟨⟨w', h⟩, rfl⟩⟩
        rw [e] at this; exact this
      · subst hv; rw [add_true]; exact go _ hk
    · rw [if_neg hw] at h
      refine ⟨o, _, _, h0, .skip (by simpa using hw), fun v hv => ?_⟩
      subst hv; rw [add_true]; exact go _ h

theorem chunk (m : Nat) {Q : Facts → Act → Prop} {l : List Oper} {k : Nat} {Φ : Facts} {a : Act} (hl : ops.toList.drop k = l) (hR : (List.range m).all (fun j => (R (k + j)).isNone) = true) (hp : (l.take m).all pureB = true)
    (h : wpQuiet P ops (fun w' => ∃ x : Later W0, w' = x.val) (fun a' => walk P md ops W0 R Q (l.drop m) (k + m) Φ a') (l.take m) a) : walk P md ops W0 R Q l k Φ a :=
  chunk' m (fun j => by rw [← hl]; simp) hR hp h
/-- the table of relations -/
def tab (l : List (Nat × (Value → World → Prop))) (j : Nat) : Option (Value → World → Prop) := (l.find? fun p => p.1 == j).map (·.2)
theorem tab_lasts {l : List (Nat × (Value → World → Prop))} (h : ∀ p ∈ l, ∀ v w w', p.2 v w → Ext w w' → p.2 v w') : LastsR (tab l) := by
  intro j r hr v w w' h1 hx
  unfold tab at hr
  cases hf : l.find? fun p => p.1 == j with
  | none => rw [hf] at hr; cases hr
  | some p =>
    rw [hf] at hr
    obtain rfl : p.2 = r := Option.some.inj hr
    exact h p (List.mem_of_find?_eq_some hf) v w w' h1 hx
/-- a call whose result is known by a relation -/
theorem call {Q : Facts → Act → Prop} {o : Oper} {l : List Oper} {k : Nat} {Φ : Facts} {a : Act} (r : Value → World → Prop) (hk : ops[k]? = some o) (hr : R k = some r) (hw : Region.wanted o (yielded ops a.tmps) = true)
    (h1 : ∀ w, Ext W0 w → (∀ i, Region.waitsFor md ops k i = true → Φ i w) → leaves P r o a w)
    (h2 : ∀ v w, Ext W0 w → (∀ i, Φ i w) → r v w → walk P md ops W0 R Q l (k + 1) (add Φ k (r v)) (a.put o.dst v)) : walk P md ops W0 R Q (o :: l) k Φ a :=
  ⟨o, _, _, hk, .rel r hw hr (fun w hc => h1 w hc.1 hc.2), fun v ⟨w, g1, g2, g3⟩ => h2 v w g1 g2 g3⟩
/-- the same at a call of a function that is named -/
theorem callG {Q : Facts → Act → Prop} {dst : Option Tmp} {f : FuncId} {xs : Array Operand} {ats : Array TypeId} {ty : TypeId} {pos : String} {after : Array Edge} {guard : Option (Nat × Bool)} {l : List Oper} {k : Nat} {Φ : Facts} {a : Act} {fn : Func} (r : Value → World → Prop)
    (hk : ops[k]? = some { dst, op := .call { callee := .value (.func f), args := xs, argTypes := ats }, type := ty, pos, after, guard }) (hr : R k = some r) (hw : Region.wanted { dst, op := .call { callee := .value (.func f), args := xs, argTypes := ats }, type := ty, pos, after, guard } (yielded ops a.tmps) = true)
    (hf : P.funcs[f]? = some fn) (hb : fn.body ≠ none) (hn : fn.name ≠ "runtime.NumGoroutine") (args : Array Value) (ha : args.toList = xs.toList.map a.eval)
    (h1 : ∀ w, Ext W0 w → (∀ i, Region.waitsFor md ops k i = true → Φ i w) → Calls P f args w (fun e w'' => ∃ v, e = .returned v ∧ Ext w w'' ∧ r v w''))
    (h2 : ∀ v w, Ext W0 w → (∀ i, Φ i w) → r v w → walk P md ops W0 R Q l (k + 1) (add Φ k (r v)) (a.put dst v)) :
    walk P md ops W0 R Q ({ dst, op := .call { callee := .value (.func f), args := xs, argTypes := ats }, type := ty, pos, after, guard } :: l) k Φ a :=
  call r hk hr hw (fun w h3 h4 => by
    have e : (execOp a.eval { dst, op := .call { callee := .value (.func f), args := xs, argTypes := ats }, type := ty, pos, after, guard }).run P w = .ok (.enter f args) w := by
      have ha' : xs.map a.eval = args := Array.ext' (by rw [ha]; simp)
      rw [execOp_call_go, ha']
      simp [callFunc, hf, hb, hn, Sem.run_bind]
    unfold leaves
    rw [e]
    exact ⟨rfl, h1 w h3 h4⟩) h2
/-- an operation that reads what such a call has made -/
theorem dep {Q : Facts → Act → Prop} {o : Oper} {l : List Oper} {k : Nat} {Φ : Facts} {a : Act} (v0 : Value) (hk : ops[k]? = some o) (hr : R k = none) (hp : pureB o = true) (hw : Region.wanted o (yielded ops a.tmps) = true)
    (h1 : ∀ w, Ext W0 w → (∀ i, Region.waitsFor md ops k i = true → Φ i w) → (execOp a.eval o).run P w = .ok (.value v0) w)
    (h2 : walk P md ops W0 R Q l (k + 1) Φ (a.put o.dst v0)) : walk P md ops W0 R Q (o :: l) k Φ a :=
  ⟨o, _, _, hk, .exact v0 hw hr hp (fun w hc => by unfold Oper.quietAt; rw [h1 w hc.1 hc.2]; exact ⟨rfl, rfl⟩), fun v hv => by subst hv; rw [add_true]; exact h2⟩
theorem run_convert {P : Program} {ρ : Operand → Value} {o : Oper} {s d : TypeId} {x : Operand} {w : World} (y : Value) {v0 : Value} (ho : o.op = .convert s d x) (hy : ρ x = y) (h : (convert s d y).run P w = .ok v0 w) : (execOp ρ o).run P w = .ok (.value v0) w := by
  unfold execOp; simp only [ho, hy, Sem.run_bind, h]; rfl
theorem fin {Q : Facts → Act → Prop} {k : Nat} {Φ : Facts} {a : Act} (h : Q Φ a) : walk P md ops W0 R Q [] k Φ a := h
end
end Rel
end Go.Proofs.Ytonnlcjkgpahoaa
