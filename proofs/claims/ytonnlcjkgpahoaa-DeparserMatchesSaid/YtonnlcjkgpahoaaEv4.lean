/- The environment: what shape it has, walked: the package and its reference. No condition. -/
import Derived.Test.YtonnlcjkgpahoaaEv3
namespace Go.Proofs.Ytonnlcjkgpahoaa
open Go.RowKit

namespace Pg
/-- the four values of an environment -/
structure EForm (w : World) (e : EV) (E : Env) (b0 b1 b2 b3 : Option Addr) (d0 d1 d2 d3 : Nat) : Prop where
  e : e = ⟨.slice b0 E.va.length d0, .slice b1 E.fi.length d1, .slice b2 E.me.length d2, .slice b3 E.pl.length d3⟩
  va : Bs w (.slice b0 E.va.length d0) E.va
  fi : Rows w 1 RowR (.slice b1 E.fi.length d1) E.fi
  me : Ns .u32 w (.slice b2 E.me.length d2) E.me ∧ ∀ x ∈ E.me, U32 x
  pl : Ns .u8 w (.slice b3 E.pl.length d3) E.pl ∧ Io.Bytes E.pl
  l0 : E.va.length ≤ 9223372036854775807
  l1 : E.fi.length ≤ 9223372036854775807
  l2 : E.me.length ≤ 9223372036854775807
  l3 : E.pl.length ≤ 9223372036854775807
theorem IsE.form {w : World} {e : EV} {E : Env} (h : IsE w e E) : ∃ b0 b1 b2 b3 d0 d1 d2 d3, EForm w e E b0 b1 b2 b3 d0 d1 d2 d3 := by
  obtain ⟨c0, c1, c2, c3⟩ := e
  obtain ⟨h0, h1, h2, h3⟩ := h
  dsimp only at h0 h1 h2 h3
  obtain ⟨b0, d0, rfl⟩ := bs_slice h0
  obtain ⟨b1, d1, rfl, l1, l1'⟩ := h1.slice
  obtain ⟨b2, d2, rfl⟩ := ns_slice h2.1
  obtain ⟨b3, d3, rfl⟩ := ns_slice h3.1
  have z0 := h0.2
  have z2 := h2.1.2
  have z3 := h3.1.2
  unfold maxLen at l1' z0 z2 z3
  exact ⟨b0, b1, b2, b3, d0, d1, d2, d3, ⟨rfl, h0, h1, h2, h3, by omega, by omega, by omega, by omega⟩⟩
end Pg

set_option maxRecDepth 8000 in
set_option maxHeartbeats 1000000 in
theorem shaped_any {W : World} {p : Pg.PV} {P : Pg.Prog} {e : Pg.EV} {E : Pg.Env} (hp : Pg.IsP W p P) (he : Pg.IsE W e E) :
    Calls Try.prog 96 #[p.val, e.val] W (Rets W (.bool (Pg.shB P E))) := by
  obtain ⟨s, a1, a2, a3, a4, a5, a6, a7, a8, m1, m2, n3, m3, n4, m4, n5, m5, n6, m6, n7, m7, m8, hf⟩ := hp.form
  obtain ⟨rfl, hhs, hmd, _, hl1, hl2, _⟩ := hf
  obtain ⟨b0, b1, b2, b3, d0, d1, d2, d3, hg⟩ := he.form
  obtain ⟨rfl, hva, hfi, hme, hpl, g0, g1, g2, g3⟩ := hg
  dsimp only [Pg.PV.val, Pg.EV.val]
  have bb := alloc_heap W (.cells #[.string s, .slice a1 P.hs.length m1, .slice a2 P.md.length m2, .slice a3 n3 m3, .slice a4 n4 m4, .slice a5 n5 m5, .slice a6 n6 m6, .slice a7 n7 m7, .slice a8 P.dp.length m8] 31)
  have k0 := alw (cell_of (o := 0) bb)
  have k1 := alw (cell_of (o := 1) bb)
  have k2 := alw (cell_of (o := 2) bb)
  have k3 := alw (cell_of (o := 3) bb)
  have k4 := alw (cell_of (o := 4) bb)
  have k5 := alw (cell_of (o := 5) bb)
  have k6 := alw (cell_of (o := 6) bb)
  have k7 := alw (cell_of (o := 7) bb)
  have k8 := alw (cell_of (o := 8) bb)
  have be := alloc_heap (W.alloc (.cells #[.string s, .slice a1 P.hs.length m1, .slice a2 P.md.length m2, .slice a3 n3 m3, .slice a4 n4 m4, .slice a5 n5 m5, .slice a6 n6 m6, .slice a7 n7 m7, .slice a8 P.dp.length m8] 31)) (.cells #[.slice b0 E.va.length d0, .slice b1 E.fi.length d1, .slice b2 E.me.length d2, .slice b3 E.pl.length d3] 37)
  rw [World.size_alloc] at be
  have j0 := alw (cell_of (o := 0) be)
  have j1 := alw (cell_of (o := 1) be)
  have j2 := alw (cell_of (o := 2) be)
  have j3 := alw (cell_of (o := 3) be)
  have HHS := Lib.hid hhs
  have HFI := Lib.hid hfi
  clear bb be hp he hhs hmd hva hfi hme hpl k0 k3 k4 k5 k6 k7 k8 j3
  by_cases h1 : E.va.length = P.hs.length
  · have h1b : ((E.va.length : Int) != P.hs.length) = false := by simp [h1]
    by_cases h2 : E.fi.length = P.hs.length
    · have h2b : ((E.fi.length : Int) != P.hs.length) = false := by simp [h2]
      by_cases h3 : E.me.length = P.md.length
      · have h3b : ((E.me.length : Int) != P.md.length) = false := by simp [h3]
        have hr : Pg.shB P E = (List.range E.fi.length).all fun h => decide ((E.fi.getD h []).length = (P.hs.getD h (⟨#[]⟩, [])).2.length) := by unfold Pg.shB; rw [decide_eq_true h1, decide_eq_true h2, decide_eq_true h3]; rfl
        have HR := Lib.hid hr
        have hle : E.fi.length ≤ P.hs.length := by omega
        have hge : P.hs.length ≤ E.fi.length := by omega
        have H2 := Lib.hid h2
        clear h1 h2 h3 hr
        go_enter Try.func96, Try.ntmps96
        go_wp2_with fail
        go_loopw [35] (fun i wr => ∃ k : Nat, k ≤ E.fi.length ∧ i = .int .i64 k ∧ Ext ((W.alloc (.cells #[.string s, .slice a1 P.hs.length m1, .slice a2 P.md.length m2, .slice a3 n3 m3, .slice a4 n4 m4, .slice a5 n5 m5, .slice a6 n6 m6, .slice a7 n7 m7, .slice a8 P.dp.length m8] 31)).alloc (.cells #[.slice b0 E.va.length d0, .slice b1 E.fi.length d1, .slice b2 E.me.length d2, .slice b3 E.pl.length d3] 37)) wr ∧ Hid (∀ j, j < k → decide ((E.fi.getD j []).length = (P.hs.getD j (⟨#[]⟩, [])).2.length) = true)) (fun i _ => E.fi.length - (intOf i).toNat)
        case atStart => exact ⟨0, Nat.zero_le _, rfl, Ext.refl _, Lib.hid (by intro j hj; omega)⟩
        case round =>
          obtain ⟨k, hk, rfl, hx, HZ⟩ := hrel
          have sx := Step.mk hx
          by_cases hlt : k < E.fi.length
          · obtain ⟨l, hlk⟩ : ∃ x, E.fi[k]? = some x := ⟨_, List.getElem?_eq_getElem hlt⟩
            obtain ⟨⟨hn, fs⟩, hhk⟩ : ∃ x, P.hs[k]? = some x := ⟨_, List.getElem?_eq_getElem (by omega)⟩
            obtain ⟨ba, oa, hoa, _, _⟩ := Rows.at HFI.out (by omega)
            subst hoa
            obtain ⟨bh, oh, hoh, _, _⟩ := Rows.at HHS.out (by omega)
            subst hoh
            obtain ⟨la, lc, p0, pl, _⟩ := rows_at HFI.out k l hlk rfl
            obtain ⟨fa, fc, q0, q1, _, qf, qc, qm⟩ := hdrs_at HHS.out k hn fs hhk rfl
            have hgl : E.fi.getD k [] = l := by rw [List.getD_eq_getElem?_getD, hlk]; rfl
            have hgh : P.hs.getD k (⟨#[]⟩, []) = (hn, fs) := by rw [List.getD_eq_getElem?_getD, hhk]; rfl
            have HGL := Lib.hid hgl
            have HGH := Lib.hid hgh
            have hlm := pl.2
            unfold maxLen at hlm qm
            have hk2 : k < P.hs.length := by omega
            clear hlk hhk hgl hgh pl qf
            by_cases heq : l.length = fs.length
            · have heb : ((l.length : Int) != fs.length) = false := by simp [heq]
              have HEQ := Lib.hid heq
              clear heq
              go_wp2_with fail
              go_roundw
              case rel =>
                refine ⟨k + 1, by omega, by go_num, by exact hx, Lib.hid (fun j hj => ?_)⟩
                rcases Nat.lt_or_ge j k with h1 | h1
                · exact HZ.out j h1
                · obtain rfl : j = k := by omega
                  rw [HGL.out, HGH.out]; simpa using HEQ.out
              case measure => simp [intOf]; omega
            · have heb : ((l.length : Int) != fs.length) = true := by simp; omega
              have HEQ := Lib.hid heq
              clear heq
              go_wp2_with fail
              go_ret
              exact ⟨ret_bool (by rw [HR.out, Pg.all_no hlt (by rw [HGL.out, HGH.out]; simpa using HEQ.out)]), grows⟩
          · obtain rfl : k = E.fi.length := by omega
            go_wp2_with fail
            go_ret
            exact ⟨ret_bool (by rw [HR.out, Pg.all_yes HZ.out]), grows⟩
      · have h3b : ((E.me.length : Int) != P.md.length) = true := by simp; omega
        have HR : Hid (Pg.shB P E = false) := Lib.hid (by unfold Pg.shB; rw [decide_eq_false h3]; simp)
        clear h1 h2 h3
        go_enter Try.func96, Try.ntmps96
        go_wp2_with fail
        go_ret
        exact ⟨ret_bool (by rw [HR.out]), grows⟩
    · have h2b : ((E.fi.length : Int) != P.hs.length) = true := by simp; omega
      have HR : Hid (Pg.shB P E = false) := Lib.hid (by unfold Pg.shB; rw [decide_eq_false h2]; simp)
      clear h1 h2
      go_enter Try.func96, Try.ntmps96
      go_wp2_with fail
      go_ret
      exact ⟨ret_bool (by rw [HR.out]), grows⟩
  · have h1b : ((E.va.length : Int) != P.hs.length) = true := by simp; omega
    have HR : Hid (Pg.shB P E = false) := Lib.hid (by unfold Pg.shB; rw [decide_eq_false h1]; simp)
    clear h1
    go_enter Try.func96, Try.ntmps96
    go_wp2_with fail
    go_ret
    exact ⟨ret_bool (by rw [HR.out]), grows⟩

set_option maxRecDepth 8000 in
set_option maxHeartbeats 1000000 in
theorem rshaped_any {W : World} {p : Pg.PV} {P : Pg.Prog} {e : Pg.EV} {E : Pg.Env} (hp : Pg.IsP W p P) (he : Pg.IsE W e E) :
    Calls Try.prog 57 #[p.val, e.val] W (Rets W (.bool (Pg.shB P E))) := by
  obtain ⟨s, a1, a2, a3, a4, a5, a6, a7, a8, m1, m2, n3, m3, n4, m4, n5, m5, n6, m6, n7, m7, m8, hf⟩ := hp.form
  obtain ⟨rfl, hhs, hmd, _, hl1, hl2, _⟩ := hf
  obtain ⟨b0, b1, b2, b3, d0, d1, d2, d3, hg⟩ := he.form
  obtain ⟨rfl, hva, hfi, hme, hpl, g0, g1, g2, g3⟩ := hg
  dsimp only [Pg.PV.val, Pg.EV.val]
  have bb := alloc_heap W (.cells #[.string s, .slice a1 P.hs.length m1, .slice a2 P.md.length m2, .slice a3 n3 m3, .slice a4 n4 m4, .slice a5 n5 m5, .slice a6 n6 m6, .slice a7 n7 m7, .slice a8 P.dp.length m8] 31)
  have k0 := alw (cell_of (o := 0) bb)
  have k1 := alw (cell_of (o := 1) bb)
  have k2 := alw (cell_of (o := 2) bb)
  have k3 := alw (cell_of (o := 3) bb)
  have k4 := alw (cell_of (o := 4) bb)
  have k5 := alw (cell_of (o := 5) bb)
  have k6 := alw (cell_of (o := 6) bb)
  have k7 := alw (cell_of (o := 7) bb)
  have k8 := alw (cell_of (o := 8) bb)
  have be := alloc_heap (W.alloc (.cells #[.string s, .slice a1 P.hs.length m1, .slice a2 P.md.length m2, .slice a3 n3 m3, .slice a4 n4 m4, .slice a5 n5 m5, .slice a6 n6 m6, .slice a7 n7 m7, .slice a8 P.dp.length m8] 31)) (.cells #[.slice b0 E.va.length d0, .slice b1 E.fi.length d1, .slice b2 E.me.length d2, .slice b3 E.pl.length d3] 37)
  rw [World.size_alloc] at be
  have j0 := alw (cell_of (o := 0) be)
  have j1 := alw (cell_of (o := 1) be)
  have j2 := alw (cell_of (o := 2) be)
  have j3 := alw (cell_of (o := 3) be)
  have HHS := Lib.hid hhs
  have HFI := Lib.hid hfi
  clear bb be hp he hhs hmd hva hfi hme hpl k0 k3 k4 k5 k6 k7 k8 j3
  by_cases h1 : E.va.length = P.hs.length
  · have h1b : ((E.va.length : Int) != P.hs.length) = false := by simp [h1]
    by_cases h2 : E.fi.length = P.hs.length
    · have h2b : ((E.fi.length : Int) != P.hs.length) = false := by simp [h2]
      by_cases h3 : E.me.length = P.md.length
      · have h3b : ((E.me.length : Int) != P.md.length) = false := by simp [h3]
        have hr : Pg.shB P E = (List.range E.fi.length).all fun h => decide ((E.fi.getD h []).length = (P.hs.getD h (⟨#[]⟩, [])).2.length) := by unfold Pg.shB; rw [decide_eq_true h1, decide_eq_true h2, decide_eq_true h3]; rfl
        have HR := Lib.hid hr
        have hle : E.fi.length ≤ P.hs.length := by omega
        have hge : P.hs.length ≤ E.fi.length := by omega
        have H2 := Lib.hid h2
        clear h1 h2 h3 hr
        go_enter Try.func57, Try.ntmps57
        go_wp2_with fail
        go_loopw [5] (fun i wr => ∃ k : Nat, k ≤ E.fi.length ∧ i = .int .i64 k ∧ Ext ((W.alloc (.cells #[.string s, .slice a1 P.hs.length m1, .slice a2 P.md.length m2, .slice a3 n3 m3, .slice a4 n4 m4, .slice a5 n5 m5, .slice a6 n6 m6, .slice a7 n7 m7, .slice a8 P.dp.length m8] 31)).alloc (.cells #[.slice b0 E.va.length d0, .slice b1 E.fi.length d1, .slice b2 E.me.length d2, .slice b3 E.pl.length d3] 37)) wr ∧ Hid (∀ j, j < k → decide ((E.fi.getD j []).length = (P.hs.getD j (⟨#[]⟩, [])).2.length) = true)) (fun i _ => E.fi.length - (intOf i).toNat)
        case atStart => exact ⟨0, Nat.zero_le _, rfl, Ext.refl _, Lib.hid (by intro j hj; omega)⟩
        case round =>
          obtain ⟨k, hk, rfl, hx, HZ⟩ := hrel
          have sx := Step.mk hx
          by_cases hlt : k < E.fi.length
          · obtain ⟨l, hlk⟩ : ∃ x, E.fi[k]? = some x := ⟨_, List.getElem?_eq_getElem hlt⟩
            obtain ⟨⟨hn, fs⟩, hhk⟩ : ∃ x, P.hs[k]? = some x := ⟨_, List.getElem?_eq_getElem (by omega)⟩
            obtain ⟨ba, oa, hoa, _, _⟩ := Rows.at HFI.out (by omega)
            subst hoa
            obtain ⟨bh, oh, hoh, _, _⟩ := Rows.at HHS.out (by omega)
            subst hoh
            obtain ⟨la, lc, p0, pl, _⟩ := rows_at HFI.out k l hlk rfl
            obtain ⟨fa, fc, q0, q1, _, qf, qc, qm⟩ := hdrs_at HHS.out k hn fs hhk rfl
            have hgl : E.fi.getD k [] = l := by rw [List.getD_eq_getElem?_getD, hlk]; rfl
            have hgh : P.hs.getD k (⟨#[]⟩, []) = (hn, fs) := by rw [List.getD_eq_getElem?_getD, hhk]; rfl
            have HGL := Lib.hid hgl
            have HGH := Lib.hid hgh
            have hlm := pl.2
            unfold maxLen at hlm qm
            have hk2 : k < P.hs.length := by omega
            clear hlk hhk hgl hgh pl qf
            by_cases heq : l.length = fs.length
            · have heb : ((l.length : Int) != fs.length) = false := by simp [heq]
              have HEQ := Lib.hid heq
              clear heq
              go_wp2_with fail
              refine wp_region_later (W := wr) (by kernel_rfl) (by kernel_rfl) (Ext.refl _) ?_
              repeat (go_big_quiet_step (fail))
              refine wpQuiet_nil ?_
              intro w2 hx2
              have s2 := Step.mk hx2
              go_wp2_with fail
              go_roundw
              case rel =>
                refine ⟨k + 1, by omega, by go_num, by exact (hx.trans hx2), Lib.hid (fun j hj => ?_)⟩
                rcases Nat.lt_or_ge j k with h1 | h1
                · exact HZ.out j h1
                · obtain rfl : j = k := by omega
                  rw [HGL.out, HGH.out]; simpa using HEQ.out
              case measure => simp [intOf]; omega
            · have heb : ((l.length : Int) != fs.length) = true := by simp; omega
              have HEQ := Lib.hid heq
              clear heq
              go_wp2_with fail
              refine wp_region_later (W := wr) (by kernel_rfl) (by kernel_rfl) (Ext.refl _) ?_
              repeat (go_big_quiet_step (fail))
              refine wpQuiet_nil ?_
              intro w2 hx2
              have s2 := Step.mk hx2
              go_wp2_with fail
              go_ret
              exact ⟨ret_bool (by rw [HR.out, Pg.all_no hlt (by rw [HGL.out, HGH.out]; simpa using HEQ.out)]), grows⟩
          · obtain rfl : k = E.fi.length := by omega
            go_wp2_with fail
            go_ret
            exact ⟨ret_bool (by rw [HR.out, Pg.all_yes HZ.out]), grows⟩
      · have h3b : ((E.me.length : Int) != P.md.length) = true := by simp; omega
        have HR : Hid (Pg.shB P E = false) := Lib.hid (by unfold Pg.shB; rw [decide_eq_false h3]; simp)
        clear h1 h2 h3
        go_enter Try.func57, Try.ntmps57
        go_wp2_with fail
        go_ret
        exact ⟨ret_bool (by rw [HR.out]), grows⟩
    · have h2b : ((E.fi.length : Int) != P.hs.length) = true := by simp; omega
      have HR : Hid (Pg.shB P E = false) := Lib.hid (by unfold Pg.shB; rw [decide_eq_false h2]; simp)
      clear h1 h2
      go_enter Try.func57, Try.ntmps57
      go_wp2_with fail
      go_ret
      exact ⟨ret_bool (by rw [HR.out]), grows⟩
  · have h1b : ((E.va.length : Int) != P.hs.length) = true := by simp; omega
    have HR : Hid (Pg.shB P E = false) := Lib.hid (by unfold Pg.shB; rw [decide_eq_false h1]; simp)
    clear h1
    go_enter Try.func57, Try.ntmps57
    go_wp2_with fail
    go_ret
    exact ⟨ret_bool (by rw [HR.out]), grows⟩
end Go.Proofs.Ytonnlcjkgpahoaa
