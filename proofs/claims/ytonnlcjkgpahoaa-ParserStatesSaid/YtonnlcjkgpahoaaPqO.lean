/- Parsers: the law States, walked. No condition. -/
import Derived.Test.YtonnlcjkgpahoaaPqN
import Derived.Test.YtonnlcjkgpahoaaPqD
namespace Go.Proofs.Ytonnlcjkgpahoaa
open Go.RowKit

namespace Ps
theorem mark1_snoc (ex : List Int) (h : Int) (v : List Bool) : mark1 (ex ++ [h]) v = (mark1 ex v).set h.toNat true := by
  unfold mark1; rw [List.foldl_append]; rfl
theorem take_snoc {l : List Int} {i : Nat} {y : Int} (h : l[i]? = some y) : l.take (i + 1) = l.take i ++ [y] := by
  rw [List.take_add_one, h]; rfl
theorem vaAt_in {l : List Bool} {h : Nat} {b : Bool} (hb : l[h]? = some b) : En.vaAt l (h : Int) = b := by
  unfold En.vaAt
  rw [if_pos (Int.natCast_nonneg h), Int.toNat_natCast, List.getD_eq_getElem?_getD, hb]; rfl
theorem wrap_nat {j n : Nat} (h : j < n) (hn : n ≤ maxLen) : wrap64 (j : Int) = (j : Int) := by
  unfold maxLen at hn
  unfold wrap64; omega
theorem mark1_len (ex : List Int) : ∀ (v : List Bool), (mark1 ex v).length = v.length := by
  induction ex with
  | nil => intro v; rfl
  | cons h r ih => intro v; show (mark1 r (v.set h.toNat true)).length = _; rw [ih, List.length_set]
theorem marks_len (ss : List St) (ent : List Int) : ∀ (v : List Bool), (marks ss ent v).length = v.length := by
  induction ent with
  | nil => intro v; rfl
  | cons s r ih => intro v; show (marks ss r (mark1 (ss.getD s.toNat st0).ex v)).length = _; rw [ih, mark1_len]
end Ps
set_option maxRecDepth 8000 in
set_option maxHeartbeats 8000000 in
theorem states_ok {W : World} {p : Pg.PV} {P : Pg.Prog} {ss : List Ps.St} (hq : Ps.IsQ W p P ss) (hok : Ps.okQ P ss = true) {da : Option Addr} {dc : Nat} {l : List Int} (hsrc : Src W (.slice da l.length dc) 1 l.length (u8s l)) (hby : Io.Bytes l) (hl6 : l.length ≤ 600) {RE : Pg.Env} {RL : List Int} {RF : Int} (hR : (RE, RL, RF) = Ps.parse P ss l) (hb : Ps.bad P ss l.length = 0) (hf : RF = 0) : Calls Try.prog 9 #[p.val, .slice da l.length dc] W (Rets W (.bool true)) := by
  obtain ⟨s, a1, a2, a3, a4, a5, a6, a7, a8, m1, m2, n3, m3, n4, m4, n5, m5, n6, m6, n7, m7, m8, hf⟩ := hq.1.form
  obtain ⟨rfl, hhs, hmd, _, hl1, hl2, _⟩ := hf
  have hss := hq.2
  dsimp only at hss
  obtain ⟨a6', m6', e6, hl6, hc6⟩ := hss.slice
  simp only [Value.slice.injEq] at e6
  obtain ⟨rfl, rfl, rfl⟩ := e6
  unfold maxLen at hc6
  have HTL : Hid (∀ w, Ext W w → Calls Try.prog 21 #[.agg #[.string s, .slice a1 P.hs.length m1, .slice a2 P.md.length m2, .slice a3 n3 m3, .slice a4 n4 m4, .slice a5 n5 m5, .slice a6 ss.length m6, .slice a7 n7 m7, .slice a8 P.dp.length m8]] w (Rets w (.bool false))) := Lib.hid (fun w hx => by have h := qtoolarge_any (hq.ext hx); rw [hok] at h; exact h)
  have bx := alloc_heap W (.cells #[.string s, .slice a1 P.hs.length m1, .slice a2 P.md.length m2, .slice a3 n3 m3, .slice a4 n4 m4, .slice a5 n5 m5, .slice a6 ss.length m6, .slice a7 n7 m7, .slice a8 P.dp.length m8] 31)
  have pc0 := alw (cell_of (o := 0) bx)
  have pc1 := alw (cell_of (o := 1) bx)
  have pc2 := alw (cell_of (o := 2) bx)
  have pc3 := alw (cell_of (o := 3) bx)
  have pc4 := alw (cell_of (o := 4) bx)
  have pc5 := alw (cell_of (o := 5) bx)
  have pc6 := alw (cell_of (o := 6) bx)
  have pc7 := alw (cell_of (o := 7) bx)
  have pc8 := alw (cell_of (o := 8) bx)
  clear bx
  have hcp := Ps.okQ_cap hok
  have hcp1 := hcp.1
  have g1 : decide ((600 : Int) < (l.length : Int)) = false := decide_eq_false (by omega)
  have HP1 : Hid (∀ w, Ext W w → Calls Try.prog 25 #[.agg #[.string s, .slice a1 P.hs.length m1, .slice a2 P.md.length m2, .slice a3 n3 m3, .slice a4 n4 m4, .slice a5 n5 m5, .slice a6 ss.length m6, .slice a7 n7 m7, .slice a8 P.dp.length m8], .slice da l.length dc] w (ParseP w (RE, RL, RF))) := Lib.hid (fun w hx  => by have h := pparse_any (hq.ext hx) hcp (hsrc.ext hx) hby (by omega); rw [← hR] at h; exact h)
  have HS1 : Hid (∀ w, Ext W w → Calls Try.prog 29 #[.agg #[.string s, .slice a1 P.hs.length m1, .slice a2 P.md.length m2, .slice a3 n3 m3, .slice a4 n4 m4, .slice a5 n5 m5, .slice a6 ss.length m6, .slice a7 n7 m7, .slice a8 P.dp.length m8], .slice da l.length dc] w (StatesP w (RE, RL, RF))) := Lib.hid (fun w hx  => by have h := pstates_any (hq.ext hx) hcp (hsrc.ext hx) hby (by omega); rw [← hR] at h; exact h)
  have HQ := Lib.hid hq
  have HCP := Lib.hid hcp
  have HSS := Lib.hid hss
  have hmb := mk_bools P.hs.length (by omega)
  have HR := Lib.hid hR
  clear hq hhs hmd hss hok hsrc hby hcp
  subst hf
  have ha := Ps.parse_ans (l := l) hb
  obtain ⟨hgood, _⟩ := Ps.bad_ok hb
  rw [← hR] at ha
  dsimp only at ha
  have HA := Lib.hid ha
  obtain ⟨gp, _, ghd, gst⟩ := hgood
  have GST := Lib.hid gst
  have GHD := Lib.hid ghd
  have hne := ha.ne
  have hrl : 0 < RL.length := List.length_pos_iff.2 hne
  obtain ⟨ab, ao, rfl, _, _⟩ := Rows.at HSS.out gp
  clear hR hb ha gst ghd hne
  dsimp only [Pg.PV.val]
  go_enter Try.func9, Try.ntmps9
  go_wp2_with fail
  refine (HTL.out _ grows).mono ?_
  rintro e w1 ⟨rfl, xw1⟩
  have sw1 := Step.mk xw1
  clear xw1
  go_wp2_with fail
  refine (HP1.out _ grows).mono ?_
  rintro e w2 ⟨ev2, vs2, rfl, x2, o2⟩
  dsimp only at o2
  have I2 := Lib.hid o2.isE
  obtain ⟨y20, y21, y22, y23, z20, z21, z22, z23, hg⟩ := o2.isE.form
  obtain ⟨rfl, _, _, _, _, _, _, _, _⟩ := hg
  dsimp only [Pg.EV.val]
  have s2 := Step.mk x2
  have be := alloc_heap w2 (.cells #[.slice y20 RE.va.length z20, .slice y21 RE.fi.length z21, .slice y22 RE.me.length z22, .slice y23 RE.pl.length z23] 37)
  have qc20 := alw (cell_of (o := 0) be)
  have qc21 := alw (cell_of (o := 1) be)
  have qc22 := alw (cell_of (o := 2) be)
  have qc23 := alw (cell_of (o := 3) be)
  clear be x2 o2
  go_wp2_with fail
  refine (HS1.out _ grows).mono ?_
  rintro e w3 ⟨sv, rfl, x3, o3⟩
  dsimp only at o3
  obtain ⟨oas, csv, rfl⟩ := own_slice o3
  have s3 := Step.mk x3
  have N3 : Hid (Ns .i64 w3 (.slice oas RL.length csv) RL) := Lib.hid ⟨own_src o3 (i64s_one _), own_max o3⟩
  have OG : Hid ((w3.alloc (.cells (madeCells #[.bool false] P.hs.length) 4)).ownsRow w3.heap.size 4 1 (.slice (some ⟨w3.heap.size, 0, none⟩) P.hs.length P.hs.length) P.hs.length ((List.replicate P.hs.length false).map .bool)) := Lib.hid (by have h := own_fresh (alloc_heap w3 (.cells (madeCells #[.bool false] P.hs.length) 4)) (Nat.le_refl _) (show P.hs.length ≤ maxLen by unfold maxLen; omega); simpa using h)
  clear x3 o3
  go_wp2_with fail
  go_loopw [9] (fun z wr => ∃ i : Nat, i ≤ RL.length ∧ z = .int .i64 i ∧ Hid (Ext w3 wr ∧ wr.ownsRow w3.heap.size 4 1 (.slice (some ⟨w3.heap.size, 0, none⟩) P.hs.length P.hs.length) P.hs.length ((Ps.marks ss (RL.take i) (List.replicate P.hs.length false)).map .bool))) (fun z _ => RL.length - (intOf z).toNat)
  case atStart => exact ⟨0, Nat.zero_le _, rfl, Lib.hid ⟨grows, OG.out⟩⟩
  case round =>
    obtain ⟨i, hi, rfl, HI⟩ := hrel
    obtain ⟨hx, hg⟩ := HI.out
    obtain ⟨wo, rfl⟩ : ∃ z : World, z = wr := ⟨_, rfl⟩
    have sx := Step.mk hx
    have HX := Lib.hid hx
    have HG := Lib.hid hg
    clear HI hx hg
    by_cases hlt : i < RL.length
    · obtain ⟨y, hy⟩ : ∃ y, RL[i]? = some y := ⟨_, List.getElem?_eq_getElem hlt⟩
      obtain ⟨sl, hasc⟩ := HA.out.asc
      obtain ⟨y0', y1', _⟩ := hasc.bd y (List.mem_of_getElem? hy)
      obtain ⟨yn, rfl⟩ := Int.eq_ofNat_of_zero_le y0'
      have hyl : yn < ss.length := by omega
      obtain ⟨x, hxk⟩ : ∃ z, ss[yn]? = some z := ⟨_, List.getElem?_eq_getElem hyl⟩
      obtain ⟨ea, ec, ca, cc, hnm, hex, hcs, hcl, hcm, u0', u1', u2', u3', u4', u5', u6'⟩ := st_at HSS.out yn x hxk rfl
      have yy1 := alw u1'
      have SO := Lib.hid (GST.out yn x hxk)
      have HEX := Lib.hid hex
      have HXK := Lib.hid hxk
      have HTY := Lib.hid (Ps.take_snoc hy)
      obtain ⟨sb, so, rfl, n1⟩ := ns_at N3.out (by omega)
      have r1 := n1 i _ hy
      have hem := hex.2
      unfold maxLen at hem
      have d1 : decide ((yn : Int) < 0) = false := decide_eq_false (by omega)
      have d2 : decide ((ss.length : Int) ≤ (yn : Int)) = false := decide_eq_false (by omega)
      have d2n : decide (ss.length ≤ yn) = false := decide_eq_false (by omega)
      cases i with
      | zero =>
        have e0 := hasc.z _ hy
        obtain rfl : yn = 0 := by omega
        have r1z : ∀ w' [Grows w3 w'], w'.cell? ⟨sb, so, none⟩ = some (.int .i64 0) := fun w' _ => r1 w'
        have yyz : ∀ w' [Grows W w'], w'.cell? ⟨ab, ao + 1, none⟩ = some (.slice ea x.ex.length ec) := fun w' _ => by have h := yy1 w'; rwa [show ao + 0 * 7 + 1 = ao + 1 by omega] at h
        have d2z : decide ((ss.length : Int) ≤ 0) = false := decide_eq_false (by omega)
        have hssn : ss ≠ [] := List.length_pos_iff.1 gp
        have hss0 : ¬ ss.length = 0 := by omega
        clear r1 yy1 d1 d2
        clear hasc hy y0' y1' u0' u1' u2' u3' u4' u5' u6' hxk hex hcs hnm n1 e0
        go_wp2_with fail
        refine wp_region_later (W := wo) (by kernel_rfl) (by kernel_rfl) (Ext.refl _) ?_
        repeat (go_big_quiet_step (fail))
        refine wpQuiet_nil ?_
        intro w5 x5
        have s5 := Step.mk x5
        clear x5
        go_wp2_with fail
        refine wp_region_later (W := w5) (by kernel_rfl) (by kernel_rfl) (Ext.refl _) ?_
        repeat (go_big_quiet_step (fail))
        refine wpQuiet_nil ?_
        intro w6 x6
        have s6 := Step.mk x6
        have X36 : Hid (Ext w3 w6) := Lib.hid grows
        have HG6 := Lib.hid (own_ext HG.out (show Ext wo w6 from grows))
        clear x6
        go_wp2_with fail
        go_loopw [11] (fun z wr => ∃ k : Nat, k ≤ x.ex.length ∧ z = .int .i64 k ∧ Hid (Ext w3 wr ∧ wr.ownsRow w3.heap.size 4 1 (.slice (some ⟨w3.heap.size, 0, none⟩) P.hs.length P.hs.length) P.hs.length ((Ps.mark1 (x.ex.take k) (Ps.marks ss (RL.take 0) (List.replicate P.hs.length false))).map .bool))) (fun z _ => x.ex.length - (intOf z).toNat)
        case atStart => exact ⟨0, Nat.zero_le _, rfl, Lib.hid ⟨X36.out, HG6.out⟩⟩
        case round =>
          obtain ⟨k, hk, rfl, HJ⟩ := hrel
          obtain ⟨hxk, hgk⟩ := HJ.out
          obtain ⟨wq, rfl⟩ : ∃ z : World, z = wr := ⟨_, rfl⟩
          clear s6 sx s5
          have sxk := Step.mk hxk
          have HXK3 := Lib.hid hxk
          have HGK := Lib.hid hgk
          clear HJ hxk hgk
          by_cases hkl : k < x.ex.length
          · obtain ⟨h, hh⟩ : ∃ y, x.ex[k]? = some y := ⟨_, List.getElem?_eq_getElem hkl⟩
            obtain ⟨h0, h1⟩ := SO.out.ex k h hh
            obtain ⟨hn, rfl⟩ := Int.eq_ofNat_of_zero_le h0
            have hnl : hn < P.hs.length := by omega
            obtain ⟨eb, eo, rfl, n2⟩ := ns_at HEX.out (by omega)
            have r2 := n2 k _ hh
            obtain ⟨g', c', e', ga, gb, _⟩ := own_at HGK.out (k := hn) (x := .bool ((Ps.mark1 (x.ex.take k) (Ps.marks ss (RL.take 0) (List.replicate P.hs.length false))).getD hn false)) (by
              rw [List.getElem?_map, List.getElem?_eq_getElem (by rw [Ps.mark1_len, Ps.marks_len, List.length_replicate]; exact hnl), List.getD_eq_getElem?_getD, List.getElem?_eq_getElem (by rw [Ps.mark1_len, Ps.marks_len, List.length_replicate]; exact hnl)]; rfl)
            simp only [Value.slice.injEq, Option.some.injEq, Addr.mk.injEq, and_true, true_and] at e'
            obtain ⟨rfl, rfl⟩ := e'
            have HTK := Lib.hid (Ps.take_snoc hh)
            have d1 : decide ((hn : Int) < 0) = false := decide_eq_false (by omega)
            have d2 : decide ((P.hs.length : Int) ≤ (hn : Int)) = false := decide_eq_false (by omega)
            obtain ⟨bo, hbo⟩ : ∃ z, z = (Ps.mark1 (x.ex.take k) (Ps.marks ss (RL.take 0) (List.replicate P.hs.length false))).getD hn false := ⟨_, rfl⟩
            rw [← hbo] at ga
            clear n2 hh hbo h0 h1
            go_wp2_with fail
            go_roundw
            case rel =>
              refine ⟨k + 1, by omega, by go_num, Lib.hid ⟨HXK3.out.setCell (by exact Nat.le_refl _) _, ?_⟩⟩
              have h := own_set HGK.out hn (.bool true)
              rw [HTK.out, Ps.mark1_snoc, List.map_set, Int.toNat_natCast]; exact h
            case measure => simp [intOf]; omega
          · obtain rfl : k = x.ex.length := by omega
            have HM2 : Hid (Ps.mark1 (x.ex.take x.ex.length) (Ps.marks ss (RL.take 0) (List.replicate P.hs.length false)) = Ps.marks ss (RL.take (0 + 1)) (List.replicate P.hs.length false)) := Lib.hid (by rw [List.take_length, HTY.out, Ps.marks_snoc, Ps.st_mem HXK.out])
            go_wp2_with fail
            go_roundw
            case rel => exact ⟨0 + 1, by omega, by go_num, Lib.hid ⟨HXK3.out, by rw [← HM2.out]; exact HGK.out⟩⟩
            case measure => simp [intOf]; omega
      | succ j =>
        obtain ⟨yp, hyp⟩ : ∃ z, RL[j]? = some z := ⟨_, List.getElem?_eq_getElem (by omega)⟩
        obtain ⟨p0', p1', _⟩ := hasc.bd yp (List.mem_of_getElem? hyp)
        have hup := hasc.up j _ _ hyp hy
        obtain ⟨ypn, rfl⟩ := Int.eq_ofNat_of_zero_le p0'
        have r0' := n1 j _ hyp
        have D3 : Hid (decide ((yn : Int) ≤ (ypn : Int)) = false) := Lib.hid (decide_eq_false (by omega))
        have D3n : Hid (decide (yn ≤ ypn) = false) := Lib.hid (decide_eq_false (by omega))
        have hjl : j < RL.length := by omega
        have D8 : Hid (((j : Int) + 1 == 0) = false) := Lib.hid (beq_eq_false_iff_ne.2 (by omega))
        have D9 : Hid (decide ((0 : Int) < (j : Int) + 1) = true) := Lib.hid (decide_eq_true (by omega))
        have hrm : RL.length ≤ 9223372036854775807 := by have h := N3.out.2; unfold maxLen at h; omega
        clear hasc hy hyp hup y0' y1' p0' p1' u0' u1' u2' u3' u4' u5' u6' hxk hex hcs hnm n1
        go_wp2_with fail
        refine wp_region_later (W := wo) (by kernel_rfl) (by kernel_rfl) (Ext.refl _) ?_
        have d3 := D3.out
        have d3n := D3n.out
        have d8 := D8.out
        have d9 := D9.out
        repeat (go_big_quiet_step (fail))
        refine wpQuiet_nil ?_
        intro w5 x5
        have s5 := Step.mk x5
        clear x5 r0' d3 d3n d8 d9 D3 D3n D8 D9
        go_wp2_with fail
        refine wp_region_later (W := w5) (by kernel_rfl) (by kernel_rfl) (Ext.refl _) ?_
        repeat (go_big_quiet_step (fail))
        refine wpQuiet_nil ?_
        intro w6 x6
        have s6 := Step.mk x6
        have X36 : Hid (Ext w3 w6) := Lib.hid grows
        have HG6 := Lib.hid (own_ext HG.out (show Ext wo w6 from grows))
        clear x6
        go_wp2_with fail
        go_loopw [11] (fun z wr => ∃ k : Nat, k ≤ x.ex.length ∧ z = .int .i64 k ∧ Hid (Ext w3 wr ∧ wr.ownsRow w3.heap.size 4 1 (.slice (some ⟨w3.heap.size, 0, none⟩) P.hs.length P.hs.length) P.hs.length ((Ps.mark1 (x.ex.take k) (Ps.marks ss (RL.take (j + 1)) (List.replicate P.hs.length false))).map .bool))) (fun z _ => x.ex.length - (intOf z).toNat)
        case atStart => exact ⟨0, Nat.zero_le _, rfl, Lib.hid ⟨X36.out, HG6.out⟩⟩
        case round =>
          obtain ⟨k, hk, rfl, HJ⟩ := hrel
          obtain ⟨hxk, hgk⟩ := HJ.out
          obtain ⟨wq, rfl⟩ : ∃ z : World, z = wr := ⟨_, rfl⟩
          clear s6 sx s5
          have sxk := Step.mk hxk
          have HXK3 := Lib.hid hxk
          have HGK := Lib.hid hgk
          clear HJ hxk hgk
          by_cases hkl : k < x.ex.length
          · obtain ⟨h, hh⟩ : ∃ y, x.ex[k]? = some y := ⟨_, List.getElem?_eq_getElem hkl⟩
            obtain ⟨h0, h1⟩ := SO.out.ex k h hh
            obtain ⟨hn, rfl⟩ := Int.eq_ofNat_of_zero_le h0
            have hnl : hn < P.hs.length := by omega
            obtain ⟨eb, eo, rfl, n2⟩ := ns_at HEX.out (by omega)
            have r2 := n2 k _ hh
            obtain ⟨g', c', e', ga, gb, _⟩ := own_at HGK.out (k := hn) (x := .bool ((Ps.mark1 (x.ex.take k) (Ps.marks ss (RL.take (j + 1)) (List.replicate P.hs.length false))).getD hn false)) (by
              rw [List.getElem?_map, List.getElem?_eq_getElem (by rw [Ps.mark1_len, Ps.marks_len, List.length_replicate]; exact hnl), List.getD_eq_getElem?_getD, List.getElem?_eq_getElem (by rw [Ps.mark1_len, Ps.marks_len, List.length_replicate]; exact hnl)]; rfl)
            simp only [Value.slice.injEq, Option.some.injEq, Addr.mk.injEq, and_true, true_and] at e'
            obtain ⟨rfl, rfl⟩ := e'
            have HTK := Lib.hid (Ps.take_snoc hh)
            have d1 : decide ((hn : Int) < 0) = false := decide_eq_false (by omega)
            have d2 : decide ((P.hs.length : Int) ≤ (hn : Int)) = false := decide_eq_false (by omega)
            obtain ⟨bo, hbo⟩ : ∃ z, z = (Ps.mark1 (x.ex.take k) (Ps.marks ss (RL.take (j + 1)) (List.replicate P.hs.length false))).getD hn false := ⟨_, rfl⟩
            rw [← hbo] at ga
            clear n2 hh hbo h0 h1
            go_wp2_with fail
            go_roundw
            case rel =>
              refine ⟨k + 1, by omega, by go_num, Lib.hid ⟨HXK3.out.setCell (by exact Nat.le_refl _) _, ?_⟩⟩
              have h := own_set HGK.out hn (.bool true)
              rw [HTK.out, Ps.mark1_snoc, List.map_set, Int.toNat_natCast]; exact h
            case measure => simp [intOf]; omega
          · obtain rfl : k = x.ex.length := by omega
            have HM2 : Hid (Ps.mark1 (x.ex.take x.ex.length) (Ps.marks ss (RL.take (j + 1)) (List.replicate P.hs.length false)) = Ps.marks ss (RL.take (j + 1 + 1)) (List.replicate P.hs.length false)) := Lib.hid (by rw [List.take_length, HTY.out, Ps.marks_snoc, Ps.st_mem HXK.out])
            go_wp2_with fail
            go_roundw
            case rel => exact ⟨j + 1 + 1, by omega, by go_num, Lib.hid ⟨HXK3.out, by rw [← HM2.out]; exact HGK.out⟩⟩
            case measure => simp [intOf]; omega
    · obtain rfl : i = RL.length := by omega
      have HM : Hid (wo.ownsRow w3.heap.size 4 1 (.slice (some ⟨w3.heap.size, 0, none⟩) P.hs.length P.hs.length) P.hs.length ((Ps.marks ss RL (List.replicate P.hs.length false)).map .bool)) := Lib.hid (by have h := HG.out; rwa [List.take_length] at h)
      have hmel : RE.me.length ≤ 9223372036854775807 := by have h := I2.out.2.2.1.1.2; unfold maxLen at h; omega
      clear HG
      have HMK : Hid (RE.va = Ps.marks ss RL (List.replicate P.hs.length false)) := Lib.hid (HA.out.mark rfl)
      have HME : Hid (RE.me = List.replicate P.md.length 0) := Lib.hid (HA.out.me rfl)
      have HCK : Hid (∀ w, Ext w2 w → Calls Try.prog 34 #[.agg #[.string s, .slice a1 P.hs.length m1, .slice a2 P.md.length m2, .slice a3 n3 m3, .slice a4 n4 m4, .slice a5 n5 m5, .slice (some ⟨ab, ao, none⟩) ss.length m6, .slice a7 n7 m7, .slice a8 P.dp.length m8], .agg #[.slice y20 RE.va.length z20, .slice y21 RE.fi.length z21, .slice y22 RE.me.length z22, .slice y23 RE.pl.length z23]] w (Rets w (.int .i64 0))) := Lib.hid (fun w hx => by
        have h := rcheck12_any (HQ.out.1.ext ((show Ext W w2 from grows).trans hx)) (I2.out.ext hx)
        rw [Ps.fil_chk (HA.out.fil rfl) GHD.out HME.out] at h; exact h)
      go_wp2_with fail
      go_loopw [12] (fun z wr => ∃ h : Nat, h ≤ P.hs.length ∧ z = .int .i64 h ∧ Ext wo wr) (fun z _ => P.hs.length - (intOf z).toNat)
      case atStart => exact ⟨0, Nat.zero_le _, rfl, Ext.refl _⟩
      case round =>
        obtain ⟨h, hh, rfl, hxh⟩ := hrel
        obtain ⟨wq, rfl⟩ : ∃ z : World, z = wr := ⟨_, rfl⟩
        have sq := Step.mk hxh
        clear hxh
        by_cases hhl : h < P.hs.length
        · obtain ⟨mb, hmb'⟩ : ∃ z, (Ps.marks ss RL (List.replicate P.hs.length false))[h]? = some z := ⟨_, List.getElem?_eq_getElem (by rw [Ps.marks_len, List.length_replicate]; exact hhl)⟩
          obtain ⟨g', c', e', ga, gb, _⟩ := own_at HM.out (k := h) (x := .bool mb) (by rw [List.getElem?_map, hmb']; rfl)
          simp only [Value.slice.injEq, Option.some.injEq, Addr.mk.injEq, and_true, true_and] at e'
          obtain ⟨rfl, rfl⟩ := e'
          have HHAS : Hid (∀ w, Ext w2 w → Calls Try.prog 33 #[.agg #[.slice y20 RE.va.length z20, .slice y21 RE.fi.length z21, .slice y22 RE.me.length z22, .slice y23 RE.pl.length z23], .int .i64 (h : Int)] w (Rets w (.bool mb))) := Lib.hid (fun w hx => by
            have h1 := has12_any (I2.out.ext hx) (h : Int)
            rw [Ps.vaAt_in (by rw [HMK.out]; exact hmb')] at h1; exact h1)
          clear hmb'
          go_wp2_with fail
          refine Rel.region (W := wq) (Rel.tab [(2, fun v _ => v = .bool mb)]) (Rel.tab_lasts (by intro p hp v w w' hr hx; simp only [List.mem_cons, List.not_mem_nil, or_false] at hp; subst hp; exact hr)) (by kernel_rfl) (by kernel_rfl) (Ext.refl _) ?_
          refine Rel.chunk 2 rfl rfl rfl ?_
          simp only [List.take_succ_cons, List.take_zero, List.drop_succ_cons, List.drop_zero, Nat.reduceAdd]
          repeat (go_big_quiet_step (fail))
          refine wpQuiet_nil ?_
          refine Rel.callG (fun v _ => v = .bool mb) rfl rfl rfl Try.func33 (by nofun) (by decide) #[.agg #[.slice y20 RE.va.length z20, .slice y21 RE.fi.length z21, .slice y22 RE.me.length z22, .slice y23 RE.pl.length z23], .int .i64 (h : Int)] rfl (fun w hx _ => by refine (HHAS.out w ((grows (a := w2) (b := wq)).trans hx)).mono ?_; rintro e w9 ⟨he, hx9⟩; exact ⟨_, he, hx9, rfl⟩) ?_
          intro v2 wq2 _ _ r2
          subst r2
          simp only [Act.put, List.setIfInBounds_toArray, List.set_cons_succ, List.set_cons_zero]
          refine Rel.chunk 5 rfl rfl rfl ?_
          simp only [List.take_succ_cons, List.take_zero, List.drop_succ_cons, List.drop_zero, Nat.reduceAdd]
          repeat (go_big_quiet_step (fail))
          refine wpQuiet_nil ?_
          refine Rel.fin ?_
          intro w8 x8 _
          have s8 := Step.mk x8
          go_wp2_with fail
          go_roundw
          case rel => exact ⟨h + 1, by omega, by go_num, grows⟩
          case measure => simp [intOf]; omega
        · obtain rfl : h = P.hs.length := by omega
          go_wp2_with fail
          go_loopw [13] (fun z wr => ∃ i : Nat, i ≤ RE.me.length ∧ z = .int .i64 i ∧ Ext wq wr) (fun z _ => RE.me.length - (intOf z).toNat)
          case atStart => exact ⟨0, Nat.zero_le _, rfl, Ext.refl _⟩
          case round =>
            obtain ⟨i, hi, rfl, hxi⟩ := hrel
            obtain ⟨wp, rfl⟩ : ∃ z : World, z = wr := ⟨_, rfl⟩
            have sp := Step.mk hxi
            clear hxi
            by_cases hil : i < RE.me.length
            · have hm0 : RE.me[i]? = some 0 := by
                obtain ⟨z, hz⟩ : ∃ z, RE.me[i]? = some z := ⟨_, List.getElem?_eq_getElem hil⟩
                have h1 := List.mem_of_getElem? hz
                rw [HME.out] at h1
                rw [hz, List.eq_of_mem_replicate h1]
              obtain ⟨mb, mo, rfl, n3'⟩ := ns_at I2.out.2.2.1.1 (by omega)
              have r3 := n3' i _ hm0
              clear n3' hm0
              go_wp2_with fail
              go_roundw
              case rel => exact ⟨i + 1, by omega, by go_num, grows⟩
              case measure => simp [intOf]; omega
            · obtain rfl : i = RE.me.length := by omega
              go_wp2_with fail
              refine (HCK.out _ grows).mono ?_
              rintro e wc ⟨rfl, xwc⟩
              have swc := Step.mk xwc
              clear xwc
              go_wp2_with fail
              refine (pworks_any _).mono ?_
              rintro e wk ⟨rfl, xwk⟩
              have swk := Step.mk xwk
              clear xwk
              go_wp2_with fail
              go_ret
              exact ⟨rfl, grows⟩
end Go.Proofs.Ytonnlcjkgpahoaa
namespace Go.Proofs.Ytonnlcjkgpahoaa
open Go.RowKit

set_option maxRecDepth 8000 in
set_option maxHeartbeats 8000000 in
theorem states_err {W : World} {p : Pg.PV} {P : Pg.Prog} {ss : List Ps.St} (hq : Ps.IsQ W p P ss) (hok : Ps.okQ P ss = true) {da : Option Addr} {dc : Nat} {l : List Int} (hsrc : Src W (.slice da l.length dc) 1 l.length (u8s l)) (hby : Io.Bytes l) (hl6 : l.length ≤ 600) {RE : Pg.Env} {RL : List Int} {RF : Int} (hR : (RE, RL, RF) = Ps.parse P ss l) (hb : Ps.bad P ss l.length = 0) (hf : RF = 3 ∨ RF = 15) : Calls Try.prog 9 #[p.val, .slice da l.length dc] W (Rets W (.bool true)) := by
  have z1 : (RF == 2) = false := beq_eq_false_iff_ne.2 (by omega)
  have z2 : (RF == 4) = false := beq_eq_false_iff_ne.2 (by omega)
  have z3 : (RF != 0) = true := bne_iff_ne.2 (by omega)
  have hf0 : RF ≠ 0 := by omega
  have HF0 := Lib.hid hf0
  clear hf hf0
  obtain ⟨s, a1, a2, a3, a4, a5, a6, a7, a8, m1, m2, n3, m3, n4, m4, n5, m5, n6, m6, n7, m7, m8, hf⟩ := hq.1.form
  obtain ⟨rfl, hhs, hmd, _, hl1, hl2, _⟩ := hf
  have hss := hq.2
  dsimp only at hss
  obtain ⟨a6', m6', e6, hl6, hc6⟩ := hss.slice
  simp only [Value.slice.injEq] at e6
  obtain ⟨rfl, rfl, rfl⟩ := e6
  unfold maxLen at hc6
  have HTL : Hid (∀ w, Ext W w → Calls Try.prog 21 #[.agg #[.string s, .slice a1 P.hs.length m1, .slice a2 P.md.length m2, .slice a3 n3 m3, .slice a4 n4 m4, .slice a5 n5 m5, .slice a6 ss.length m6, .slice a7 n7 m7, .slice a8 P.dp.length m8]] w (Rets w (.bool false))) := Lib.hid (fun w hx => by have h := qtoolarge_any (hq.ext hx); rw [hok] at h; exact h)
  have bx := alloc_heap W (.cells #[.string s, .slice a1 P.hs.length m1, .slice a2 P.md.length m2, .slice a3 n3 m3, .slice a4 n4 m4, .slice a5 n5 m5, .slice a6 ss.length m6, .slice a7 n7 m7, .slice a8 P.dp.length m8] 31)
  have pc0 := alw (cell_of (o := 0) bx)
  have pc1 := alw (cell_of (o := 1) bx)
  have pc2 := alw (cell_of (o := 2) bx)
  have pc3 := alw (cell_of (o := 3) bx)
  have pc4 := alw (cell_of (o := 4) bx)
  have pc5 := alw (cell_of (o := 5) bx)
  have pc6 := alw (cell_of (o := 6) bx)
  have pc7 := alw (cell_of (o := 7) bx)
  have pc8 := alw (cell_of (o := 8) bx)
  clear bx
  have hcp := Ps.okQ_cap hok
  have hcp1 := hcp.1
  have g1 : decide ((600 : Int) < (l.length : Int)) = false := decide_eq_false (by omega)
  have HP1 : Hid (∀ w, Ext W w → Calls Try.prog 25 #[.agg #[.string s, .slice a1 P.hs.length m1, .slice a2 P.md.length m2, .slice a3 n3 m3, .slice a4 n4 m4, .slice a5 n5 m5, .slice a6 ss.length m6, .slice a7 n7 m7, .slice a8 P.dp.length m8], .slice da l.length dc] w (ParseP w (RE, RL, RF))) := Lib.hid (fun w hx  => by have h := pparse_any (hq.ext hx) hcp (hsrc.ext hx) hby (by omega); rw [← hR] at h; exact h)
  have HS1 : Hid (∀ w, Ext W w → Calls Try.prog 29 #[.agg #[.string s, .slice a1 P.hs.length m1, .slice a2 P.md.length m2, .slice a3 n3 m3, .slice a4 n4 m4, .slice a5 n5 m5, .slice a6 ss.length m6, .slice a7 n7 m7, .slice a8 P.dp.length m8], .slice da l.length dc] w (StatesP w (RE, RL, RF))) := Lib.hid (fun w hx  => by have h := pstates_any (hq.ext hx) hcp (hsrc.ext hx) hby (by omega); rw [← hR] at h; exact h)
  have HQ := Lib.hid hq
  have HCP := Lib.hid hcp
  have HSS := Lib.hid hss
  have hmb := mk_bools P.hs.length (by omega)
  have HR := Lib.hid hR
  clear hq hhs hmd hss hok hsrc hby hcp
  have ha := Ps.parse_ans (l := l) hb
  obtain ⟨hgood, _⟩ := Ps.bad_ok hb
  rw [← hR] at ha
  dsimp only at ha
  have HA := Lib.hid ha
  obtain ⟨gp, _, ghd, gst⟩ := hgood
  have GST := Lib.hid gst
  have GHD := Lib.hid ghd
  have hne := ha.ne
  have hrl : 0 < RL.length := List.length_pos_iff.2 hne
  obtain ⟨ab, ao, rfl, _, _⟩ := Rows.at HSS.out gp
  clear hR hb ha gst ghd hne
  dsimp only [Pg.PV.val]
  go_enter Try.func9, Try.ntmps9
  go_wp2_with fail
  refine (HTL.out _ grows).mono ?_
  rintro e w1 ⟨rfl, xw1⟩
  have sw1 := Step.mk xw1
  clear xw1
  go_wp2_with fail
  refine (HP1.out _ grows).mono ?_
  rintro e w2 ⟨ev2, vs2, rfl, x2, o2⟩
  dsimp only at o2
  have I2 := Lib.hid o2.isE
  obtain ⟨y20, y21, y22, y23, z20, z21, z22, z23, hg⟩ := o2.isE.form
  obtain ⟨rfl, _, _, _, _, _, _, _, _⟩ := hg
  dsimp only [Pg.EV.val]
  have s2 := Step.mk x2
  have be := alloc_heap w2 (.cells #[.slice y20 RE.va.length z20, .slice y21 RE.fi.length z21, .slice y22 RE.me.length z22, .slice y23 RE.pl.length z23] 37)
  have qc20 := alw (cell_of (o := 0) be)
  have qc21 := alw (cell_of (o := 1) be)
  have qc22 := alw (cell_of (o := 2) be)
  have qc23 := alw (cell_of (o := 3) be)
  clear be x2 o2
  go_wp2_with fail
  refine (HS1.out _ grows).mono ?_
  rintro e w3 ⟨sv, rfl, x3, o3⟩
  dsimp only at o3
  obtain ⟨oas, csv, rfl⟩ := own_slice o3
  have s3 := Step.mk x3
  have N3 : Hid (Ns .i64 w3 (.slice oas RL.length csv) RL) := Lib.hid ⟨own_src o3 (i64s_one _), own_max o3⟩
  have OG : Hid ((w3.alloc (.cells (madeCells #[.bool false] P.hs.length) 4)).ownsRow w3.heap.size 4 1 (.slice (some ⟨w3.heap.size, 0, none⟩) P.hs.length P.hs.length) P.hs.length ((List.replicate P.hs.length false).map .bool)) := Lib.hid (by have h := own_fresh (alloc_heap w3 (.cells (madeCells #[.bool false] P.hs.length) 4)) (Nat.le_refl _) (show P.hs.length ≤ maxLen by unfold maxLen; omega); simpa using h)
  clear x3 o3
  go_wp2_with fail
  go_loopw [9] (fun z wr => ∃ i : Nat, i ≤ RL.length ∧ z = .int .i64 i ∧ Hid (Ext w3 wr ∧ wr.ownsRow w3.heap.size 4 1 (.slice (some ⟨w3.heap.size, 0, none⟩) P.hs.length P.hs.length) P.hs.length ((Ps.marks ss (RL.take i) (List.replicate P.hs.length false)).map .bool))) (fun z _ => RL.length - (intOf z).toNat)
  case atStart => exact ⟨0, Nat.zero_le _, rfl, Lib.hid ⟨grows, OG.out⟩⟩
  case round =>
    obtain ⟨i, hi, rfl, HI⟩ := hrel
    obtain ⟨hx, hg⟩ := HI.out
    obtain ⟨wo, rfl⟩ : ∃ z : World, z = wr := ⟨_, rfl⟩
    have sx := Step.mk hx
    have HX := Lib.hid hx
    have HG := Lib.hid hg
    clear HI hx hg
    by_cases hlt : i < RL.length
    · obtain ⟨y, hy⟩ : ∃ y, RL[i]? = some y := ⟨_, List.getElem?_eq_getElem hlt⟩
      obtain ⟨sl, hasc⟩ := HA.out.asc
      obtain ⟨y0', y1', _⟩ := hasc.bd y (List.mem_of_getElem? hy)
      obtain ⟨yn, rfl⟩ := Int.eq_ofNat_of_zero_le y0'
      have hyl : yn < ss.length := by omega
      obtain ⟨x, hxk⟩ : ∃ z, ss[yn]? = some z := ⟨_, List.getElem?_eq_getElem hyl⟩
      obtain ⟨ea, ec, ca, cc, hnm, hex, hcs, hcl, hcm, u0', u1', u2', u3', u4', u5', u6'⟩ := st_at HSS.out yn x hxk rfl
      have yy1 := alw u1'
      have SO := Lib.hid (GST.out yn x hxk)
      have HEX := Lib.hid hex
      have HXK := Lib.hid hxk
      have HTY := Lib.hid (Ps.take_snoc hy)
      obtain ⟨sb, so, rfl, n1⟩ := ns_at N3.out (by omega)
      have r1 := n1 i _ hy
      have hem := hex.2
      unfold maxLen at hem
      have d1 : decide ((yn : Int) < 0) = false := decide_eq_false (by omega)
      have d2 : decide ((ss.length : Int) ≤ (yn : Int)) = false := decide_eq_false (by omega)
      have d2n : decide (ss.length ≤ yn) = false := decide_eq_false (by omega)
      cases i with
      | zero =>
        have e0 := hasc.z _ hy
        obtain rfl : yn = 0 := by omega
        have r1z : ∀ w' [Grows w3 w'], w'.cell? ⟨sb, so, none⟩ = some (.int .i64 0) := fun w' _ => r1 w'
        have yyz : ∀ w' [Grows W w'], w'.cell? ⟨ab, ao + 1, none⟩ = some (.slice ea x.ex.length ec) := fun w' _ => by have h := yy1 w'; rwa [show ao + 0 * 7 + 1 = ao + 1 by omega] at h
        have d2z : decide ((ss.length : Int) ≤ 0) = false := decide_eq_false (by omega)
        have hssn : ss ≠ [] := List.length_pos_iff.1 gp
        have hss0 : ¬ ss.length = 0 := by omega
        clear r1 yy1 d1 d2
        clear hasc hy y0' y1' u0' u1' u2' u3' u4' u5' u6' hxk hex hcs hnm n1 e0
        go_wp2_with fail
        refine wp_region_later (W := wo) (by kernel_rfl) (by kernel_rfl) (Ext.refl _) ?_
        repeat (go_big_quiet_step (fail))
        refine wpQuiet_nil ?_
        intro w5 x5
        have s5 := Step.mk x5
        clear x5
        go_wp2_with fail
        refine wp_region_later (W := w5) (by kernel_rfl) (by kernel_rfl) (Ext.refl _) ?_
        repeat (go_big_quiet_step (fail))
        refine wpQuiet_nil ?_
        intro w6 x6
        have s6 := Step.mk x6
        have X36 : Hid (Ext w3 w6) := Lib.hid grows
        have HG6 := Lib.hid (own_ext HG.out (show Ext wo w6 from grows))
        clear x6
        go_wp2_with fail
        go_loopw [11] (fun z wr => ∃ k : Nat, k ≤ x.ex.length ∧ z = .int .i64 k ∧ Hid (Ext w3 wr ∧ wr.ownsRow w3.heap.size 4 1 (.slice (some ⟨w3.heap.size, 0, none⟩) P.hs.length P.hs.length) P.hs.length ((Ps.mark1 (x.ex.take k) (Ps.marks ss (RL.take 0) (List.replicate P.hs.length false))).map .bool))) (fun z _ => x.ex.length - (intOf z).toNat)
        case atStart => exact ⟨0, Nat.zero_le _, rfl, Lib.hid ⟨X36.out, HG6.out⟩⟩
        case round =>
          obtain ⟨k, hk, rfl, HJ⟩ := hrel
          obtain ⟨hxk, hgk⟩ := HJ.out
          obtain ⟨wq, rfl⟩ : ∃ z : World, z = wr := ⟨_, rfl⟩
          clear s6 sx s5
          have sxk := Step.mk hxk
          have HXK3 := Lib.hid hxk
          have HGK := Lib.hid hgk
          clear HJ hxk hgk
          by_cases hkl : k < x.ex.length
          · obtain ⟨h, hh⟩ : ∃ y, x.ex[k]? = some y := ⟨_, List.getElem?_eq_getElem hkl⟩
            obtain ⟨h0, h1⟩ := SO.out.ex k h hh
            obtain ⟨hn, rfl⟩ := Int.eq_ofNat_of_zero_le h0
            have hnl : hn < P.hs.length := by omega
            obtain ⟨eb, eo, rfl, n2⟩ := ns_at HEX.out (by omega)
            have r2 := n2 k _ hh
            obtain ⟨g', c', e', ga, gb, _⟩ := own_at HGK.out (k := hn) (x := .bool ((Ps.mark1 (x.ex.take k) (Ps.marks ss (RL.take 0) (List.replicate P.hs.length false))).getD hn false)) (by
              rw [List.getElem?_map, List.getElem?_eq_getElem (by rw [Ps.mark1_len, Ps.marks_len, List.length_replicate]; exact hnl), List.getD_eq_getElem?_getD, List.getElem?_eq_getElem (by rw [Ps.mark1_len, Ps.marks_len, List.length_replicate]; exact hnl)]; rfl)
            simp only [Value.slice.injEq, Option.some.injEq, Addr.mk.injEq, and_true, true_and] at e'
            obtain ⟨rfl, rfl⟩ := e'
            have HTK := Lib.hid (Ps.take_snoc hh)
            have d1 : decide ((hn : Int) < 0) = false := decide_eq_false (by omega)
            have d2 : decide ((P.hs.length : Int) ≤ (hn : Int)) = false := decide_eq_false (by omega)
            obtain ⟨bo, hbo⟩ : ∃ z, z = (Ps.mark1 (x.ex.take k) (Ps.marks ss (RL.take 0) (List.replicate P.hs.length false))).getD hn false := ⟨_, rfl⟩
            rw [← hbo] at ga
            clear n2 hh hbo h0 h1
            go_wp2_with fail
            go_roundw
            case rel =>
              refine ⟨k + 1, by omega, by go_num, Lib.hid ⟨HXK3.out.setCell (by exact Nat.le_refl _) _, ?_⟩⟩
              have h := own_set HGK.out hn (.bool true)
              rw [HTK.out, Ps.mark1_snoc, List.map_set, Int.toNat_natCast]; exact h
            case measure => simp [intOf]; omega
          · obtain rfl : k = x.ex.length := by omega
            have HM2 : Hid (Ps.mark1 (x.ex.take x.ex.length) (Ps.marks ss (RL.take 0) (List.replicate P.hs.length false)) = Ps.marks ss (RL.take (0 + 1)) (List.replicate P.hs.length false)) := Lib.hid (by rw [List.take_length, HTY.out, Ps.marks_snoc, Ps.st_mem HXK.out])
            go_wp2_with fail
            go_roundw
            case rel => exact ⟨0 + 1, by omega, by go_num, Lib.hid ⟨HXK3.out, by rw [← HM2.out]; exact HGK.out⟩⟩
            case measure => simp [intOf]; omega
      | succ j =>
        obtain ⟨yp, hyp⟩ : ∃ z, RL[j]? = some z := ⟨_, List.getElem?_eq_getElem (by omega)⟩
        obtain ⟨p0', p1', _⟩ := hasc.bd yp (List.mem_of_getElem? hyp)
        have hup := hasc.up j _ _ hyp hy
        obtain ⟨ypn, rfl⟩ := Int.eq_ofNat_of_zero_le p0'
        have r0' := n1 j _ hyp
        have D3 : Hid (decide ((yn : Int) ≤ (ypn : Int)) = false) := Lib.hid (decide_eq_false (by omega))
        have D3n : Hid (decide (yn ≤ ypn) = false) := Lib.hid (decide_eq_false (by omega))
        have hjl : j < RL.length := by omega
        have D8 : Hid (((j : Int) + 1 == 0) = false) := Lib.hid (beq_eq_false_iff_ne.2 (by omega))
        have D9 : Hid (decide ((0 : Int) < (j : Int) + 1) = true) := Lib.hid (decide_eq_true (by omega))
        have hrm : RL.length ≤ 9223372036854775807 := by have h := N3.out.2; unfold maxLen at h; omega
        clear hasc hy hyp hup y0' y1' p0' p1' u0' u1' u2' u3' u4' u5' u6' hxk hex hcs hnm n1
        go_wp2_with fail
        refine wp_region_later (W := wo) (by kernel_rfl) (by kernel_rfl) (Ext.refl _) ?_
        have d3 := D3.out
        have d3n := D3n.out
        have d8 := D8.out
        have d9 := D9.out
        repeat (go_big_quiet_step (fail))
        refine wpQuiet_nil ?_
        intro w5 x5
        have s5 := Step.mk x5
        clear x5 r0' d3 d3n d8 d9 D3 D3n D8 D9
        go_wp2_with fail
        refine wp_region_later (W := w5) (by kernel_rfl) (by kernel_rfl) (Ext.refl _) ?_
        repeat (go_big_quiet_step (fail))
        refine wpQuiet_nil ?_
        intro w6 x6
        have s6 := Step.mk x6
        have X36 : Hid (Ext w3 w6) := Lib.hid grows
        have HG6 := Lib.hid (own_ext HG.out (show Ext wo w6 from grows))
        clear x6
        go_wp2_with fail
        go_loopw [11] (fun z wr => ∃ k : Nat, k ≤ x.ex.length ∧ z = .int .i64 k ∧ Hid (Ext w3 wr ∧ wr.ownsRow w3.heap.size 4 1 (.slice (some ⟨w3.heap.size, 0, none⟩) P.hs.length P.hs.length) P.hs.length ((Ps.mark1 (x.ex.take k) (Ps.marks ss (RL.take (j + 1)) (List.replicate P.hs.length false))).map .bool))) (fun z _ => x.ex.length - (intOf z).toNat)
        case atStart => exact ⟨0, Nat.zero_le _, rfl, Lib.hid ⟨X36.out, HG6.out⟩⟩
        case round =>
          obtain ⟨k, hk, rfl, HJ⟩ := hrel
          obtain ⟨hxk, hgk⟩ := HJ.out
          obtain ⟨wq, rfl⟩ : ∃ z : World, z = wr := ⟨_, rfl⟩
          clear s6 sx s5
          have sxk := Step.mk hxk
          have HXK3 := Lib.hid hxk
          have HGK := Lib.hid hgk
          clear HJ hxk hgk
          by_cases hkl : k < x.ex.length
          · obtain ⟨h, hh⟩ : ∃ y, x.ex[k]? = some y := ⟨_, List.getElem?_eq_getElem hkl⟩
            obtain ⟨h0, h1⟩ := SO.out.ex k h hh
            obtain ⟨hn, rfl⟩ := Int.eq_ofNat_of_zero_le h0
            have hnl : hn < P.hs.length := by omega
            obtain ⟨eb, eo, rfl, n2⟩ := ns_at HEX.out (by omega)
            have r2 := n2 k _ hh
            obtain ⟨g', c', e', ga, gb, _⟩ := own_at HGK.out (k := hn) (x := .bool ((Ps.mark1 (x.ex.take k) (Ps.marks ss (RL.take (j + 1)) (List.replicate P.hs.length false))).getD hn false)) (by
              rw [List.getElem?_map, List.getElem?_eq_getElem (by rw [Ps.mark1_len, Ps.marks_len, List.length_replicate]; exact hnl), List.getD_eq_getElem?_getD, List.getElem?_eq_getElem (by rw [Ps.mark1_len, Ps.marks_len, List.length_replicate]; exact hnl)]; rfl)
            simp only [Value.slice.injEq, Option.some.injEq, Addr.mk.injEq, and_true, true_and] at e'
            obtain ⟨rfl, rfl⟩ := e'
            have HTK := Lib.hid (Ps.take_snoc hh)
            have d1 : decide ((hn : Int) < 0) = false := decide_eq_false (by omega)
            have d2 : decide ((P.hs.length : Int) ≤ (hn : Int)) = false := decide_eq_false (by omega)
            obtain ⟨bo, hbo⟩ : ∃ z, z = (Ps.mark1 (x.ex.take k) (Ps.marks ss (RL.take (j + 1)) (List.replicate P.hs.length false))).getD hn false := ⟨_, rfl⟩
            rw [← hbo] at ga
            clear n2 hh hbo h0 h1
            go_wp2_with fail
            go_roundw
            case rel =>
              refine ⟨k + 1, by omega, by go_num, Lib.hid ⟨HXK3.out.setCell (by exact Nat.le_refl _) _, ?_⟩⟩
              have h := own_set HGK.out hn (.bool true)
              rw [HTK.out, Ps.mark1_snoc, List.map_set, Int.toNat_natCast]; exact h
            case measure => simp [intOf]; omega
          · obtain rfl : k = x.ex.length := by omega
            have HM2 : Hid (Ps.mark1 (x.ex.take x.ex.length) (Ps.marks ss (RL.take (j + 1)) (List.replicate P.hs.length false)) = Ps.marks ss (RL.take (j + 1 + 1)) (List.replicate P.hs.length false)) := Lib.hid (by rw [List.take_length, HTY.out, Ps.marks_snoc, Ps.st_mem HXK.out])
            go_wp2_with fail
            go_roundw
            case rel => exact ⟨j + 1 + 1, by omega, by go_num, Lib.hid ⟨HXK3.out, by rw [← HM2.out]; exact HGK.out⟩⟩
            case measure => simp [intOf]; omega
    · obtain rfl : i = RL.length := by omega
      have HM : Hid (wo.ownsRow w3.heap.size 4 1 (.slice (some ⟨w3.heap.size, 0, none⟩) P.hs.length P.hs.length) P.hs.length ((Ps.marks ss RL (List.replicate P.hs.length false)).map .bool)) := Lib.hid (by have h := HG.out; rwa [List.take_length] at h)
      have hmel : RE.me.length ≤ 9223372036854775807 := by have h := I2.out.2.2.1.1.2; unfold maxLen at h; omega
      clear HG
      have HRE : Hid (RE = En.new P) := Lib.hid (HA.out.bad HF0.out)
      have HNW : Hid (∀ w, Ext W w → Calls Try.prog 32 #[.agg #[.string s, .slice a1 P.hs.length m1, .slice a2 P.md.length m2, .slice a3 n3 m3, .slice a4 n4 m4, .slice a5 n5 m5, .slice (some ⟨ab, ao, none⟩) ss.length m6, .slice a7 n7 m7, .slice a8 P.dp.length m8]] w (EnvP w RE)) := Lib.hid (fun w hx => by have h := refenew_any (HQ.out.1.ext hx) HCP.out; rw [← HRE.out] at h; exact h)
      have HEQ : Hid (∀ w (u v : Pg.EV), Pg.IsE w u RE → Pg.IsE w v RE → Calls Try.prog 27 #[u.val, v.val] w (Rets w (.bool true))) := Lib.hid (fun w u v hu hv => by have h := refeequal_any hu hv; rw [En.eq_self] at h; exact h)
      go_wp2_with fail
      refine Rel.region (W := wo) (Rel.tab [(6, fun v w => ∃ ev : Pg.EV, v = ev.val ∧ Pg.IsE w ev RE), (7, fun v _ => v = .bool true), (10, fun v _ => v = .bool true)]) (Rel.tab_lasts (by intro p hp v w w' hr hx; simp only [List.mem_cons, List.not_mem_nil, or_false] at hp; rcases hp with rfl | rfl | rfl; (· obtain ⟨ev, e1, e2⟩ := hr; exact ⟨ev, e1, e2.ext hx⟩); (· exact hr); (· exact hr))) (by kernel_rfl) (by kernel_rfl) (Ext.refl _) ?_
      refine Rel.chunk 6 rfl rfl rfl ?_
      simp only [List.take_succ_cons, List.take_zero, List.drop_succ_cons, List.drop_zero, Nat.reduceAdd]
      repeat (go_big_quiet_step (fail))
      refine wpQuiet_nil ?_
      refine Rel.callG (fun v w => ∃ ev : Pg.EV, v = ev.val ∧ Pg.IsE w ev RE) rfl rfl rfl Try.func32 (by nofun) (by decide) #[.agg #[.string s, .slice a1 P.hs.length m1, .slice a2 P.md.length m2, .slice a3 n3 m3, .slice a4 n4 m4, .slice a5 n5 m5, .slice (some ⟨ab, ao, none⟩) ss.length m6, .slice a7 n7 m7, .slice a8 P.dp.length m8]] rfl (fun w hx _ => by refine (HNW.out w ((grows (a := W) (b := wo)).trans hx)).mono ?_; rintro e w9 ⟨ev9, vs9, he, hx9, ho9⟩; exact ⟨_, he, hx9, ev9, rfl, ho9.isE⟩) ?_
      intro v6 wq6 _ _ r6
      obtain ⟨ev6, rfl, _⟩ := r6
      simp only [Act.put, List.setIfInBounds_toArray, List.set_cons_succ, List.set_cons_zero]
      refine Rel.callG (fun v _ => v = .bool true) rfl rfl rfl Try.func27 (by nofun) (by decide) #[.agg #[.slice y20 RE.va.length z20, .slice y21 RE.fi.length z21, .slice y22 RE.me.length z22, .slice y23 RE.pl.length z23], ev6.val] rfl (fun w hx hf => by obtain ⟨ev, e1, e2⟩ := (hf 6 (by kernel_rfl)).2 rfl; rw [e1]; refine (HEQ.out w ⟨.slice y20 RE.va.length z20, .slice y21 RE.fi.length z21, .slice y22 RE.me.length z22, .slice y23 RE.pl.length z23⟩ ev (I2.out.ext ((grows (a := w2) (b := wo)).trans hx)) e2).mono ?_; rintro e w9 ⟨he, hx9⟩; exact ⟨_, he, hx9, rfl⟩) ?_
      intro v7 wq7 _ _ r7
      subst r7
      simp only [Act.put, List.setIfInBounds_toArray, List.set_cons_succ, List.set_cons_zero]
      refine Rel.chunk 2 rfl rfl rfl ?_
      simp only [List.take_succ_cons, List.take_zero, List.drop_succ_cons, List.drop_zero, Nat.reduceAdd]
      repeat (go_big_quiet_step (fail))
      refine wpQuiet_nil ?_
      refine Rel.callG (fun v _ => v = .bool true) rfl rfl rfl Try.func22 (by nofun) (by decide) #[] rfl (fun w hx _ => by refine (pworks_any w).mono ?_; rintro e w9 ⟨he, hx9⟩; exact ⟨_, he, hx9, rfl⟩) ?_
      intro v10 wq10 _ _ r10
      subst r10
      simp only [Act.put, List.setIfInBounds_toArray, List.set_cons_succ, List.set_cons_zero]
      refine Rel.chunk 2 rfl rfl rfl ?_
      simp only [List.take_succ_cons, List.take_zero, List.drop_succ_cons, List.drop_zero, Nat.reduceAdd]
      repeat (go_big_quiet_step (fail))
      refine wpQuiet_nil ?_
      refine Rel.fin ?_
      intro w8 hx8 _
      have s8 := Step.mk hx8
      go_wp2_with fail
      go_ret
      exact ⟨rfl, grows⟩
set_option maxRecDepth 8000 in
set_option maxHeartbeats 4000000 in
theorem states_bad {W : World} {p : Pg.PV} {P : Pg.Prog} {ss : List Ps.St} (hq : Ps.IsQ W p P ss) (hok : Ps.okQ P ss = true) {da : Option Addr} {dc : Nat} {l : List Int} (hsrc : Src W (.slice da l.length dc) 1 l.length (u8s l)) (hby : Io.Bytes l) (hl6 : l.length ≤ 600) {RE : Pg.Env} {RL : List Int} {RF : Int} (hR : (RE, RL, RF) = Ps.parse P ss l) (hb : ¬ Ps.bad P ss l.length = 0) : Calls Try.prog 9 #[p.val, .slice da l.length dc] W (Rets W (.bool true)) := by
  obtain ⟨s, a1, a2, a3, a4, a5, a6, a7, a8, m1, m2, n3, m3, n4, m4, n5, m5, n6, m6, n7, m7, m8, hf⟩ := hq.1.form
  obtain ⟨rfl, hhs, hmd, _, hl1, hl2, _⟩ := hf
  have hss := hq.2
  dsimp only at hss
  obtain ⟨a6', m6', e6, hl6, hc6⟩ := hss.slice
  simp only [Value.slice.injEq] at e6
  obtain ⟨rfl, rfl, rfl⟩ := e6
  unfold maxLen at hc6
  have HTL : Hid (∀ w, Ext W w → Calls Try.prog 21 #[.agg #[.string s, .slice a1 P.hs.length m1, .slice a2 P.md.length m2, .slice a3 n3 m3, .slice a4 n4 m4, .slice a5 n5 m5, .slice a6 ss.length m6, .slice a7 n7 m7, .slice a8 P.dp.length m8]] w (Rets w (.bool false))) := Lib.hid (fun w hx => by have h := qtoolarge_any (hq.ext hx); rw [hok] at h; exact h)
  have bx := alloc_heap W (.cells #[.string s, .slice a1 P.hs.length m1, .slice a2 P.md.length m2, .slice a3 n3 m3, .slice a4 n4 m4, .slice a5 n5 m5, .slice a6 ss.length m6, .slice a7 n7 m7, .slice a8 P.dp.length m8] 31)
  have pc0 := alw (cell_of (o := 0) bx)
  have pc1 := alw (cell_of (o := 1) bx)
  have pc2 := alw (cell_of (o := 2) bx)
  have pc3 := alw (cell_of (o := 3) bx)
  have pc4 := alw (cell_of (o := 4) bx)
  have pc5 := alw (cell_of (o := 5) bx)
  have pc6 := alw (cell_of (o := 6) bx)
  have pc7 := alw (cell_of (o := 7) bx)
  have pc8 := alw (cell_of (o := 8) bx)
  clear bx
  have hcp := Ps.okQ_cap hok
  have hcp1 := hcp.1
  have g1 : decide ((600 : Int) < (l.length : Int)) = false := decide_eq_false (by omega)
  have HP1 : Hid (∀ w, Ext W w → Calls Try.prog 25 #[.agg #[.string s, .slice a1 P.hs.length m1, .slice a2 P.md.length m2, .slice a3 n3 m3, .slice a4 n4 m4, .slice a5 n5 m5, .slice a6 ss.length m6, .slice a7 n7 m7, .slice a8 P.dp.length m8], .slice da l.length dc] w (ParseP w (RE, RL, RF))) := Lib.hid (fun w hx  => by have h := pparse_any (hq.ext hx) hcp (hsrc.ext hx) hby (by omega); rw [← hR] at h; exact h)
  have HS1 : Hid (∀ w, Ext W w → Calls Try.prog 29 #[.agg #[.string s, .slice a1 P.hs.length m1, .slice a2 P.md.length m2, .slice a3 n3 m3, .slice a4 n4 m4, .slice a5 n5 m5, .slice a6 ss.length m6, .slice a7 n7 m7, .slice a8 P.dp.length m8], .slice da l.length dc] w (StatesP w (RE, RL, RF))) := Lib.hid (fun w hx  => by have h := pstates_any (hq.ext hx) hcp (hsrc.ext hx) hby (by omega); rw [← hR] at h; exact h)
  have HQ := Lib.hid hq
  have HCP := Lib.hid hcp
  have HSS := Lib.hid hss
  have hmb := mk_bools P.hs.length (by omega)
  have HR := Lib.hid hR
  clear hq hhs hmd hss hok hsrc hby hcp
  have hRB : (RE, RL, RF) = (En.new P, [], Ps.bad P ss l.length) := by rw [hR]; unfold Ps.parse; rw [if_neg hb]
  simp only [Prod.mk.injEq] at hRB
  obtain ⟨_, rfl, hrf⟩ := hRB
  have hbv := Ps.bad_vals P ss l.length
  rw [← hrf] at hbv hb
  have hv2 : RF = 2 ∨ RF = 4 := by rcases hbv with e | e | e; (· exact absurd e hb); (· exact .inl e); (· exact .inr e)
  clear hR hb hrf hbv HR
  dsimp only [Pg.PV.val]
  rcases hv2 with rfl | rfl
  all_goals
    go_enter Try.func9, Try.ntmps9
    go_wp2_with fail
    refine (HTL.out _ grows).mono ?_
    rintro e w1 ⟨rfl, xw1⟩
    have sw1 := Step.mk xw1
    clear xw1
    go_wp2_with fail
    refine (HP1.out _ grows).mono ?_
    rintro e w2 ⟨ev2, vs2, rfl, x2, o2⟩
    dsimp only at o2
    have I2 := Lib.hid o2.isE
    obtain ⟨y20, y21, y22, y23, z20, z21, z22, z23, hg⟩ := o2.isE.form
    obtain ⟨rfl, _, _, _, _, _, _, _, _⟩ := hg
    dsimp only [Pg.EV.val]
    have s2 := Step.mk x2
    have be := alloc_heap w2 (.cells #[.slice y20 RE.va.length z20, .slice y21 RE.fi.length z21, .slice y22 RE.me.length z22, .slice y23 RE.pl.length z23] 37)
    have qc20 := alw (cell_of (o := 0) be)
    have qc21 := alw (cell_of (o := 1) be)
    have qc22 := alw (cell_of (o := 2) be)
    have qc23 := alw (cell_of (o := 3) be)
    clear be x2 o2
    go_wp2_with fail
    refine (HS1.out _ grows).mono ?_
    rintro e w3 ⟨sv, rfl, x3, o3⟩
    dsimp only at o3
    obtain ⟨oas, csv, rfl⟩ := own_slice o3
    have s3 := Step.mk x3
    have N3 : Hid (Ns .i64 w3 (.slice oas ([] : List Int).length csv) ([] : List Int)) := Lib.hid ⟨own_src o3 (i64s_one _), own_max o3⟩
    have OG : Hid ((w3.alloc (.cells (madeCells #[.bool false] P.hs.length) 4)).ownsRow w3.heap.size 4 1 (.slice (some ⟨w3.heap.size, 0, none⟩) P.hs.length P.hs.length) P.hs.length ((List.replicate P.hs.length false).map .bool)) := Lib.hid (by have h := own_fresh (alloc_heap w3 (.cells (madeCells #[.bool false] P.hs.length) 4)) (Nat.le_refl _) (show P.hs.length ≤ maxLen by unfold maxLen; omega); simpa using h)
    clear x3 o3
    go_wp2_with fail
    go_loopw [9] (fun z wr => z = .int .i64 0 ∧ Ext w3 wr) (fun z _ => 0)
    case atStart => exact ⟨rfl, grows⟩
    case round =>
      obtain ⟨rfl, hx⟩ := hrel
      have sx := Step.mk hx
      clear hx
      go_wp2_with fail
      refine (pworks_any _).mono ?_
      rintro e wk ⟨rfl, xwk⟩
      have swk := Step.mk xwk
      clear xwk
      go_wp2_with fail
      go_ret
      exact ⟨rfl, grows⟩
set_option maxRecDepth 8000 in
set_option maxHeartbeats 4000000 in
theorem parserStates_walk (v0 : Value) (da : Option Addr) (n0 dc : Nat) (zs : List Int) (W : World) {b0 : Nat} {rr : Reach} {H : Type} {enc : TypeId × Value → H} {d0 : DataW H} {p0 : List MemPlace}
    (ok0 : Value.okWide Try.prog W rr b0 31 v0) (h0 : DataW.Trod enc Try.prog W 0 (fun _ => true) true 31 v0 d0 p0) (r0 : IsRow .u8 W da n0 dc zs) :
    Calls Try.prog 9 #[v0, .slice da n0 dc] W (Rets W (.bool true)) := by
  obtain ⟨l, rfl, hl0, hsrc, bl⟩ := row_take r0
  have hby : Io.Bytes l := wf_any bl
  unfold maxLen at hl0
  clear r0 bl
  obtain ⟨p, P, ss, rfl, hq⟩ := qprog_take ok0 h0
  clear ok0 h0 d0
  by_cases hok : Ps.okQ P ss = true
  · by_cases hl6 : l.length ≤ 600
    · obtain ⟨⟨RE, RL, RF⟩, hR⟩ : ∃ z, z = Ps.parse P ss l := ⟨_, rfl⟩
      by_cases hb : Ps.bad P ss l.length = 0
      · have ha := (Ps.parse_ans (l := l) hb).err
        rw [← hR] at ha
        rcases ha with h | h
        · exact states_ok hq hok hsrc hby hl6 hR hb h
        · exact states_err hq hok hsrc hby hl6 hR hb h
      · exact states_bad hq hok hsrc hby hl6 hR hb
    · have hob := hok.symm
      clear hok
      obtain ⟨ob, rfl⟩ : ∃ z, z = true := ⟨_, rfl⟩
      obtain ⟨s, a1, a2, a3, a4, a5, a6, a7, a8, m1, m2, n3, m3, n4, m4, n5, m5, n6, m6, n7, m7, m8, hf⟩ := hq.1.form
      obtain ⟨rfl, hhs, hmd, _, hl1, hl2, _⟩ := hf
      have hss := hq.2
      dsimp only at hss
      obtain ⟨a6', m6', e6, hl6, hc6⟩ := hss.slice
      simp only [Value.slice.injEq] at e6
      obtain ⟨rfl, rfl, rfl⟩ := e6
      unfold maxLen at hc6
      have HTL : Hid (∀ w, Ext W w → Calls Try.prog 21 #[.agg #[.string s, .slice a1 P.hs.length m1, .slice a2 P.md.length m2, .slice a3 n3 m3, .slice a4 n4 m4, .slice a5 n5 m5, .slice a6 ss.length m6, .slice a7 n7 m7, .slice a8 P.dp.length m8]] w (Rets w (.bool false))) := Lib.hid (fun w hx => by have h := qtoolarge_any (hq.ext hx); rw [← hob] at h; exact h)
      have bx := alloc_heap W (.cells #[.string s, .slice a1 P.hs.length m1, .slice a2 P.md.length m2, .slice a3 n3 m3, .slice a4 n4 m4, .slice a5 n5 m5, .slice a6 ss.length m6, .slice a7 n7 m7, .slice a8 P.dp.length m8] 31)
      have pc0 := alw (cell_of (o := 0) bx)
      have pc1 := alw (cell_of (o := 1) bx)
      have pc2 := alw (cell_of (o := 2) bx)
      have pc3 := alw (cell_of (o := 3) bx)
      have pc4 := alw (cell_of (o := 4) bx)
      have pc5 := alw (cell_of (o := 5) bx)
      have pc6 := alw (cell_of (o := 6) bx)
      have pc7 := alw (cell_of (o := 7) bx)
      have pc8 := alw (cell_of (o := 8) bx)
      clear bx
      have g1 : decide ((600 : Int) < (l.length : Int)) = true := decide_eq_true (by omega)
      clear hq hhs hmd hss hob hsrc hby
      dsimp only [Pg.PV.val]
      go_enter Try.func9, Try.ntmps9
      go_wp2_with fail
      refine (HTL.out _ grows).mono ?_
      rintro e w1 ⟨rfl, xw1⟩
      have sw1 := Step.mk xw1
      clear xw1
      go_wp2_with fail
      refine (pworks_any _).mono ?_
      rintro e wk ⟨rfl, xwk⟩
      have swk := Step.mk xwk
      clear xwk
      go_wp2_with fail
      go_ret
      exact ⟨rfl, grows⟩
  · have hob : Ps.okQ P ss = false := by simpa using hok
    clear hok
    obtain ⟨s, a1, a2, a3, a4, a5, a6, a7, a8, m1, m2, n3, m3, n4, m4, n5, m5, n6, m6, n7, m7, m8, hf⟩ := hq.1.form
    obtain ⟨rfl, hhs, hmd, _, hl1, hl2, _⟩ := hf
    have hss := hq.2
    dsimp only at hss
    obtain ⟨a6', m6', e6, hl6, hc6⟩ := hss.slice
    simp only [Value.slice.injEq] at e6
    obtain ⟨rfl, rfl, rfl⟩ := e6
    unfold maxLen at hc6
    have HTL : Hid (∀ w, Ext W w → Calls Try.prog 21 #[.agg #[.string s, .slice a1 P.hs.length m1, .slice a2 P.md.length m2, .slice a3 n3 m3, .slice a4 n4 m4, .slice a5 n5 m5, .slice a6 ss.length m6, .slice a7 n7 m7, .slice a8 P.dp.length m8]] w (Rets w (.bool true))) := Lib.hid (fun w hx => by have h := qtoolarge_any (hq.ext hx); rw [hob] at h; exact h)
    have bx := alloc_heap W (.cells #[.string s, .slice a1 P.hs.length m1, .slice a2 P.md.length m2, .slice a3 n3 m3, .slice a4 n4 m4, .slice a5 n5 m5, .slice a6 ss.length m6, .slice a7 n7 m7, .slice a8 P.dp.length m8] 31)
    have pc0 := alw (cell_of (o := 0) bx)
    have pc1 := alw (cell_of (o := 1) bx)
    have pc2 := alw (cell_of (o := 2) bx)
    have pc3 := alw (cell_of (o := 3) bx)
    have pc4 := alw (cell_of (o := 4) bx)
    have pc5 := alw (cell_of (o := 5) bx)
    have pc6 := alw (cell_of (o := 6) bx)
    have pc7 := alw (cell_of (o := 7) bx)
    have pc8 := alw (cell_of (o := 8) bx)
    clear bx
    clear hq hhs hmd hss hob hsrc hby
    dsimp only [Pg.PV.val]
    go_enter Try.func9, Try.ntmps9
    go_wp2_with fail
    refine (HTL.out _ grows).mono ?_
    rintro e w1 ⟨rfl, xw1⟩
    have sw1 := Step.mk xw1
    clear xw1
    go_wp2_with fail
    refine (pworks_any _).mono ?_
    rintro e wk ⟨rfl, xwk⟩
    have swk := Step.mk xwk
    clear xwk
    go_wp2_with fail
    go_ret
    exact ⟨rfl, grows⟩
end Go.Proofs.Ytonnlcjkgpahoaa
