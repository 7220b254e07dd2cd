/- Tries of prefixes: the law Order, walked. No condition. -/
import Derived.Test.YteefchbpojcklaaLp28
import Derived.Deep.CutRange
import Derived.Deep.RegionHeldLaw
import Derived.Test.YteefchbpojcklaaHead
namespace Go.Proofs.Yteefchbpojcklaa
open Go.RowKit

set_option maxRecDepth 8000 in
set_option maxHeartbeats 16000000 in
theorem lpmtrieOrder_walk (a0 : Int) (v1 v2 : Value) (W : World) (_ : (Lit.int .i64 a0).wf = true) {b1 b2 : Nat} {r1 r2 : Reach} {H : Type} {enc : TypeId × Value → H} {d1 d2 : DataW H} {p1 p2 : List MemPlace}
    (ok1 : Value.okWide Try.prog W r1 b1 22 v1) (h1 : DataW.Trod enc Try.prog W 0 (fun _ => true) true 22 v1 d1 p1)
    (ok2 : Value.okWide Try.prog W r2 b2 25 v2) (h2 : DataW.Trod enc Try.prog W 0 (fun _ => true) true 25 v2 d2 p2) :
    Calls Try.prog 3 #[.int .i64 a0, v1, v2] W (Rets W (.bool true)) := by
  obtain ⟨ac, hac⟩ := acs_take ok1 h1
  obtain ⟨⟨gd, gv, gn, gx0⟩, rfl, hgv⟩ := ac_take ok2 h2
  clear ok1 h1 ok2 h2
  dsimp only at hgv ⊢
  obtain ⟨oa, oc, rfl, _, hmx⟩ := hac.slice
  unfold maxLen at hmx
  by_cases hw : 1 ≤ a0 ∧ a0 ≤ 32
  · obtain ⟨w, rfl⟩ := Int.eq_ofNat_of_zero_le (show 0 ≤ a0 by omega)
    have hw1 : 1 ≤ w := by omega
    have hw2 : w ≤ 32 := by omega
    have HAC := Lib.hid hac
    clear hac hw
    by_cases hlen : ac.length ≤ 40
    · have hd : decide ((40 : Int) < (ac.length : Int)) = false := decide_eq_false (by omega)
      have bz := alloc_heap W (.cells #[.int .i64 gd, .int .u32 gv, .int .i64 gn, .int .i64 gx0] 25)
      obtain ⟨W0, hW0⟩ : ∃ z, z = W.alloc (.cells #[.int .i64 gd, .int .u32 gv, .int .i64 gn, .int .i64 gx0] 25) := ⟨_, rfl⟩
      have xW0 : Ext W W0 := by rw [hW0]; exact (Ext.refl W).alloc _
      have s0 := Step.mk xW0
      rw [← hW0] at bz
      have HW0 := Lib.hid hW0
      clear hW0 xW0
      obtain ⟨g5, hg5⟩ : ∃ z, z = W.heap.size := ⟨_, rfl⟩
      rw [← hg5] at bz
      have HG5 := Lib.hid hg5
      have z1 := alw (cell_of (o := 1) bz)
      have z2 := alw (cell_of (o := 2) bz)
      have z3 := alw (cell_of (o := 3) bz)
      clear bz hg5
      go_enter Try.func3, Try.ntmps3
      go_wp2_with fail
      rw [← HW0.out, ← HG5.out]
      refine (new_ok w hw1 hw2).mono ?_
      rintro e w1 ⟨ga, T0, rfl, x1, i0, b0, _, c0⟩
      have s1 := Step.mk x1
      have L0 := Lp.con_none_items (w := w) c0
      have HA1 : Hid (Ag W0 w1 ga w T0 (.slice none ([] : List Lp.Item).length 0) []) := Lib.hid ⟨i0, b0, ⟨rfl, .inl ⟨rfl, rfl⟩⟩, L0, grows⟩
      have HC0 := Lib.hid c0
      have HLT := Lib.hid (fun i hi => i0.tr.lt (i := i) hi)
      clear x1 i0 b0 c0 L0
      go_wp2_with fail
      refine (new_ok w hw1 hw2).mono ?_
      rintro e w2 ⟨gb, Tb, rfl, x2, i2, b2, _, c2⟩
      have s2 := Step.mk x2
      have HBB : Hid (∀ i ∈ Tb.blocks, W0.heap.size ≤ i) := Lib.hid (fun i hi => Nat.le_trans (grows (a := W0) (b := w1)).le (b2 i hi))
      have HDS : Hid (∀ i ∈ Tb.blocks, i ∉ T0.blocks) := Lib.hid (fun i hi h => by have h3 := HLT.out i h; have h4 := b2 i hi; omega)
      have HI2 := Lib.hid i2
      have HC2 := Lib.hid c2
      clear x2 i2 b2 c2 HLT
      go_wp2_with fail
      refine (r9new_ok hw1 hw2).mono ?_
      rintro e w3 ⟨rfl, x3⟩
      have s3 := Step.mk x3
      clear x3
      have HB11 := Lib.hid (alloc_heap w3 (.cells #[.int .i64 w, .slice none 0 0] 32))
      go_wp2_with fail
      obtain ⟨g11, hg11⟩ : ∃ z, z = w3.heap.size := ⟨_, rfl⟩
      have hg11w : W0.heap.size ≤ g11 := by rw [hg11]; exact (grows (a := W0) (b := w3)).le
      rw [← hg11] at HB11 ⊢
      clear hg11
      go_loopw [13, 14] (fun u i wr => ∃ (k : Nat) (Ta : Lp.Tr) (la : Option Addr) (lc : Nat) (L : List Lp.Item) (D : List Lp.Ac), k ≤ ac.length ∧ i = .int .i64 k ∧ Hid (OI W0 wr ga gb g11 w Ta Tb la lc L u D ∧ Lp.Done w Ta D ∧ L.length ≤ k ∧ D.length ≤ k)) (fun _ i _ => ac.length - (intOf i).toNat)
      case atStart => exact ⟨0, T0, none, 0, [], [], Nat.zero_le _, rfl, Lib.hid ⟨⟨HA1.out.ext' grows, HI2.out.ext grows, HBB.out, HDS.out, Ext.heap grows HB11.out, ⟨rfl, .inl ⟨rfl, rfl⟩⟩⟩, Lp.Done.nil HC0.out, Nat.zero_le _, Nat.zero_le _⟩⟩
      case round =>
        obtain ⟨k, Ta, la, lc, L, D, hk, rfl, HI⟩ := hrel
        obtain ⟨oi, dn, hL, hD⟩ := HI.out
        obtain ⟨da, dc, rfl⟩ := own_slice oi.ow
        have sr : Step W0 wr := Step.mk oi.ag.ext
        have HB := Lib.hid oi.bx
        have HOI := Lib.hid oi
        have HDN := Lib.hid dn
        have c0 := cell_of (o := 0) oi.bx
        have c1 := cell_of (o := 1) oi.bx
        clear HI oi dn
        rcases Nat.lt_or_ge k ac.length with hlt | hge
        · obtain ⟨⟨d, v, n, x⟩, hka⟩ : ∃ y, ac[k]? = some y := ⟨_, List.getElem?_eq_getElem hlt⟩
          obtain ⟨ab, ao, rfl, _, hcells⟩ := Rows.at HAC.out (by omega)
          obtain ⟨cs, _, ⟨rfl, hv⟩, hcs⟩ := hcells k _ hka
          dsimp only at hv
          have y := alw (show W.cell? ⟨ab, ao + k * 4, none⟩ = _ from hcs 0 _ rfl)
          have y0 := alw (hcs 1 _ rfl)
          have y1 := alw (hcs 2 _ rfl)
          have y2 := alw (hcs 3 _ rfl)
          dsimp only at y y0 y1 y2
          obtain ⟨L1, hL1⟩ : ∃ z, z = Lp.insLL L w v n x := ⟨_, rfl⟩
          obtain ⟨eE, hE⟩ : ∃ z, z = Lp.insLE L w v n := ⟨_, rfl⟩
          have HL1 : Hid (L1.length ≤ L.length + 1) := Lib.hid (by rw [hL1]; unfold Lp.insLL; split; (· rw [Lp.ins_len]; exact Nat.le_refl _); (· omega))
          have HRI : Hid (∀ w', Ext wr w' → Calls Try.prog 11 #[.agg #[.int .i64 w, .slice la L.length lc], .int .u32 v, .int .i64 n, .int .i64 x] w' (fun e W' => ∃ la' lc', e = .returned (.tuple #[.agg #[.int .i64 w, .slice la' L1.length lc'], .int .i64 eE]) ∧ Ext w' W' ∧ OwnI W' 0 (.slice la' L1.length lc') L1)) := Lib.hid (fun w' hx => by
            obtain ⟨_, _, he, _, hla⟩ := HOI.out.ag.form
            simp only [Value.slice.injEq, true_and] at he
            obtain ⟨rfl, rfl⟩ := he
            have h1 := r9insert_any hw1 hw2 (own_ext HOI.out.ag.own hx) hla (by omega) v hv n x
            unfold InsQ at h1
            rw [← hL1, ← hE] at h1
            exact h1)
          have HAI : Hid (∀ w', Ext wr w' → Calls Try.prog 12 #[.pointer (some ⟨ga, 0, none⟩), .int .u32 v, .int .i64 n, .int .i64 x] w' (fun e W' => ∃ T', e = .returned (.int .i64 eE) ∧ Did w' ga w Ta T' W' ∧ Lp.items w T' 0 0 = L1 ∧ (eE = 0 → Lp.Done w T' (D ++ [⟨d, v, n, x⟩])))) := Lib.hid (fun w' hx => by
            refine (insert_any (HOI.out.ag.is.ext hx) v hv n x).mono ?_
            rintro e W' ⟨T', rfl, h2, h3⟩
            have e1 : Lp.insE Ta w v n = eE := by rw [hE, ← HOI.out.ag.eq, Lp.insLE_items]
            refine ⟨T', by rw [e1], h2, ?_, fun h0 => HDN.out.snoc (a := ⟨d, v, n, x⟩) hv (by rw [← h0]; exact e1) h3⟩
            rw [hL1, ← HOI.out.ag.eq]; exact Lp.insLL_items h3)
          clear hka hcells hcs hL1 hE
          go_upto_region 10 with (fail)
          have p0 : wr.cell? ⟨g11, 0, none⟩ = some (.int .i64 w) := c0
          have p1 : wr.cell? ⟨g11, 1, none⟩ = some (.slice la L.length lc) := c1
          have p2 : wr.cell? ⟨ab, ao + k * 4 + 1, none⟩ = some (.int .u32 v) := y0 wr
          have p3 : wr.cell? ⟨ab, ao + k * 4 + 2, none⟩ = some (.int .i64 n) := y1 wr
          have p4 : wr.cell? ⟨ab, ao + k * 4 + 3, none⟩ = some (.int .i64 x) := y2 wr
          clear c0 c1
          have lt7 : g11 < wr.heap.size := (Array.getElem?_eq_some_iff.1 HB.out).1
          have ltb : ab < wr.heap.size := World.block_lt_of_cell? _ _ p2
          have n71 : g11 ≠ wr.heap.size := by omega
          have n72 : wr.heap.size ≠ g11 := by omega
          have nb1 : ab ≠ wr.heap.size := by omega
          have nb2 : wr.heap.size ≠ ab := by omega
          clear lt7 ltb
          go_region_held_law (fun w' => w'.cell? ⟨g11, 0, none⟩ = some (.int .i64 w) ∧ w'.cell? ⟨g11, 1, none⟩ = some (.slice la L.length lc) ∧ w'.cell? ⟨ab, ao + k * 4 + 1, none⟩ = some (.int .u32 v) ∧ w'.cell? ⟨ab, ao + k * 4 + 2, none⟩ = some (.int .i64 n) ∧ w'.cell? ⟨ab, ao + k * 4 + 3, none⟩ = some (.int .i64 x)) (go_keep) (first | (go_at_call 11; go_loud (first | (refine (HRI.out _ ((Ext.refl wr).drew)).mono ?_; rintro e w3 ⟨la', lc', rfl, x3, o3⟩; have XR := ((Ext.refl wr).drew); have r0 : w3.cell? ⟨g11, 0, none⟩ = some (.int .i64 w) := cell_of (o := 0) (x3.heap (XR.heap HB.out)); have r1 : w3.cell? ⟨g11, 1, none⟩ = some (.slice la L.length lc) := cell_of (o := 1) (x3.heap (XR.heap HB.out)); have s3 : Step wr w3 := Step.mk (XR.trans x3); have r2 : w3.cell? ⟨ab, ao + k * 4 + 1, none⟩ = some (.int .u32 v) := y0 w3; have r3 : w3.cell? ⟨ab, ao + k * 4 + 2, none⟩ = some (.int .i64 n) := y1 w3; have r4 : w3.cell? ⟨ab, ao + k * 4 + 3, none⟩ = some (.int .i64 x) := y2 w3; have X3 := Lib.hid (XR.trans x3); have O3 := Lib.hid o3; clear XR x3 o3 s3) | (refine (HRI.out _ (((Ext.refl wr).alloc (.cells #[.int .i64 0, .slice none 0 0] 32)).drew)).mono ?_; rintro e w3 ⟨la', lc', rfl, x3, o3⟩; have XR := (((Ext.refl wr).alloc (.cells #[.int .i64 0, .slice none 0 0] 32)).drew); have kt : w3.heap[wr.heap.size]? = some (.cells #[.int .i64 0, .slice none 0 0] 32 (0, 0)) := x3.heap (alloc_heap _ _); have t0 := cell_of (o := 0) kt; have t1 := cell_of (o := 1) kt; have ft0 := free_of (o := 0) kt; have ft1 := free_of (o := 1) kt; have KT := Lib.hid kt; clear kt; have r0 : w3.cell? ⟨g11, 0, none⟩ = some (.int .i64 w) := cell_of (o := 0) (x3.heap (XR.heap HB.out)); have r1 : w3.cell? ⟨g11, 1, none⟩ = some (.slice la L.length lc) := cell_of (o := 1) (x3.heap (XR.heap HB.out)); have s3 : Step wr w3 := Step.mk (XR.trans x3); have r2 : w3.cell? ⟨ab, ao + k * 4 + 1, none⟩ = some (.int .u32 v) := y0 w3; have r3 : w3.cell? ⟨ab, ao + k * 4 + 2, none⟩ = some (.int .i64 n) := y1 w3; have r4 : w3.cell? ⟨ab, ao + k * 4 + 3, none⟩ = some (.int .i64 x) := y2 w3; have X3 := Lib.hid (XR.trans x3); have O3 := Lib.hid o3; clear XR x3 o3 s3))))
          · clear r0 r1 r2 r3 r4 p0 p1 p2 p3 p4
            have kx := alloc_heap w3 (.cells #[.int .i64 w, .slice la' L1.length lc'] 32)
            obtain ⟨gx, hgx⟩ : ∃ z, z = w3.heap.size := ⟨_, rfl⟩
            have xx := X3.out.trans ((Ext.refl w3).alloc (.cells #[.int .i64 w, .slice la' L1.length lc'] 32))
            have ox := own_ext O3.out ((Ext.refl w3).alloc (.cells #[.int .i64 w, .slice la' L1.length lc'] 32))
            have hge : wr.heap.size ≤ gx := by rw [hgx]; exact X3.out.le
            obtain ⟨wx, hwx⟩ : ∃ z, z = w3.alloc (.cells #[.int .i64 w, .slice la' L1.length lc'] 32) := ⟨_, rfl⟩
            rw [← hwx] at kx xx ox ⊢
            rw [← hgx] at kx ⊢
            clear hwx hgx X3 O3
            have sx : Step wr wx := Step.mk xx
            have hgx : g11 ≠ gx := by have := (Array.getElem?_eq_some_iff.1 HB.out).1; omega
            have hgw : W0.heap.size ≤ gx := Nat.le_trans HOI.out.ag.ext.le hge
            have OIX := Lib.hid (HOI.out.ext xx)
            have XX := Lib.hid xx
            have OX := Lib.hid ox
            have KX := Lib.hid kx
            have k0 := alw (cell_of (o := 0) kx)
            have k1 := alw (cell_of (o := 1) kx)
            clear xx ox kx hge
            by_cases hE0 : eE = 0
            · subst hE0
              go_upto_region 11 with (fail)
              refine wp_region_later_then (W := wx) 19 3 #[true, true, true, true, true, true, true, true, true, true, true, true, true, true, true, true, true, true, true, false, false, false] (by kernel_rfl) (by kernel_rfl) rfl (Ext.refl _) ?_
              simp only [List.take_succ_cons, List.take_zero]
              repeat (go_big_quiet_step (fail))
              refine wpQuiet_nil ?_
              intro w6 x6
              refine wpAny_ready (rs := [19]) (by kernel_rfl) (by simp) (AllReady.cons rfl (fun K hK => ?_) AllReady.nil)
              go_simp
              refine (HAI.out _ (XX.out.trans x6)).mono ?_
              rintro e wy ⟨T', rfl, dd, hit, hdn⟩
              have oi6 := OIX.out.ext x6
              have hT := oi6.ag.is.tr
              have ky := dd.other hT (x6.heap KX.out) (by decide)
              have kb := dd.other hT oi6.bx (by decide)
              have u0 := cell_of (o := 0) ky
              have u1 := cell_of (o := 1) ky
              have f0 := cell_of (o := 0) kb
              have f1 := cell_of (o := 1) kb
              have ff0 := free_of (o := 0) kb
              have ff1 := free_of (o := 1) kb
              obtain ⟨md, hb⟩ := set2c (.int .i64 w) (.slice la' L1.length lc') kb
              have hnx := oi6.next hg11w (own_ext OX.out x6) dd hit md hb
              have HN := Lib.hid hnx
              have HD2 := Lib.hid (hdn rfl)
              clear oi6 hT ky kb md hb hnx hdn hit dd k0 k1 sx
              go_wp2_with fail
              refine wpAny_take (i := 20) (v := ?_) rfl (by kernel_rfl) (by kernel_rfl) (by kernel_rfl) (fun _ _ _ h => h) (Or.inl ⟨by rfl, ?_⟩) ?_
              rotate_left 1
              · intro w; go_simp <;> with_reducible rfl
              refine wpAny_take (i := 21) (v := ?_) rfl (by kernel_rfl) (by kernel_rfl) (by kernel_rfl) (fun _ _ _ h => h) (Or.inl ⟨by rfl, ?_⟩) ?_
              rotate_left 1
              · intro w; go_simp <;> with_reducible rfl
              refine wpAny_done (by kernel_rfl) ?_ _
              go_upto_region 13 with (fail)
              clear u0 u1 f0 f1 ff0 ff1
              obtain ⟨wz, hwz⟩ : ∃ z, z = (wy.setCell ⟨g11, 0, none⟩ (.int .i64 w)).setCell ⟨g11, 1, none⟩ (.slice la' L1.length lc') := ⟨_, rfl⟩
              rw [← hwz] at HN ⊢
              clear hwz
              have sz : Step W0 wz := Step.mk HN.out.ag.ext
              have hz := HN.out.ag.ext.le
              have ho8 := own_ext HN.out.ow ((Ext.refl wz).alloc (.cells #[.int .i64 d, .int .u32 v, .int .i64 n, .int .i64 x] 25))
              have hs8 := src_act wz ⟨d, v, n, x⟩
              go_wp2_with (at_builtin; refine wpList_append_src rfl (.tmp 96) (.tmp 101) 22 rfl W0.heap.size 25 _ 4 32 Try.underlying22 info_act rfl (by decide) _ D.length (acsC D) rfl ho8 _ 1 (acC ⟨d, v, n, x⟩) rfl hs8 ?c1 ?c2 ?c3 ?_)
              case c1 => unfold maxLen; omega
              case c2 => omega
              case c3 => first | omega | (rw [World.size_alloc]; omega)
              intro v8 w8 ho9 hg8 _
              obtain ⟨oa8, cc8, rfl⟩ := own_slice ho9
              have HP := Lib.hid ((HN.out.ext ((Ext.refl wz).alloc (.cells #[.int .i64 d, .int .u32 v, .int .i64 n, .int .i64 x] 25))).push (a := ⟨d, v, n, x⟩) hg8 ho9)
              have s8 : Step W0 w8 := Step.mk HP.out.ag.ext
              have hlL := HL1.out
              clear ho9 hg8 ho8 hs8 y y0 y1 y2
              go_wp2_with fail
              go_roundw
              case rel => exact ⟨k + 1, T', la', lc', L1, D ++ [⟨d, v, n, x⟩], by omega, by go_num, Lib.hid ⟨HP.out.ext grows, HD2.out, by omega, by rw [List.length_append, List.length_singleton]; omega⟩⟩
              case measure => simp [intOf]; omega
            · have z5 : (eE == 0) = false := beq_eq_false_iff_ne.2 hE0
              go_wp2_with fail
              refine wp_region_later (W := wx) (by kernel_rfl) (by kernel_rfl) grows ?_
              repeat (go_big_quiet_step (fail))
              refine wpQuiet_nil ?_
              intro w8 x8
              have s8 := Step.mk x8
              clear x8
              go_wp2_with fail
              go_roundw
              case rel => exact ⟨k + 1, Ta, la, lc, L, D, by omega, by go_num, Lib.hid ⟨OIX.out.ext grows, HDN.out, by omega, by omega⟩⟩
              case measure => simp [intOf]; omega
          · clear r0 r1 r2 r3 r4 p0 p1 p2 p3 p4 t0 t1 ft0 ft1
            obtain ⟨mdx, kx⟩ := set2c (.int .i64 w) (.slice la' L1.length lc') KT.out
            have xx := X3.out.mod mdx (fun q hq => by rw [hq]; exact Nat.le_refl _)
            have ox := own_mod_at O3.out mdx KT.out (by decide)
            obtain ⟨gx, hgx⟩ : ∃ z, z = wr.heap.size := ⟨_, rfl⟩
            have hge : wr.heap.size ≤ gx := by omega
            obtain ⟨wx, hwx⟩ : ∃ z, z = (w3.setCell ⟨wr.heap.size, 0, none⟩ (.int .i64 w)).setCell ⟨wr.heap.size, 1, none⟩ (.slice la' L1.length lc') := ⟨_, rfl⟩
            rw [← hwx] at kx xx ox ⊢
            rw [← hgx] at kx ⊢
            clear hwx hgx X3 O3 KT mdx
            have sx : Step wr wx := Step.mk xx
            have hgx : g11 ≠ gx := by have := (Array.getElem?_eq_some_iff.1 HB.out).1; omega
            have hgw : W0.heap.size ≤ gx := Nat.le_trans HOI.out.ag.ext.le hge
            have OIX := Lib.hid (HOI.out.ext xx)
            have XX := Lib.hid xx
            have OX := Lib.hid ox
            have KX := Lib.hid kx
            have k0 := alw (cell_of (o := 0) kx)
            have k1 := alw (cell_of (o := 1) kx)
            clear xx ox kx hge
            by_cases hE0 : eE = 0
            · subst hE0
              go_upto_region 11 with (fail)
              refine wp_region_later_then (W := wx) 19 3 #[true, true, true, true, true, true, true, true, true, true, true, true, true, true, true, true, true, true, true, false, false, false] (by kernel_rfl) (by kernel_rfl) rfl (Ext.refl _) ?_
              simp only [List.take_succ_cons, List.take_zero]
              repeat (go_big_quiet_step (fail))
              refine wpQuiet_nil ?_
              intro w6 x6
              refine wpAny_ready (rs := [19]) (by kernel_rfl) (by simp) (AllReady.cons rfl (fun K hK => ?_) AllReady.nil)
              go_simp
              refine (HAI.out _ (XX.out.trans x6)).mono ?_
              rintro e wy ⟨T', rfl, dd, hit, hdn⟩
              have oi6 := OIX.out.ext x6
              have hT := oi6.ag.is.tr
              have ky := dd.other hT (x6.heap KX.out) (by decide)
              have kb := dd.other hT oi6.bx (by decide)
              have u0 := cell_of (o := 0) ky
              have u1 := cell_of (o := 1) ky
              have f0 := cell_of (o := 0) kb
              have f1 := cell_of (o := 1) kb
              have ff0 := free_of (o := 0) kb
              have ff1 := free_of (o := 1) kb
              obtain ⟨md, hb⟩ := set2c (.int .i64 w) (.slice la' L1.length lc') kb
              have hnx := oi6.next hg11w (own_ext OX.out x6) dd hit md hb
              have HN := Lib.hid hnx
              have HD2 := Lib.hid (hdn rfl)
              clear oi6 hT ky kb md hb hnx hdn hit dd k0 k1 sx
              go_wp2_with fail
              refine wpAny_take (i := 20) (v := ?_) rfl (by kernel_rfl) (by kernel_rfl) (by kernel_rfl) (fun _ _ _ h => h) (Or.inl ⟨by rfl, ?_⟩) ?_
              rotate_left 1
              · intro w; go_simp <;> with_reducible rfl
              refine wpAny_take (i := 21) (v := ?_) rfl (by kernel_rfl) (by kernel_rfl) (by kernel_rfl) (fun _ _ _ h => h) (Or.inl ⟨by rfl, ?_⟩) ?_
              rotate_left 1
              · intro w; go_simp <;> with_reducible rfl
              refine wpAny_done (by kernel_rfl) ?_ _
              go_upto_region 13 with (fail)
              clear u0 u1 f0 f1 ff0 ff1
              obtain ⟨wz, hwz⟩ : ∃ z, z = (wy.setCell ⟨g11, 0, none⟩ (.int .i64 w)).setCell ⟨g11, 1, none⟩ (.slice la' L1.length lc') := ⟨_, rfl⟩
              rw [← hwz] at HN ⊢
              clear hwz
              have sz : Step W0 wz := Step.mk HN.out.ag.ext
              have hz := HN.out.ag.ext.le
              have ho8 := own_ext HN.out.ow ((Ext.refl wz).alloc (.cells #[.int .i64 d, .int .u32 v, .int .i64 n, .int .i64 x] 25))
              have hs8 := src_act wz ⟨d, v, n, x⟩
              go_wp2_with (at_builtin; refine wpList_append_src rfl (.tmp 96) (.tmp 101) 22 rfl W0.heap.size 25 _ 4 32 Try.underlying22 info_act rfl (by decide) _ D.length (acsC D) rfl ho8 _ 1 (acC ⟨d, v, n, x⟩) rfl hs8 ?c1 ?c2 ?c3 ?_)
              case c1 => unfold maxLen; omega
              case c2 => omega
              case c3 => first | omega | (rw [World.size_alloc]; omega)
              intro v8 w8 ho9 hg8 _
              obtain ⟨oa8, cc8, rfl⟩ := own_slice ho9
              have HP := Lib.hid ((HN.out.ext ((Ext.refl wz).alloc (.cells #[.int .i64 d, .int .u32 v, .int .i64 n, .int .i64 x] 25))).push (a := ⟨d, v, n, x⟩) hg8 ho9)
              have s8 : Step W0 w8 := Step.mk HP.out.ag.ext
              have hlL := HL1.out
              clear ho9 hg8 ho8 hs8 y y0 y1 y2
              go_wp2_with fail
              go_roundw
              case rel => exact ⟨k + 1, T', la', lc', L1, D ++ [⟨d, v, n, x⟩], by omega, by go_num, Lib.hid ⟨HP.out.ext grows, HD2.out, by omega, by rw [List.length_append, List.length_singleton]; omega⟩⟩
              case measure => simp [intOf]; omega
            · have z5 : (eE == 0) = false := beq_eq_false_iff_ne.2 hE0
              go_wp2_with fail
              refine wp_region_later (W := wx) (by kernel_rfl) (by kernel_rfl) grows ?_
              repeat (go_big_quiet_step (fail))
              refine wpQuiet_nil ?_
              intro w8 x8
              have s8 := Step.mk x8
              clear x8
              go_wp2_with fail
              go_roundw
              case rel => exact ⟨k + 1, Ta, la, lc, L, D, by omega, by go_num, Lib.hid ⟨OIX.out.ext grows, HDN.out, by omega, by omega⟩⟩
              case measure => simp [intOf]; omega
        · obtain rfl : k = ac.length := by omega
          have c0 := alw c0
          have c1 := alw c1
          obtain ⟨o1, ho1⟩ : ∃ z, z = Lp.gv (Lp.getL L w gv gn) := ⟨_, rfl⟩
          obtain ⟨th, hth⟩ : ∃ z, z = (Lp.getL L w gv gn).isSome := ⟨_, rfl⟩
          have HG : Hid (∀ w', Ext wr w' → Calls Try.prog 13 #[.agg #[.int .i64 w, .slice la L.length lc], .int .u32 gv, .int .i64 gn] w' (Rets w' (.tuple #[.int .i64 o1, .bool th]))) := Lib.hid (fun w' hx => by have h1 := r9get_any hw1 hw2 (items_ext HOI.out.ag.own.rows hx) gv hgv gn; rw [← ho1, ← hth] at h1; exact h1)
          clear ho1 hth
          go_wp2_with fail
          refine (HG.out _ grows).mono ?_
          rintro e w6 ⟨rfl, x6⟩
          have s6 := Step.mk x6
          have HQ0 := Lib.hid (HOI.out.ext (show Ext wr w6 from grows))
          clear x6
          cases th with
          | true =>
            have HQ : Hid (OI W0 w6 ga gb g11 w Ta Tb la lc L (.slice da D.length dc) D ∧ ∀ q, Tb.con q = none) := Lib.hid ⟨HQ0.out, HC2.out⟩
            go_wp2_with fail
            go_loopw [19] (fun i wr => ∃ (j : Nat) (Tj : Lp.Tr), j ≤ D.length ∧ i = .int .i64 ((j : Int) - 1) ∧ Hid (OI W0 wr ga gb g11 w Ta Tj la lc L (.slice da D.length dc) D ∧ ∀ q, Tj.con q = Lp.assoc w (D.drop j) q)) (fun i _ => (intOf i + 1).toNat)
            case atStart => exact ⟨D.length, _, Nat.le_refl _, by go_num, Lib.hid ⟨HQ.out.1.ext grows, fun q => by rw [HQ.out.2 q, List.drop_length]; rfl⟩⟩
            case round =>
              obtain ⟨j, Tj, hj, rfl, HX⟩ := hrel
              have sj : Step W0 wr := Step.mk HX.out.1.ag.ext
              have e0 := alw (cell_of (o := 0) HX.out.1.bx)
              have e1 := alw (cell_of (o := 1) HX.out.1.bx)
              rcases Nat.eq_zero_or_pos j with hj0 | hj0
              · subst hj0
                have HSA : Hid (∀ w', Ext wr w' → Calls Try.prog 15 #[.pointer (some ⟨ga, 0, none⟩), .agg #[.int .i64 w, .slice la L.length lc]] w' (Rets w' (.bool true))) := Lib.hid (fun w' hx => same_any (HX.out.1.ag.ext' hx) (by omega))
                have HSB : Hid (∀ w', Ext wr w' → Calls Try.prog 15 #[.pointer (some ⟨gb, 0, none⟩), .agg #[.int .i64 w, .slice la L.length lc]] w' (Rets w' (.bool true))) := Lib.hid (fun w' hx => by
                  have o := HX.out.1.ext hx
                  have ag : Ag W0 w' gb w Tj (.slice la L.length lc) L := ⟨o.ib, o.bb, o.ag.own, by rw [← o.ag.eq]; exact Lp.items_same (fun q => by rw [HX.out.2 q, HDN.out.con q]; rfl), o.ag.ext⟩
                  exact same_any ag (by omega))
                go_wp2_with fail
                refine (HSA.out _ grows).mono ?_
                rintro e w7 ⟨rfl, x7⟩
                have s7 := Step.mk x7
                clear x7
                go_wp2_with fail
                refine (HSB.out _ grows).mono ?_
                rintro e w8 ⟨rfl, x8⟩
                have s8 := Step.mk x8
                clear x8
                go_wp2_with fail
                refine (works_any _).mono ?_
                rintro e w9 ⟨rfl, x9⟩
                have s9 := Step.mk x9
                clear x9
                go_wp2_with fail
                go_ret
                exact ⟨rfl, grows⟩
              · obtain ⟨i, rfl⟩ : ∃ i, j = i + 1 := ⟨j - 1, by omega⟩
                rw [show (((i + 1 : Nat) : Int) - 1) = (i : Int) by omega]
                obtain ⟨⟨d, v, n, x⟩, hDi⟩ : ∃ y, D[i]? = some y := ⟨_, List.getElem?_eq_getElem (by omega)⟩
                have hrw : Rows wr 4 (fun _ cs a => cs = acC a) (.slice da D.length dc) D := rows_of_own (fun _ => rfl) (fun _ => rfl) HX.out.1.ow
                obtain ⟨bd, od, rfl, _, hat⟩ := hrw.at (by omega)
                obtain ⟨cs, _, rfl, hcs⟩ := hat i _ hDi
                have y0 := alw (hcs 1 _ rfl)
                have y1 := alw (hcs 2 _ rfl)
                have y2 := alw (hcs 3 _ rfl)
                have hE := Lp.back_ok HDN.out hDi HX.out.2
                have hv := (HDN.out.fit _ (List.mem_of_getElem? hDi)).2
                have HBJ : Hid (∀ w', Ext wr w' → Calls Try.prog 12 #[.pointer (some ⟨gb, 0, none⟩), .int .u32 v, .int .i64 n, .int .i64 x] w' (fun e W' => ∃ T', e = .returned (.int .i64 0) ∧ Did w' gb w Tj T' W' ∧ ∀ q, T'.con q = Lp.assoc w (D.drop i) q)) := Lib.hid (fun w' hx => by
                  refine (insert_any (HX.out.1.ib.ext hx) v hv n x).mono ?_
                  rintro e W' ⟨T', rfl, h2, h3⟩
                  exact ⟨T', by rw [hE], h2, Lp.back_con hDi HX.out.2 hE h3⟩)
                clear hat hcs hrw hDi hE hv e0 e1
                go_upto_region 20 with (fail)
                refine wp_region_later_then (W := wr) 16 2 #[true, true, true, true, true, true, true, true, true, true, true, true, true, true, true, true, false, false] (by kernel_rfl) (by kernel_rfl) rfl (Ext.refl _) ?_
                simp only [List.take_succ_cons, List.take_zero]
                repeat (go_big_quiet_step (fail))
                refine wpQuiet_nil ?_
                intro w7 x7
                refine wpAny_ready (rs := [16]) (by kernel_rfl) (by simp) (AllReady.cons rfl (fun K hK => ?_) AllReady.nil)
                go_simp
                refine (HBJ.out _ x7).mono ?_
                rintro e w8 ⟨T8, rfl, d8, c8⟩
                have HN := Lib.hid ((HX.out.1.ext x7).other d8)
                have HC8 := Lib.hid c8
                have s8 : Step W0 w8 := Step.mk HN.out.ag.ext
                clear d8 c8 y0 y1 y2
                go_wp2_with fail
                refine wpAny_take (i := 17) (v := ?_) rfl (by kernel_rfl) (by kernel_rfl) (by kernel_rfl) (fun _ _ _ h => h) (Or.inl ⟨by rfl, ?_⟩) ?_
                rotate_left 1
                · intro w; go_simp <;> with_reducible rfl
                refine wpAny_done (by kernel_rfl) ?_ _
                go_wp2_with fail
                go_roundw
                case rel => exact ⟨i, T8, by omega, by go_num, Lib.hid ⟨HN.out.ext grows, HC8.out⟩⟩
                case measure => first | (simp [intOf]; done) | (simp [intOf]; omega)
          | false =>
            have HBI : Hid (∀ w', Ext w6 w' → Calls Try.prog 12 #[.pointer (some ⟨gb, 0, none⟩), .int .u32 gv, .int .i64 gn, .int .i64 gx0] w' (InsP w' gb w Tb gv gn gx0)) := Lib.hid (fun w' hx => insert_any (HQ0.out.ib.ext hx) gv hgv gn gx0)
            unfold InsP at HBI
            by_cases hE0 : Lp.insE Tb w gv gn = 0
            · rw [hE0] at HBI
              go_wp2_with fail
              refine (HBI.out _ grows).mono ?_
              rintro e w7 ⟨T7, rfl, d7, c7⟩
              have HQ1 := Lib.hid ((HQ0.out.ext (show Ext w6 _ from grows)).other d7)
              have s7 : Step W0 w7 := Step.mk HQ1.out.ag.ext
              have hp := (Lp.insE_zero hE0).1
              have hg7 : (Lp.get T7 w gv gn).isSome = true := by
                unfold Lp.get
                rw [hp, cond_true, c7]
                simp
              have HC7 := Lib.hid c7
              have HP := Lib.hid hp
              have HD : Hid (∀ w', Ext w7 w' → Calls Try.prog 14 #[.pointer (some ⟨gb, 0, none⟩), .int .u32 gv, .int .i64 gn] w' (fun e W' => ∃ T', e = .returned (.bool true) ∧ Did w' gb w T7 T' W' ∧ ∀ q, T'.con q = bif (Lp.pfx w gv gn && decide (q = Lp.path w gv gn.toNat)) then none else T7.con q)) := Lib.hid (fun w' hx => by have h1 := delete_any (HQ1.out.ib.ext hx) gv hgv gn; rw [hg7] at h1; exact h1)
              clear d7 c7 hp hg7
              go_wp2_with fail
              refine (HD.out _ grows).mono ?_
              rintro e w8 ⟨T8, rfl, d8, c8⟩
              have HQ : Hid (OI W0 w8 ga gb g11 w Ta T8 la lc L (.slice da D.length dc) D ∧ ∀ q, T8.con q = none) := Lib.hid ⟨(HQ1.out.ext (show Ext w7 _ from grows)).other d8, fun q => by
                rw [c8, HP.out]
                by_cases hq : q = Lp.path w gv gn.toNat
                · rw [decide_eq_true hq]; rfl
                · rw [decide_eq_false hq, HC7.out, decide_eq_false hq, HC2.out q]; rfl⟩
              have s8 : Step W0 w8 := Step.mk HQ.out.1.ag.ext
              clear d8 c8
              go_wp2_with fail
              go_loopw [19] (fun i wr => ∃ (j : Nat) (Tj : Lp.Tr), j ≤ D.length ∧ i = .int .i64 ((j : Int) - 1) ∧ Hid (OI W0 wr ga gb g11 w Ta Tj la lc L (.slice da D.length dc) D ∧ ∀ q, Tj.con q = Lp.assoc w (D.drop j) q)) (fun i _ => (intOf i + 1).toNat)
              case atStart => exact ⟨D.length, _, Nat.le_refl _, by go_num, Lib.hid ⟨HQ.out.1.ext grows, fun q => by rw [HQ.out.2 q, List.drop_length]; rfl⟩⟩
              case round =>
                obtain ⟨j, Tj, hj, rfl, HX⟩ := hrel
                have sj : Step W0 wr := Step.mk HX.out.1.ag.ext
                have e0 := alw (cell_of (o := 0) HX.out.1.bx)
                have e1 := alw (cell_of (o := 1) HX.out.1.bx)
                rcases Nat.eq_zero_or_pos j with hj0 | hj0
                · subst hj0
                  have HSA : Hid (∀ w', Ext wr w' → Calls Try.prog 15 #[.pointer (some ⟨ga, 0, none⟩), .agg #[.int .i64 w, .slice la L.length lc]] w' (Rets w' (.bool true))) := Lib.hid (fun w' hx => same_any (HX.out.1.ag.ext' hx) (by omega))
                  have HSB : Hid (∀ w', Ext wr w' → Calls Try.prog 15 #[.pointer (some ⟨gb, 0, none⟩), .agg #[.int .i64 w, .slice la L.length lc]] w' (Rets w' (.bool true))) := Lib.hid (fun w' hx => by
                    have o := HX.out.1.ext hx
                    have ag : Ag W0 w' gb w Tj (.slice la L.length lc) L := ⟨o.ib, o.bb, o.ag.own, by rw [← o.ag.eq]; exact Lp.items_same (fun q => by rw [HX.out.2 q, HDN.out.con q]; rfl), o.ag.ext⟩
                    exact same_any ag (by omega))
                  go_wp2_with fail
                  refine (HSA.out _ grows).mono ?_
                  rintro e w7 ⟨rfl, x7⟩
                  have s7 := Step.mk x7
                  clear x7
                  go_wp2_with fail
                  refine (HSB.out _ grows).mono ?_
                  rintro e w8 ⟨rfl, x8⟩
                  have s8 := Step.mk x8
                  clear x8
                  go_wp2_with fail
                  refine (works_any _).mono ?_
                  rintro e w9 ⟨rfl, x9⟩
                  have s9 := Step.mk x9
                  clear x9
                  go_wp2_with fail
                  go_ret
                  exact ⟨rfl, grows⟩
                · obtain ⟨i, rfl⟩ : ∃ i, j = i + 1 := ⟨j - 1, by omega⟩
                  rw [show (((i + 1 : Nat) : Int) - 1) = (i : Int) by omega]
                  obtain ⟨⟨d, v, n, x⟩, hDi⟩ : ∃ y, D[i]? = some y := ⟨_, List.getElem?_eq_getElem (by omega)⟩
                  have hrw : Rows wr 4 (fun _ cs a => cs = acC a) (.slice da D.length dc) D := rows_of_own (fun _ => rfl) (fun _ => rfl) HX.out.1.ow
                  obtain ⟨bd, od, rfl, _, hat⟩ := hrw.at (by omega)
                  obtain ⟨cs, _, rfl, hcs⟩ := hat i _ hDi
                  have y0 := alw (hcs 1 _ rfl)
                  have y1 := alw (hcs 2 _ rfl)
                  have y2 := alw (hcs 3 _ rfl)
                  have hE := Lp.back_ok HDN.out hDi HX.out.2
                  have hv := (HDN.out.fit _ (List.mem_of_getElem? hDi)).2
                  have HBJ : Hid (∀ w', Ext wr w' → Calls Try.prog 12 #[.pointer (some ⟨gb, 0, none⟩), .int .u32 v, .int .i64 n, .int .i64 x] w' (fun e W' => ∃ T', e = .returned (.int .i64 0) ∧ Did w' gb w Tj T' W' ∧ ∀ q, T'.con q = Lp.assoc w (D.drop i) q)) := Lib.hid (fun w' hx => by
                    refine (insert_any (HX.out.1.ib.ext hx) v hv n x).mono ?_
                    rintro e W' ⟨T', rfl, h2, h3⟩
                    exact ⟨T', by rw [hE], h2, Lp.back_con hDi HX.out.2 hE h3⟩)
                  clear hat hcs hrw hDi hE hv e0 e1
                  go_upto_region 20 with (fail)
                  refine wp_region_later_then (W := wr) 16 2 #[true, true, true, true, true, true, true, true, true, true, true, true, true, true, true, true, false, false] (by kernel_rfl) (by kernel_rfl) rfl (Ext.refl _) ?_
                  simp only [List.take_succ_cons, List.take_zero]
                  repeat (go_big_quiet_step (fail))
                  refine wpQuiet_nil ?_
                  intro w7 x7
                  refine wpAny_ready (rs := [16]) (by kernel_rfl) (by simp) (AllReady.cons rfl (fun K hK => ?_) AllReady.nil)
                  go_simp
                  refine (HBJ.out _ x7).mono ?_
                  rintro e w8 ⟨T8, rfl, d8, c8⟩
                  have HN := Lib.hid ((HX.out.1.ext x7).other d8)
                  have HC8 := Lib.hid c8
                  have s8 : Step W0 w8 := Step.mk HN.out.ag.ext
                  clear d8 c8 y0 y1 y2
                  go_wp2_with fail
                  refine wpAny_take (i := 17) (v := ?_) rfl (by kernel_rfl) (by kernel_rfl) (by kernel_rfl) (fun _ _ _ h => h) (Or.inl ⟨by rfl, ?_⟩) ?_
                  rotate_left 1
                  · intro w; go_simp <;> with_reducible rfl
                  refine wpAny_done (by kernel_rfl) ?_ _
                  go_wp2_with fail
                  go_roundw
                  case rel => exact ⟨i, T8, by omega, by go_num, Lib.hid ⟨HN.out.ext grows, HC8.out⟩⟩
                  case measure => first | (simp [intOf]; done) | (simp [intOf]; omega)
            · obtain ⟨eB, hB⟩ : ∃ z, z = Lp.insE Tb w gv gn := ⟨_, rfl⟩
              rw [← hB] at HBI hE0
              clear hB
              have z5 : (eB == 0) = false := beq_eq_false_iff_ne.2 hE0
              go_wp2_with fail
              refine (HBI.out _ grows).mono ?_
              rintro e w7 ⟨T7, rfl, d7, c7⟩
              have HQ : Hid (OI W0 w7 ga gb g11 w Ta T7 la lc L (.slice da D.length dc) D ∧ ∀ q, T7.con q = none) := Lib.hid ⟨(HQ0.out.ext (show Ext w6 _ from grows)).other d7, fun q => by rw [c7, decide_eq_false hE0]; exact HC2.out q⟩
              have s7 : Step W0 w7 := Step.mk HQ.out.1.ag.ext
              clear d7 c7
              go_wp2_with fail
              go_loopw [19] (fun i wr => ∃ (j : Nat) (Tj : Lp.Tr), j ≤ D.length ∧ i = .int .i64 ((j : Int) - 1) ∧ Hid (OI W0 wr ga gb g11 w Ta Tj la lc L (.slice da D.length dc) D ∧ ∀ q, Tj.con q = Lp.assoc w (D.drop j) q)) (fun i _ => (intOf i + 1).toNat)
              case atStart => exact ⟨D.length, _, Nat.le_refl _, by go_num, Lib.hid ⟨HQ.out.1.ext grows, fun q => by rw [HQ.out.2 q, List.drop_length]; rfl⟩⟩
              case round =>
                obtain ⟨j, Tj, hj, rfl, HX⟩ := hrel
                have sj : Step W0 wr := Step.mk HX.out.1.ag.ext
                have e0 := alw (cell_of (o := 0) HX.out.1.bx)
                have e1 := alw (cell_of (o := 1) HX.out.1.bx)
                rcases Nat.eq_zero_or_pos j with hj0 | hj0
                · subst hj0
                  have HSA : Hid (∀ w', Ext wr w' → Calls Try.prog 15 #[.pointer (some ⟨ga, 0, none⟩), .agg #[.int .i64 w, .slice la L.length lc]] w' (Rets w' (.bool true))) := Lib.hid (fun w' hx => same_any (HX.out.1.ag.ext' hx) (by omega))
                  have HSB : Hid (∀ w', Ext wr w' → Calls Try.prog 15 #[.pointer (some ⟨gb, 0, none⟩), .agg #[.int .i64 w, .slice la L.length lc]] w' (Rets w' (.bool true))) := Lib.hid (fun w' hx => by
                    have o := HX.out.1.ext hx
                    have ag : Ag W0 w' gb w Tj (.slice la L.length lc) L := ⟨o.ib, o.bb, o.ag.own, by rw [← o.ag.eq]; exact Lp.items_same (fun q => by rw [HX.out.2 q, HDN.out.con q]; rfl), o.ag.ext⟩
                    exact same_any ag (by omega))
                  go_wp2_with fail
                  refine (HSA.out _ grows).mono ?_
                  rintro e w7 ⟨rfl, x7⟩
                  have s7 := Step.mk x7
                  clear x7
                  go_wp2_with fail
                  refine (HSB.out _ grows).mono ?_
                  rintro e w8 ⟨rfl, x8⟩
                  have s8 := Step.mk x8
                  clear x8
                  go_wp2_with fail
                  refine (works_any _).mono ?_
                  rintro e w9 ⟨rfl, x9⟩
                  have s9 := Step.mk x9
                  clear x9
                  go_wp2_with fail
                  go_ret
                  exact ⟨rfl, grows⟩
                · obtain ⟨i, rfl⟩ : ∃ i, j = i + 1 := ⟨j - 1, by omega⟩
                  rw [show (((i + 1 : Nat) : Int) - 1) = (i : Int) by omega]
                  obtain ⟨⟨d, v, n, x⟩, hDi⟩ : ∃ y, D[i]? = some y := ⟨_, List.getElem?_eq_getElem (by omega)⟩
                  have hrw : Rows wr 4 (fun _ cs a => cs = acC a) (.slice da D.length dc) D := rows_of_own (fun _ => rfl) (fun _ => rfl) HX.out.1.ow
                  obtain ⟨bd, od, rfl, _, hat⟩ := hrw.at (by omega)
                  obtain ⟨cs, _, rfl, hcs⟩ := hat i _ hDi
                  have y0 := alw (hcs 1 _ rfl)
                  have y1 := alw (hcs 2 _ rfl)
                  have y2 := alw (hcs 3 _ rfl)
                  have hE := Lp.back_ok HDN.out hDi HX.out.2
                  have hv := (HDN.out.fit _ (List.mem_of_getElem? hDi)).2
                  have HBJ : Hid (∀ w', Ext wr w' → Calls Try.prog 12 #[.pointer (some ⟨gb, 0, none⟩), .int .u32 v, .int .i64 n, .int .i64 x] w' (fun e W' => ∃ T', e = .returned (.int .i64 0) ∧ Did w' gb w Tj T' W' ∧ ∀ q, T'.con q = Lp.assoc w (D.drop i) q)) := Lib.hid (fun w' hx => by
                    refine (insert_any (HX.out.1.ib.ext hx) v hv n x).mono ?_
                    rintro e W' ⟨T', rfl, h2, h3⟩
                    exact ⟨T', by rw [hE], h2, Lp.back_con hDi HX.out.2 hE h3⟩)
                  clear hat hcs hrw hDi hE hv e0 e1
                  go_upto_region 20 with (fail)
                  refine wp_region_later_then (W := wr) 16 2 #[true, true, true, true, true, true, true, true, true, true, true, true, true, true, true, true, false, false] (by kernel_rfl) (by kernel_rfl) rfl (Ext.refl _) ?_
                  simp only [List.take_succ_cons, List.take_zero]
                  repeat (go_big_quiet_step (fail))
                  refine wpQuiet_nil ?_
                  intro w7 x7
                  refine wpAny_ready (rs := [16]) (by kernel_rfl) (by simp) (AllReady.cons rfl (fun K hK => ?_) AllReady.nil)
                  go_simp
                  refine (HBJ.out _ x7).mono ?_
                  rintro e w8 ⟨T8, rfl, d8, c8⟩
                  have HN := Lib.hid ((HX.out.1.ext x7).other d8)
                  have HC8 := Lib.hid c8
                  have s8 : Step W0 w8 := Step.mk HN.out.ag.ext
                  clear d8 c8 y0 y1 y2
                  go_wp2_with fail
                  refine wpAny_take (i := 17) (v := ?_) rfl (by kernel_rfl) (by kernel_rfl) (by kernel_rfl) (fun _ _ _ h => h) (Or.inl ⟨by rfl, ?_⟩) ?_
                  rotate_left 1
                  · intro w; go_simp <;> with_reducible rfl
                  refine wpAny_done (by kernel_rfl) ?_ _
                  go_wp2_with fail
                  go_roundw
                  case rel => exact ⟨i, T8, by omega, by go_num, Lib.hid ⟨HN.out.ext grows, HC8.out⟩⟩
                  case measure => first | (simp [intOf]; done) | (simp [intOf]; omega)
    · have hd : decide ((40 : Int) < (ac.length : Int)) = true := decide_eq_true (by omega)
      go_enter Try.func3, Try.ntmps3
      go_wp2_with fail
      refine (new_ok w hw1 hw2).mono ?_
      rintro e w1 ⟨g, T0, rfl, x1, _, _, _, _⟩
      have s1 := Step.mk x1
      clear x1
      go_wp2_with fail
      refine (new_ok w hw1 hw2).mono ?_
      rintro e w2 ⟨g', T0', rfl, x2, _, _, _, _⟩
      have s2 := Step.mk x2
      clear x2
      go_wp2_with fail
      refine (r9new_ok hw1 hw2).mono ?_
      rintro e w3 ⟨rfl, x3⟩
      have s3 := Step.mk x3
      clear x3
      go_wp2_with fail
      refine (works_any _).mono ?_
      rintro e w5 ⟨rfl, x5⟩
      have s5 := Step.mk x5
      go_wp2_with fail
      go_ret
      exact ⟨rfl, grows⟩
  · go_enter Try.func3, Try.ntmps3
    go_wp2_with fail
    refine (new_bad a0 hw).mono ?_
    rintro e w1 ⟨rfl, x1⟩
    have s1 := Step.mk x1
    clear x1
    go_wp2_with fail
    refine (new_bad a0 hw).mono ?_
    rintro e w2 ⟨rfl, x2⟩
    have s2 := Step.mk x2
    clear x2
    go_wp2_with fail
    refine (r9new_bad hw).mono ?_
    rintro e w3 ⟨rfl, x3⟩
    have s3 := Step.mk x3
    clear x3
    go_wp2_with fail
    refine (works_any _).mono ?_
    rintro e w5 ⟨rfl, x5⟩
    have s5 := Step.mk x5
    go_wp2_with fail
    go_ret
    exact ⟨rfl, grows⟩
end Go.Proofs.Yteefchbpojcklaa
