/- Which units must follow which: deps.follows, walked. A critical path is found: deps.CriticalPath, walked. What units take: resource.TableCost, UnitCost, walked. No condition. -/
import Derived.Test.YtkiafiaodockbaaGreatKqAQ
import Derived.BigQuiet
import Derived.BigRegion
import Derived.Deep.CutRange
import Derived.RegionTactic
import Derived.WalkMore
set_option maxRecDepth 8000
set_option maxHeartbeats 16000000
namespace Go.Proofs.YtkiafiaodockbaaGreat
open Go.RowKit
namespace Pl
/-- both rows are made, then put -/
theorem FB.nexta {W w : World} {ra oa n k g1 g2 : Nat} {gr go : Nat → Nat} {A B : Nat → List Bool} (h : FB W ra oa n gr go A B k w) (hk : k < n) (hg : (g1 = w.heap.size ∧ g2 = w.heap.size + 1) ∨ (g1 = w.heap.size + 1 ∧ g2 = w.heap.size)) :
 ∃ gr go A B, FB W ra oa n gr go A B (k + 1) ((((w.setCell ⟨ra, k, none⟩ (.slice (some ⟨g1, 0, none⟩) n n)).setCell ⟨oa, k, none⟩ (.slice (some ⟨g2, 0, none⟩) n n)).alloc (.cells (madeCells #[.bool false] n) 4)).alloc (.cells (madeCells #[.bool false] n) 4)).drew := by
 have lra := lt_of_block h.r.hb
 have loa := lt_of_block h.o.hb
 have s1 : ∀ v, (w.setCell ⟨ra, k, none⟩ v).heap.size = w.heap.size := fun v => by simp [World.setCell]
 have b1 := aH w (.cells (madeCells #[.bool false] n) 4)
 have b2 := aH (w.alloc (.cells (madeCells #[.bool false] n) 4)) (.cells (madeCells #[.bool false] n) 4)
 rw [szA] at b2
 have b1' := ((eR (w.alloc (.cells (madeCells #[.bool false] n) 4))).alloc (.cells (madeCells #[.bool false] n) 4)).heap b1
 have hx : Ext w ((w.alloc (.cells (madeCells #[.bool false] n) 4)).alloc (.cells (madeCells #[.bool false] n) 4)) := ((eR w).alloc _).alloc _
 have h2 : FB W ra oa n _ _ _ _ (k + 1) ((((w.alloc (.cells (madeCells #[.bool false] n) 4)).alloc (.cells (madeCells #[.bool false] n) 4)).setCell ⟨ra, k, none⟩ (rowV n g1)).setCell ⟨oa, k, none⟩ (rowV n g2)) :=
  FB.next (g1 := g1) (g2 := g2) h hk hx (by rcases hg with ⟨rfl, rfl⟩ | ⟨rfl, rfl⟩ <;> (unfold RowT; rw [← made_false]; first | exact b1' | exact b2)) (by rcases hg with ⟨rfl, rfl⟩ | ⟨rfl, rfl⟩ <;> (unfold RowT; rw [← made_false]; first | exact b1' | exact b2)) (by omega) (by omega) (by omega)
 rw [World.setCell_alloc_past _ _ _ _ (by rw [szA]; omega), World.setCell_alloc_past _ _ _ _ lra, World.setCell_alloc_past _ _ _ _ (by rw [szA, s1]; omega), World.setCell_alloc_past _ _ _ _ (by rw [s1]; exact loa)] at h2
 exact ⟨_, _, _, _, h2.ext (eR _).drew⟩
end Pl
set_option maxRecDepth 100000 in
theorem follows_any {W : World} {da : Option Addr} {c n : Nat} {dp : Nat → Nat → Int} (h : Pl.Dm W da c n dp) (hd : Pl.D012 dp) (hn : n ≤ 1000) : Calls Tryz.prog 67 #[.slice da n c] W (Pl.FolP W n) := by
 have HKD : Hid (∀ w, Ext W w → ∀ i j : Nat, i < j → j < n → Calls Tryz.prog 32 #[.slice da n c, .int .i64 i, .int .i64 j] w (Rets w (.int .i64 (dp i j)))) := Lh (fun w hx i j h1 h2 => dkind_any (h.ext hx) hd h1 h2)
 have HD := Lh hd
 have hmk := mk_sb n (by omega)
 have hmb := mk_b n (by omega)
 have ha1 := aH W (.cells (madeCells #[.slice none 0 0] n) 156)
 have ha2 := aH (W.alloc (.cells (madeCells #[.slice none 0 0] n) 156)) (.cells (madeCells #[.slice none 0 0] n) 156)
 rw [szA] at ha2
 have HA1 := Lh ((grows (a := W.alloc (.cells (madeCells #[.slice none 0 0] n) 156)) (b := ((W.alloc (.cells (madeCells #[.slice none 0 0] n) 156)).alloc (.cells (madeCells #[.slice none 0 0] n) 156)).drew)).heap ha1)
 have HA2 := Lh ((grows (a := ((W.alloc (.cells (madeCells #[.slice none 0 0] n) 156)).alloc (.cells (madeCells #[.slice none 0 0] n) 156))) (b := ((W.alloc (.cells (madeCells #[.slice none 0 0] n) 156)).alloc (.cells (madeCells #[.slice none 0 0] n) 156)).drew)).heap ha2)
 clear h hd ha1 ha2
 go_enter Tryz.func67, Tryz.ntmps67
 go_upto_region 2 with (fail)
 go_cut [4, 5] from 11 to 14 (fun s4 s5 wx => ∃ ra oa : Nat, s4 = .slice (some ⟨ra, 0, none⟩) n n ∧ s5 = .slice (some ⟨oa, 0, none⟩) n n ∧ Hid (Ext W wx ∧ ra ≠ oa ∧ W.heap.size ≤ ra ∧ W.heap.size ≤ oa ∧ wx.heap[ra]? = some (.cells (madeCells #[.slice none 0 0] n) 156 (0, 0)) ∧ wx.heap[oa]? = some (.cells (madeCells #[.slice none 0 0] n) 156 (0, 0))))
 case first =>
  go_region
  all_goals
   go_wp2_with fail
   go_meet
  all_goals first | exact ⟨_, _, rfl, rfl, Lh ⟨grows, by omega, by omega, by omega, HA1.out, HA2.out⟩⟩ | exact ⟨_, _, rfl, rfl, Lh ⟨grows, by omega, by omega, by omega, HA2.out, HA1.out⟩⟩
 case rest =>
  obtain ⟨ra, oa, rfl, rfl, HC⟩ := hcut
  have HI0 : Hid (∃ g1 g2 A1 A2, Pl.FB W ra oa n g1 g2 A1 A2 0 wc) := Lh (by
   obtain ⟨c1, c2, c3, c4, c5, c6⟩ := HC.out
   exact ⟨fun _ => 0, fun _ => 0, fun _ => [], fun _ => [], c1, ⟨c3, by rw [← Pl.made_fill]; exact c5, fun j hj => by omega, fun i j hi => by omega, fun j a hj => by omega⟩, ⟨c4, by rw [← Pl.made_fill]; exact c6, fun j hj => by omega, fun i j hi => by omega, fun j a hj => by omega⟩, c2, fun i j hi => by omega⟩)
  clear HC HA1 HA2
  go_wp2_with fail
  go_loopw [16] (fun q wr => ∃ k : Nat, k ≤ n ∧ q = .int .i64 k ∧ Hid (∃ g1 g2 A1 A2, Pl.FB W ra oa n g1 g2 A1 A2 k wr)) (fun q _ => n - (intOf q).toNat)
  case atStart => exact ⟨0, Nat.zero_le _, rfl, HI0⟩
  case round =>
   obtain ⟨k, hk, rfl, HZ⟩ := hrel
   by_cases hlt : k < n
   ·obtain ⟨gr, go, A, B, hfb⟩ := HZ.out
    have HFB := Lh hfb
    have cra := alw (show wr.cell? ⟨ra, k, none⟩ = some (.slice none 0 0) by rw [cell_of hfb.r.hb]; exact Pl.fillL_new _ hlt)
    have coa := alw (show wr.cell? ⟨oa, k, none⟩ = some (.slice none 0 0) by rw [cell_of hfb.o.hb]; exact Pl.fillL_new _ hlt)
    have bra := hfb.r.hb
    have boa := hfb.o.hb
    have lra := lt_of_block hfb.r.hb
    have loa := lt_of_block hfb.o.hb
    have hne := hfb.ne
    have fra : wr.frozen? ⟨ra, k, none⟩ = false := free_of bra
    have foa : wr.frozen? ⟨oa, k, none⟩ = false := free_of boa
    clear hfb HZ
    go_wp2_with fail
    go_cut [] from 19 to 28 (fun wx => Hid (∃ g1 g2 A1 A2, Pl.FB W ra oa n g1 g2 A1 A2 (k + 1) wx))
    case first =>
     go_region
     all_goals
      go_wp2_with fail
      go_meet
     all_goals first | exact Lh (HFB.out.nexta hlt (.inl ⟨rfl, rfl⟩)) | exact Lh (HFB.out.nexta hlt (.inr ⟨rfl, rfl⟩))
    case rest =>
     clear HFB cra coa bra boa lra loa hne fra foa
     obtain ⟨wo, rfl⟩ : ∃ wo : World, wo = wr := ⟨_, rfl⟩
     obtain ⟨gr, go, A, B, hfb⟩ := hcut.out
     have c0 := alw (hfb.r.row (j := k) (by omega) (by omega))
     obtain ⟨d1, d2, d3⟩ := hfb.r.rr k (by omega)
     have c2 : wc.cell? ⟨gr k, k, none⟩ = some (.bool ((A k).getD k false)) := d1.cell (by omega)
     have f2 : wc.frozen? ⟨gr k, k, none⟩ = false := free_of d1
     have HN : Hid (∃ g1 g2 A1 A2, Pl.FB W ra oa n g1 g2 A1 A2 (k + 1) (wc.setCell ⟨gr k, k, none⟩ (.bool true))) := Lh ⟨_, _, _, _, hfb.setR (by omega) true (fun _ => Nat.le_refl _)⟩
     clear hfb d1 d2 d3 hcut
     go_wp2_with (refine wpList_store_cellK rfl 4 (.tmp 34) (.const (.bool true)) rfl (gr k) k _ (.bool true) rfl rfl (by kernel_rfl) rfl c2 f2 ?_)
     intro w6 hw6
     rw [← hw6.out] at HN
     clear c0 c2 f2 hw6
     go_wp2_with fail
     go_loopw [36] (fun q wr => ∃ j : Nat, j ≤ n ∧ q = .int .i64 j ∧ Hid (∃ g1 g2 A1 A2, Pl.FB W ra oa n g1 g2 A1 A2 (k + 1) wr)) (fun q _ => n - (intOf q).toNat)
     case atStart => exact ⟨0, Nat.zero_le _, rfl, HN⟩
     case round =>
      clear HN
      obtain ⟨j, hj, rfl, HZ⟩ := hrel
      obtain ⟨w1, rfl⟩ : ∃ w1 : World, w1 = wr := ⟨_, rfl⟩
      by_cases hjt : j < n
      ·go_wp2_with fail
       go_loopw [40] (fun q wr => ∃ m : Nat, m ≤ j ∧ q = .int .i64 m ∧ Hid (∃ g1 g2 A1 A2, Pl.FB W ra oa n g1 g2 A1 A2 (k + 1) wr)) (fun q _ => j - (intOf q).toNat)
       case atStart => exact ⟨0, Nat.zero_le _, rfl, HZ⟩
       case round =>
        clear HZ
        obtain ⟨m, hm, rfl, HZ⟩ := hrel
        by_cases hmt : m < j
        ·have HKC : Hid (Calls Tryz.prog 32 #[.slice da n c, .int .i64 m, .int .i64 j] wr (Rets wr (.int .i64 (dp m j)))) := Lh (HKD.out wr (by obtain ⟨_, _, _, _, h⟩ := HZ.out; exact h.x) m j hmt hjt)
         have hdd := HD.out m j
         generalize dp m j = y at HKC hdd
         rcases hdd with rfl | rfl | rfl
         ·go_wp2_with fail
          refine HKC.out.mono ?_
          rintro e w3 ⟨rfl, x3⟩
          have HZ : Hid (∃ g1 g2 A1 A2, Pl.FB W ra oa n g1 g2 A1 A2 (k + 1) w3) := Lh (by obtain ⟨_, _, _, _, h⟩ := HZ.out; exact ⟨_, _, _, _, h.ext x3⟩)
          go_wp2_with fail
          go_roundw
          case rel => exact ⟨m + 1, by omega, by go_num, HZ⟩
          case measure => simp [intOf]; omega
         ·go_wp2_with fail
          refine HKC.out.mono ?_
          rintro e w3 ⟨rfl, x3⟩
          have HZ : Hid (∃ g1 g2 A1 A2, Pl.FB W ra oa n g1 g2 A1 A2 (k + 1) w3) := Lh (by obtain ⟨_, _, _, _, h⟩ := HZ.out; exact ⟨_, _, _, _, h.ext x3⟩)
          clear x3
          go_upto_region 19 with (fail)
          go_cut [] from 95 to 116 (fun wx => Hid (∃ g1 g2 A1 A2, Pl.FB W ra oa n g1 g2 A1 A2 (k + 1) wx))
          case first =>
           obtain ⟨gr, go, A, B, hfb⟩ := HZ.out
           have HFB := Lh hfb
           have sfb : Step W w3 := ⟨hfb.x⟩
           have c0 := alw (hfb.r.row (j := k) (by omega) (by omega))
           have c1 := alw (hfb.r.row (j := k) (by omega) (by omega))
           have r0 := hfb.r.rr k (by omega)
           have r1 := hfb.r.rr k (by omega)
           have c2 := alw (r0.1.cell (a := j) (by omega))
           have c3 := alw (r1.1.cell (a := m) (by omega))
           have HP0 := Lh (hfb.r.pr k j (by omega))
           have HP1 := Lh (hfb.r.pr k m (by omega))
           clear hfb r0 r1 HZ
           generalize hb1 : (A k).getD j false = b1 at c2 HP0
           generalize hb2 : (A k).getD m false = b2 at c3 HP1
           have HB1 := Lh hb1
           have HB2 := Lh hb2
           clear hb1 hb2
           rcases b1 with _ | _
           ·rcases b2 with _ | _
            ·go_wp2_with fail
             refine wp_region_later_tail (W := w3) 22 (by kernel_rfl) (by kernel_rfl) grows ?_
             simp only [tkS, tkZ, dpS, dpZ]
             repeat (go_big_quiet_step (fail))
             refine wpQuiet_nil ?_
             intro w5 hx5
             have F5 := HFB.out.ext hx5
             have cy := F5.r.row (j := k) (by omega) (by omega)
             obtain ⟨d1, d2, d3⟩ := F5.r.rr k (by omega)
             have cz : w5.cell? ⟨gr k, j, none⟩ = some (.bool ((A k).getD j false)) := d1.cell (by omega)
             have fz : w5.frozen? ⟨gr k, j, none⟩ = false := free_of d1
             have HN : Hid (∃ g1 g2 A1 A2, Pl.FB W ra oa n g1 g2 A1 A2 (k + 1) (w5.setCell ⟨gr k, j, none⟩ (.bool false))) := Lh ⟨_, _, _, _, F5.setR (by omega) false (fun h => nomatch h)⟩
             clear cy d1 d2 d3 F5
             go_wp2_with (refine wpList_store_cellK rfl 4 (.tmp 116) (.tmp 115) rfl (gr k) j _ (.bool false) rfl rfl (by kernel_rfl) rfl cz fz ?_)
             intro w6 hw6
             rw [← hw6.out] at HN
             go_wp2_with fail
             go_meet
             exact HN
            ·go_wp2_with fail
             refine wp_region_later_tail (W := w3) 22 (by kernel_rfl) (by kernel_rfl) grows ?_
             simp only [tkS, tkZ, dpS, dpZ]
             repeat (go_big_quiet_step (fail))
             refine wpQuiet_nil ?_
             intro w5 hx5
             have F5 := HFB.out.ext hx5
             have cy := F5.r.row (j := k) (by omega) (by omega)
             obtain ⟨d1, d2, d3⟩ := F5.r.rr k (by omega)
             have cz : w5.cell? ⟨gr k, j, none⟩ = some (.bool ((A k).getD j false)) := d1.cell (by omega)
             have fz : w5.frozen? ⟨gr k, j, none⟩ = false := free_of d1
             have HN : Hid (∃ g1 g2 A1 A2, Pl.FB W ra oa n g1 g2 A1 A2 (k + 1) (w5.setCell ⟨gr k, j, none⟩ (.bool true))) := Lh ⟨_, _, _, _, F5.setR (by omega) true (fun _ => by have := HP1.out (by trivial); omega)⟩
             clear cy d1 d2 d3 F5
             go_wp2_with (refine wpList_store_cellK rfl 4 (.tmp 116) (.tmp 115) rfl (gr k) j _ (.bool true) rfl rfl (by kernel_rfl) rfl cz fz ?_)
             intro w6 hw6
             rw [← hw6.out] at HN
             go_wp2_with fail
             go_meet
             exact HN
           ·clear c3
            go_wp2_with fail
            refine wp_region_later_tail (W := w3) 22 (by kernel_rfl) (by kernel_rfl) grows ?_
            simp only [tkS, tkZ, dpS, dpZ]
            repeat (go_big_quiet_step (fail))
            refine wpQuiet_nil ?_
            intro w5 hx5
            have F5 := HFB.out.ext hx5
            have cy := F5.r.row (j := k) (by omega) (by omega)
            obtain ⟨d1, d2, d3⟩ := F5.r.rr k (by omega)
            have cz : w5.cell? ⟨gr k, j, none⟩ = some (.bool ((A k).getD j false)) := d1.cell (by omega)
            have fz : w5.frozen? ⟨gr k, j, none⟩ = false := free_of d1
            have HN : Hid (∃ g1 g2 A1 A2, Pl.FB W ra oa n g1 g2 A1 A2 (k + 1) (w5.setCell ⟨gr k, j, none⟩ (.bool true))) := Lh ⟨_, _, _, _, F5.setR (by omega) true (fun _ => HP0.out (by trivial))⟩
            clear cy d1 d2 d3 F5
            go_wp2_with (refine wpList_store_cellK rfl 4 (.tmp 116) (.tmp 115) rfl (gr k) j _ (.bool true) rfl rfl (by kernel_rfl) rfl cz fz ?_)
            intro w6 hw6
            rw [← hw6.out] at HN
            go_wp2_with fail
            go_meet
            exact HN
          case rest =>
           have HZ := hcut
           clear hcut
           go_upto_region 20 with (fail)
           obtain ⟨gr, go, A, B, hfb⟩ := HZ.out
           have HFB := Lh hfb
           have sfb : Step W wc := ⟨hfb.x⟩
           have c0 := alw (hfb.o.row (j := k) (by omega) (by omega))
           have c1 := alw (hfb.o.row (j := k) (by omega) (by omega))
           have r0 := hfb.o.rr k (by omega)
           have r1 := hfb.o.rr k (by omega)
           have c2 := alw (r0.1.cell (a := j) (by omega))
           have c3 := alw (r1.1.cell (a := m) (by omega))
           have HP0 := Lh (hfb.o.pr k j (by omega))
           have HP1 := Lh (hfb.o.pr k m (by omega))
           clear hfb r0 r1 HZ
           generalize hb1 : (B k).getD j false = b1 at c2 HP0
           generalize hb2 : (B k).getD m false = b2 at c3 HP1
           have HB1 := Lh hb1
           have HB2 := Lh hb2
           clear hb1 hb2
           rcases b1 with _ | _
           ·rcases b2 with _ | _
            ·go_wp2_with fail
             refine wp_region_later_tail (W := wc) 22 (by kernel_rfl) (by kernel_rfl) grows ?_
             simp only [tkS, tkZ, dpS, dpZ]
             repeat (go_big_quiet_step (fail))
             refine wpQuiet_nil ?_
             intro w5 hx5
             have F5 := HFB.out.ext hx5
             have cy := F5.o.row (j := k) (by omega) (by omega)
             obtain ⟨d1, d2, d3⟩ := F5.o.rr k (by omega)
             have cz : w5.cell? ⟨go k, j, none⟩ = some (.bool ((B k).getD j false)) := d1.cell (by omega)
             have fz : w5.frozen? ⟨go k, j, none⟩ = false := free_of d1
             have HN : Hid (∃ g1 g2 A1 A2, Pl.FB W ra oa n g1 g2 A1 A2 (k + 1) (w5.setCell ⟨go k, j, none⟩ (.bool false))) := Lh ⟨_, _, _, _, F5.setO (by omega) false (fun h => nomatch h)⟩
             clear cy d1 d2 d3 F5
             go_wp2_with (refine wpList_store_cellK rfl 4 (.tmp 138) (.tmp 137) rfl (go k) j _ (.bool false) rfl rfl (by kernel_rfl) rfl cz fz ?_)
             intro w6 hw6
             rw [← hw6.out] at HN
             have HZ := HN
             go_wp2_with fail
             go_roundw
             case rel => exact ⟨m + 1, by omega, by go_num, HZ⟩
             case measure => simp [intOf]; omega
            ·go_wp2_with fail
             refine wp_region_later_tail (W := wc) 22 (by kernel_rfl) (by kernel_rfl) grows ?_
             simp only [tkS, tkZ, dpS, dpZ]
             repeat (go_big_quiet_step (fail))
             refine wpQuiet_nil ?_
             intro w5 hx5
             have F5 := HFB.out.ext hx5
             have cy := F5.o.row (j := k) (by omega) (by omega)
             obtain ⟨d1, d2, d3⟩ := F5.o.rr k (by omega)
             have cz : w5.cell? ⟨go k, j, none⟩ = some (.bool ((B k).getD j false)) := d1.cell (by omega)
             have fz : w5.frozen? ⟨go k, j, none⟩ = false := free_of d1
             have HN : Hid (∃ g1 g2 A1 A2, Pl.FB W ra oa n g1 g2 A1 A2 (k + 1) (w5.setCell ⟨go k, j, none⟩ (.bool true))) := Lh ⟨_, _, _, _, F5.setO (by omega) true (fun _ => by have := HP1.out (by trivial); omega)⟩
             clear cy d1 d2 d3 F5
             go_wp2_with (refine wpList_store_cellK rfl 4 (.tmp 138) (.tmp 137) rfl (go k) j _ (.bool true) rfl rfl (by kernel_rfl) rfl cz fz ?_)
             intro w6 hw6
             rw [← hw6.out] at HN
             have HZ := HN
             go_wp2_with fail
             go_roundw
             case rel => exact ⟨m + 1, by omega, by go_num, HZ⟩
             case measure => simp [intOf]; omega
           ·clear c3
            go_wp2_with fail
            refine wp_region_later_tail (W := wc) 22 (by kernel_rfl) (by kernel_rfl) grows ?_
            simp only [tkS, tkZ, dpS, dpZ]
            repeat (go_big_quiet_step (fail))
            refine wpQuiet_nil ?_
            intro w5 hx5
            have F5 := HFB.out.ext hx5
            have cy := F5.o.row (j := k) (by omega) (by omega)
            obtain ⟨d1, d2, d3⟩ := F5.o.rr k (by omega)
            have cz : w5.cell? ⟨go k, j, none⟩ = some (.bool ((B k).getD j false)) := d1.cell (by omega)
            have fz : w5.frozen? ⟨go k, j, none⟩ = false := free_of d1
            have HN : Hid (∃ g1 g2 A1 A2, Pl.FB W ra oa n g1 g2 A1 A2 (k + 1) (w5.setCell ⟨go k, j, none⟩ (.bool true))) := Lh ⟨_, _, _, _, F5.setO (by omega) true (fun _ => HP0.out (by trivial))⟩
            clear cy d1 d2 d3 F5
            go_wp2_with (refine wpList_store_cellK rfl 4 (.tmp 138) (.tmp 137) rfl (go k) j _ (.bool true) rfl rfl (by kernel_rfl) rfl cz fz ?_)
            intro w6 hw6
            rw [← hw6.out] at HN
            have HZ := HN
            go_wp2_with fail
            go_roundw
            case rel => exact ⟨m + 1, by omega, by go_num, HZ⟩
            case measure => simp [intOf]; omega
         ·go_wp2_with fail
          refine HKC.out.mono ?_
          rintro e w3 ⟨rfl, x3⟩
          have HZ : Hid (∃ g1 g2 A1 A2, Pl.FB W ra oa n g1 g2 A1 A2 (k + 1) w3) := Lh (by obtain ⟨_, _, _, _, h⟩ := HZ.out; exact ⟨_, _, _, _, h.ext x3⟩)
          clear x3
          go_upto_region 16 with (fail)
          go_cut [] from 49 to 70 (fun wx => Hid (∃ g1 g2 A1 A2, Pl.FB W ra oa n g1 g2 A1 A2 (k + 1) wx))
          case first =>
           obtain ⟨gr, go, A, B, hfb⟩ := HZ.out
           have HFB := Lh hfb
           have sfb : Step W w3 := ⟨hfb.x⟩
           have c0 := alw (hfb.r.row (j := k) (by omega) (by omega))
           have c1 := alw (hfb.r.row (j := k) (by omega) (by omega))
           have r0 := hfb.r.rr k (by omega)
           have r1 := hfb.r.rr k (by omega)
           have c2 := alw (r0.1.cell (a := j) (by omega))
           have c3 := alw (r1.1.cell (a := m) (by omega))
           have HP0 := Lh (hfb.r.pr k j (by omega))
           have HP1 := Lh (hfb.r.pr k m (by omega))
           clear hfb r0 r1 HZ
           generalize hb1 : (A k).getD j false = b1 at c2 HP0
           generalize hb2 : (A k).getD m false = b2 at c3 HP1
           have HB1 := Lh hb1
           have HB2 := Lh hb2
           clear hb1 hb2
           rcases b1 with _ | _
           ·rcases b2 with _ | _
            ·go_wp2_with fail
             refine wp_region_later_tail (W := w3) 22 (by kernel_rfl) (by kernel_rfl) grows ?_
             simp only [tkS, tkZ, dpS, dpZ]
             repeat (go_big_quiet_step (fail))
             refine wpQuiet_nil ?_
             intro w5 hx5
             have F5 := HFB.out.ext hx5
             have cy := F5.r.row (j := k) (by omega) (by omega)
             obtain ⟨d1, d2, d3⟩ := F5.r.rr k (by omega)
             have cz : w5.cell? ⟨gr k, j, none⟩ = some (.bool ((A k).getD j false)) := d1.cell (by omega)
             have fz : w5.frozen? ⟨gr k, j, none⟩ = false := free_of d1
             have HN : Hid (∃ g1 g2 A1 A2, Pl.FB W ra oa n g1 g2 A1 A2 (k + 1) (w5.setCell ⟨gr k, j, none⟩ (.bool false))) := Lh ⟨_, _, _, _, F5.setR (by omega) false (fun h => nomatch h)⟩
             clear cy d1 d2 d3 F5
             go_wp2_with (refine wpList_store_cellK rfl 4 (.tmp 70) (.tmp 69) rfl (gr k) j _ (.bool false) rfl rfl (by kernel_rfl) rfl cz fz ?_)
             intro w6 hw6
             rw [← hw6.out] at HN
             go_wp2_with fail
             go_meet
             exact HN
            ·go_wp2_with fail
             refine wp_region_later_tail (W := w3) 22 (by kernel_rfl) (by kernel_rfl) grows ?_
             simp only [tkS, tkZ, dpS, dpZ]
             repeat (go_big_quiet_step (fail))
             refine wpQuiet_nil ?_
             intro w5 hx5
             have F5 := HFB.out.ext hx5
             have cy := F5.r.row (j := k) (by omega) (by omega)
             obtain ⟨d1, d2, d3⟩ := F5.r.rr k (by omega)
             have cz : w5.cell? ⟨gr k, j, none⟩ = some (.bool ((A k).getD j false)) := d1.cell (by omega)
             have fz : w5.frozen? ⟨gr k, j, none⟩ = false := free_of d1
             have HN : Hid (∃ g1 g2 A1 A2, Pl.FB W ra oa n g1 g2 A1 A2 (k + 1) (w5.setCell ⟨gr k, j, none⟩ (.bool true))) := Lh ⟨_, _, _, _, F5.setR (by omega) true (fun _ => by have := HP1.out (by trivial); omega)⟩
             clear cy d1 d2 d3 F5
             go_wp2_with (refine wpList_store_cellK rfl 4 (.tmp 70) (.tmp 69) rfl (gr k) j _ (.bool true) rfl rfl (by kernel_rfl) rfl cz fz ?_)
             intro w6 hw6
             rw [← hw6.out] at HN
             go_wp2_with fail
             go_meet
             exact HN
           ·clear c3
            go_wp2_with fail
            refine wp_region_later_tail (W := w3) 22 (by kernel_rfl) (by kernel_rfl) grows ?_
            simp only [tkS, tkZ, dpS, dpZ]
            repeat (go_big_quiet_step (fail))
            refine wpQuiet_nil ?_
            intro w5 hx5
            have F5 := HFB.out.ext hx5
            have cy := F5.r.row (j := k) (by omega) (by omega)
            obtain ⟨d1, d2, d3⟩ := F5.r.rr k (by omega)
            have cz : w5.cell? ⟨gr k, j, none⟩ = some (.bool ((A k).getD j false)) := d1.cell (by omega)
            have fz : w5.frozen? ⟨gr k, j, none⟩ = false := free_of d1
            have HN : Hid (∃ g1 g2 A1 A2, Pl.FB W ra oa n g1 g2 A1 A2 (k + 1) (w5.setCell ⟨gr k, j, none⟩ (.bool true))) := Lh ⟨_, _, _, _, F5.setR (by omega) true (fun _ => HP0.out (by trivial))⟩
            clear cy d1 d2 d3 F5
            go_wp2_with (refine wpList_store_cellK rfl 4 (.tmp 70) (.tmp 69) rfl (gr k) j _ (.bool true) rfl rfl (by kernel_rfl) rfl cz fz ?_)
            intro w6 hw6
            rw [← hw6.out] at HN
            go_wp2_with fail
            go_meet
            exact HN
          case rest =>
           have HZ := hcut
           clear hcut
           go_upto_region 17 with (fail)
           obtain ⟨gr, go, A, B, hfb⟩ := HZ.out
           have HFB := Lh hfb
           have sfb : Step W wc := ⟨hfb.x⟩
           have c0 := alw (hfb.o.row (j := k) (by omega) (by omega))
           have c1 := alw (hfb.r.row (j := k) (by omega) (by omega))
           have r0 := hfb.o.rr k (by omega)
           have r1 := hfb.r.rr k (by omega)
           have c2 := alw (r0.1.cell (a := j) (by omega))
           have c3 := alw (r1.1.cell (a := m) (by omega))
           have HP0 := Lh (hfb.o.pr k j (by omega))
           have HP1 := Lh (hfb.r.pr k m (by omega))
           clear hfb r0 r1 HZ
           generalize hb1 : (B k).getD j false = b1 at c2 HP0
           generalize hb2 : (A k).getD m false = b2 at c3 HP1
           have HB1 := Lh hb1
           have HB2 := Lh hb2
           clear hb1 hb2
           rcases b1 with _ | _
           ·rcases b2 with _ | _
            ·go_wp2_with fail
             refine wp_region_later_tail (W := wc) 22 (by kernel_rfl) (by kernel_rfl) grows ?_
             simp only [tkS, tkZ, dpS, dpZ]
             repeat (go_big_quiet_step (fail))
             refine wpQuiet_nil ?_
             intro w5 hx5
             have F5 := HFB.out.ext hx5
             have cy := F5.o.row (j := k) (by omega) (by omega)
             obtain ⟨d1, d2, d3⟩ := F5.o.rr k (by omega)
             have cz : w5.cell? ⟨go k, j, none⟩ = some (.bool ((B k).getD j false)) := d1.cell (by omega)
             have fz : w5.frozen? ⟨go k, j, none⟩ = false := free_of d1
             have HN : Hid (∃ g1 g2 A1 A2, Pl.FB W ra oa n g1 g2 A1 A2 (k + 1) (w5.setCell ⟨go k, j, none⟩ (.bool false))) := Lh ⟨_, _, _, _, F5.setO (by omega) false (fun h => nomatch h)⟩
             clear cy d1 d2 d3 F5
             go_wp2_with (refine wpList_store_cellK rfl 4 (.tmp 92) (.tmp 91) rfl (go k) j _ (.bool false) rfl rfl (by kernel_rfl) rfl cz fz ?_)
             intro w6 hw6
             rw [← hw6.out] at HN
             have HZ := HN
             go_wp2_with fail
             go_roundw
             case rel => exact ⟨m + 1, by omega, by go_num, HZ⟩
             case measure => simp [intOf]; omega
            ·go_wp2_with fail
             refine wp_region_later_tail (W := wc) 22 (by kernel_rfl) (by kernel_rfl) grows ?_
             simp only [tkS, tkZ, dpS, dpZ]
             repeat (go_big_quiet_step (fail))
             refine wpQuiet_nil ?_
             intro w5 hx5
             have F5 := HFB.out.ext hx5
             have cy := F5.o.row (j := k) (by omega) (by omega)
             obtain ⟨d1, d2, d3⟩ := F5.o.rr k (by omega)
             have cz : w5.cell? ⟨go k, j, none⟩ = some (.bool ((B k).getD j false)) := d1.cell (by omega)
             have fz : w5.frozen? ⟨go k, j, none⟩ = false := free_of d1
             have HN : Hid (∃ g1 g2 A1 A2, Pl.FB W ra oa n g1 g2 A1 A2 (k + 1) (w5.setCell ⟨go k, j, none⟩ (.bool true))) := Lh ⟨_, _, _, _, F5.setO (by omega) true (fun _ => by have := HP1.out (by trivial); omega)⟩
             clear cy d1 d2 d3 F5
             go_wp2_with (refine wpList_store_cellK rfl 4 (.tmp 92) (.tmp 91) rfl (go k) j _ (.bool true) rfl rfl (by kernel_rfl) rfl cz fz ?_)
             intro w6 hw6
             rw [← hw6.out] at HN
             have HZ := HN
             go_wp2_with fail
             go_roundw
             case rel => exact ⟨m + 1, by omega, by go_num, HZ⟩
             case measure => simp [intOf]; omega
           ·clear c3
            go_wp2_with fail
            refine wp_region_later_tail (W := wc) 22 (by kernel_rfl) (by kernel_rfl) grows ?_
            simp only [tkS, tkZ, dpS, dpZ]
            repeat (go_big_quiet_step (fail))
            refine wpQuiet_nil ?_
            intro w5 hx5
            have F5 := HFB.out.ext hx5
            have cy := F5.o.row (j := k) (by omega) (by omega)
            obtain ⟨d1, d2, d3⟩ := F5.o.rr k (by omega)
            have cz : w5.cell? ⟨go k, j, none⟩ = some (.bool ((B k).getD j false)) := d1.cell (by omega)
            have fz : w5.frozen? ⟨go k, j, none⟩ = false := free_of d1
            have HN : Hid (∃ g1 g2 A1 A2, Pl.FB W ra oa n g1 g2 A1 A2 (k + 1) (w5.setCell ⟨go k, j, none⟩ (.bool true))) := Lh ⟨_, _, _, _, F5.setO (by omega) true (fun _ => HP0.out (by trivial))⟩
            clear cy d1 d2 d3 F5
            go_wp2_with (refine wpList_store_cellK rfl 4 (.tmp 92) (.tmp 91) rfl (go k) j _ (.bool true) rfl rfl (by kernel_rfl) rfl cz fz ?_)
            intro w6 hw6
            rw [← hw6.out] at HN
            have HZ := HN
            go_wp2_with fail
            go_roundw
            case rel => exact ⟨m + 1, by omega, by go_num, HZ⟩
            case measure => simp [intOf]; omega
        ·obtain rfl : j = m := by omega
         go_wp2_with fail
         go_roundw
         case rel => exact ⟨j + 1, by omega, by go_num, HZ⟩
         case measure => simp [intOf]; omega
      ·obtain rfl : n = j := by omega
       go_wp2_with fail
       go_roundw
       case rel => exact ⟨k + 1, by omega, by go_num, HZ⟩
       case measure => simp [intOf]; omega
   ·obtain rfl : n = k := by omega
    have HF : Hid (Pl.FolP W n (.returned (.slice (some ⟨oa, 0, none⟩) n n)) wr) := Lh (by obtain ⟨gr, go, A, B, h⟩ := HZ.out; exact ⟨oa, go, B, rfl, h.x, h.o⟩)
    go_wp2_with fail
    go_ret
    exact HF.out
namespace Pl
/-- the longest ways that are known: from q on -/
def CPI (n : Nat) (B : Nat → List Bool) (L : List Int) (q : Nat) : Prop := ∀ a : Nat, q ≤ a → a < n → 1 ≤ L.getD a 0 ∧ L.getD a 0 ≤ (n : Int) - a ∧ (L.getD a 0 = 1 ∨ ∃ b : Nat, a < b ∧ b < n ∧ (B a).getD b false = true ∧ L.getD b 0 = L.getD a 0 - 1)
theorem getD_set_ne {L : List Int} {a b : Nat} {y : Int} (h : b ≠ a) : (L.set a y).getD b 0 = L.getD b 0 := by
 rw [List.getD_eq_getElem?_getD, List.getElem?_set_ne (fun e => h e.symm), ← List.getD_eq_getElem?_getD]
theorem getD_set_eq {L : List Int} {a : Nat} {y : Int} (h : a < L.length) : (L.set a y).getD a 0 = y := by
 rw [List.getD_eq_getElem?_getD, List.getElem?_set_self h]; rfl
theorem CPI.put {n q : Nat} {B : Nat → List Bool} {L : List Int} {y : Int} (h : CPI n B L (q + 1)) (hq : q < n) (hl : L.length = n) (h1 : 1 ≤ y) (h2 : y ≤ (n : Int) - q) (h3 : y = 1 ∨ ∃ b : Nat, q < b ∧ b < n ∧ (B q).getD b false = true ∧ L.getD b 0 = y - 1) : CPI n B (L.set q y) q := fun a ha hn => by
 by_cases e : a = q
 ·subst e
  rw [getD_set_eq (by omega)]
  refine ⟨h1, h2, h3.imp id ?_⟩
  rintro ⟨b, k1, k2, k3, k4⟩
  exact ⟨b, k1, k2, k3, by rw [getD_set_ne (by omega)]; exact k4⟩
 ·obtain ⟨g1, g2, g3⟩ := h a (by omega) hn
  rw [getD_set_ne e]
  refine ⟨g1, g2, g3.imp id ?_⟩
  rintro ⟨b, k1, k2, k3, k4⟩
  exact ⟨b, k1, k2, k3, by rw [getD_set_ne (by omega)]; exact k4⟩
theorem CPI.weak {n q : Nat} {B : Nat → List Bool} {L : List Int} (h : CPI n B L q) : CPI n B L (q + 1) := fun a ha => h a (by omega)
theorem CPI.max {n q j : Nat} {B : Nat → List Bool} {L : List Int} (h : CPI n B L q) (hq : q < n) (hl : L.length = n) (hj : q < j) (hjn : j < n) (hb : (B q).getD j false = true) : CPI n B (L.set q (max (L.getD q 0) (L.getD j 0 + 1))) q := by
 obtain ⟨a1, a2, a3⟩ := h q (Nat.le_refl _) hq
 obtain ⟨b1, b2, _⟩ := h j (by omega) hjn
 refine h.weak.put hq hl (by omega) (by omega) ?_
 by_cases e : L.getD j 0 + 1 ≤ L.getD q 0
 ·rw [Int.max_eq_left e]; refine a3.imp id ?_
  rintro ⟨b, k1, k2, k3, k4⟩
  exact ⟨b, k1, k2, k3, k4⟩
 ·rw [Int.max_eq_right (by omega)]; exact .inr ⟨j, hj, hjn, hb, by omega⟩
/-- what the walk keeps -/
structure CPM (W : World) (oa sb n : Nat) (go : Nat → Nat) (B : Nat → List Bool) (L : List Int) (w : World) : Prop where
 x : Ext W w
 o : BM W oa n go B (fun a b => a < b) n w
 s : RowB w sb L
 l : L.length = n
 ls : W.heap.size ≤ sb
theorem CPM.ext {W w w' : World} {oa sb n : Nat} {go : Nat → Nat} {B : Nat → List Bool} {L : List Int} (h : CPM W oa sb n go B L w) (hx : Ext w w') : CPM W oa sb n go B L w' := ⟨h.x.trans hx, h.o.ext hx, hx.heap h.s, h.l, h.ls⟩
theorem CPM.set {W w : World} {oa sb n a : Nat} {go : Nat → Nat} {B : Nat → List Bool} {L : List Int} (h : CPM W oa sb n go B L w) (y : Int) : CPM W oa sb n go B (L.set a y) (w.setCell ⟨sb, a, none⟩ (.int .i64 y)) := by
 have hm : Mod (fun q => q = sb) w (w.setCell ⟨sb, a, none⟩ (.int .i64 y)) := mod_cell
 refine ⟨mod_low h.x hm (fun q hq => by have := h.ls; omega), h.o.mod hm (heap_ne h.o.hb h.s (by decide)) (fun j hj => heap_ne (h.o.rr j hj).1 h.s (by decide)), h.s.set y, by rw [List.length_set]; exact h.l, h.ls⟩
theorem CPM.row {W w : World} {oa sb n : Nat} {go : Nat → Nat} {B : Nat → List Bool} {L : List Int} (h : CPM W oa sb n go B L w) {i j : Nat} (hi : i < n) (hj : j < n) : w.cell? ⟨oa, i, none⟩ = some (.slice (some ⟨go i, 0, none⟩) n n) ∧ w.cell? ⟨go i, j, none⟩ = some (.bool ((B i).getD j false)) :=
 ⟨h.o.row (Nat.le_refl _) hi, (h.o.rr i hi).1.cell (by rw [(h.o.rr i hi).2.2]; exact hj)⟩
theorem CPM.at {W w : World} {oa sb n : Nat} {go : Nat → Nat} {B : Nat → List Bool} {L : List Int} (h : CPM W oa sb n go B L w) {i : Nat} (hi : i < n) : w.cell? ⟨sb, i, none⟩ = some (.int .i64 (L.getD i 0)) := h.s.cell (by rw [h.l]; exact hi)
end Pl
set_option maxRecDepth 100000 in
theorem cpath_any {W : World} {da : Option Addr} {c n : Nat} {dp : Nat → Nat → Int} (h : Pl.Dm W da c n dp) (hd : Pl.D012 dp) (hn : n ≤ 1000) : Calls Tryz.prog 30 #[.slice da n c] W (fun e w' => (∃ a m c, e = .returned (.slice a m c)) ∧ Ext W w') := by
 have HFW := Lh (fun (w : World) (hx : Ext W w) => follows_any (h.ext hx) hd hn)
 have hmi := mk_i n (by omega)
 clear h hd
 go_enter Tryz.func30, Tryz.ntmps30
 go_wp2_with fail
 go_step3
 go_wp2_with fail
 refine (HFW.out W (eR W)).mono ?_
 rintro e w3 ⟨oa, go, B, rfl, x3, hbm⟩
 have hlo : W.heap.size ≤ oa := hbm.lo
 have s3 := Sm x3
 have HI0 : Hid (∃ L, Pl.CPM W oa w3.heap.size n go B L (w3.alloc (.cells (madeCells #[.int .i64 0] n) 3)) ∧ Pl.CPI n B L n) := Lh ⟨List.replicate n 0, ⟨grows, ⟨hlo, (hbm.ext grows).hb, (hbm.ext grows).rr, hbm.ij, hbm.pr⟩, by unfold Pl.RowB; rw [← Pl.made_zero]; exact aH w3 _, by simp, x3.size⟩, fun a h1 h2 => by omega⟩
 clear hbm hlo x3
 go_wp2_with fail
 go_loopw [6, 7] (fun s6 s7 wr => ∃ (k fi : Nat) (z : Int), k ≤ n ∧ (0 < n → fi < n) ∧ z + 1 = (k : Int) ∧ s6 = .int .i64 fi ∧ s7 = .int .i64 z ∧ Hid (∃ L, Pl.CPM W oa w3.heap.size n go B L wr ∧ Pl.CPI n B L k)) (fun _ q _ => (intOf q + 1).toNat)
 case atStart => exact ⟨n, 0, _, Nat.le_refl _, fun h => h, by omega, rfl, rfl, HI0⟩
 case round =>
  clear HI0
  obtain ⟨k, fi, z, hk, hfi, hz, rfl, rfl, HZ⟩ := hrel
  obtain ⟨wo, rfl⟩ : ∃ wo : World, wo = wr := ⟨_, rfl⟩
  rcases k with _ | k
  ·obtain rfl : z = -1 := by omega
   by_cases hn0 : n = 0
   ·subst hn0
    have HX : Hid (Ext W wo) := Lh (by obtain ⟨_, h, _⟩ := HZ.out; exact h.x)
    go_wp2_with fail
    simp only [Exit.noGoto]
    go_ret
    exact ⟨⟨_, _, _, rfl⟩, HX.out⟩
   ·have hfn := hfi (by omega)
    have y1 : ((n : Int) == 0) = false := by simp; omega
    have y2 : (n == 0) = false := by simp; omega
    obtain ⟨L, hcm, hci⟩ := HZ.out
    have HCM := Lh hcm
    have HCI := Lh hci
    have sx : Step W wo := ⟨hcm.x⟩
    clear HZ hcm hci
    go_wp2_with fail
    have HST : Hid (∀ w', w' = wo.alloc (.cells #[.int .i64 fi] 3) → Ext wo w' ∧ ((1 : Nat) : Int) + L.getD fi 0 ≤ n + 1 ∧ ∃ xs, w'.ownsRow wo.heap.size 3 1 (.slice (some ⟨wo.heap.size, 0, none⟩) 1 1) 1 xs) := Lh (by
     rintro w' rfl
     have h2 := (HCI.out fi (Nat.zero_le _) hfn).2.1
     exact ⟨grows, by omega, _, Pl.RowB.own (L := [(fi : Int)]) (aH wo _) (Nat.le_refl _) (by show 1 ≤ maxLen; decide)⟩)
    go_step3
    go_wp2_with fail
    go_loopw [9, 10] (fun s9 s10 wr => ∃ (va : Option Addr) (m vc a : Nat), s9 = .slice va m vc ∧ s10 = .int .i64 a ∧ a < n ∧ Hid (Ext wo wr ∧ (m : Int) + L.getD a 0 ≤ n + 1 ∧ (∃ xs, wr.ownsRow wo.heap.size 3 1 (.slice va m vc) m xs))) (fun _ q _ => (L.getD (intOf q).toNat 0).toNat)
    case atStart => exact ⟨_, _, _, _, rfl, rfl, hfn, Lh (HST.out _ rfl)⟩
    case round =>
     clear HST
     obtain ⟨va, m, vc, a, rfl, rfl, ha, HP⟩ := hrel
     have sw : Step wo wr := ⟨HP.out.1⟩
     have ca := alw (HCM.out.at ha)
     have hia := HCI.out a (Nat.zero_le _) ha
     have HIA := Lh hia.2.2
     have hia1 := hia.1
     have hia2 := hia.2.1
     clear hia
     obtain ⟨y, hy⟩ : ∃ y, y = L.getD a 0 := ⟨_, rfl⟩
     have HY := Lh hy
     rw [← hy] at ca hia1 hia2
     clear hy
     by_cases hy1 : 1 < y
     ·obtain ⟨w1, rfl⟩ : ∃ wo : World, wo = wr := ⟨_, rfl⟩
      go_wp2_with fail
      go_loopw [9, 10, 79] (fun s9 s10 q wr => s9 = .slice va m vc ∧ s10 = .int .i64 a ∧ ∃ t : Nat, t ≤ n ∧ q = .int .i64 t ∧ Hid (Ext w1 wr ∧ ∀ b, b < t → (B a).getD b false = true → L.getD b 0 ≠ L.getD a 0 - 1)) (fun _ _ q _ => n - (intOf q).toNat)
      case atStart => exact ⟨rfl, rfl, 0, Nat.zero_le _, rfl, Lh ⟨eR _, fun b hb => by omega⟩⟩
      case round =>
       obtain ⟨rfl, rfl, t, ht, rfl, HT⟩ := hrel
       by_cases htn : t < n
       ·have st : Step w1 wr := ⟨HT.out.1⟩
        have c0 := alw (HCM.out.row ha htn).1
        have c1 := alw (HCM.out.row ha htn).2
        have c2 := alw (HCM.out.at htn)
        have hit := HCI.out t (Nat.zero_le _) htn
        have hit1 := hit.1
        have hit2 := hit.2.1
        clear hit
        obtain ⟨x, hx⟩ : ∃ x, x = L.getD t 0 := ⟨_, rfl⟩
        have HX := Lh hx
        rw [← hx] at c2 hit1 hit2
        clear hx
        generalize hb1 : (B a).getD t false = b1 at c1
        have HB1 := Lh hb1
        clear hb1
        rcases b1 with _ | _
        ·clear c2
         have HNN : Hid (∀ b, b < t + 1 → (B a).getD b false = true → L.getD b 0 ≠ L.getD a 0 - 1) := Lh (fun b hb h => by
          by_cases e : b = t
          ·subst e; rw [HB1.out] at h; cases h
          ·exact HT.out.2 b (by omega) h)
         go_wp2_with fail
         refine wp_region_later (W := wr) (by kernel_rfl) (by kernel_rfl) grows ?_
         repeat (go_big_quiet_step (fail))
         refine wpQuiet_nil ?_
         intro w5 hx5
         have HN : Hid (Ext w1 w5 ∧ ∀ b, b < t + 1 → (B a).getD b false = true → L.getD b 0 ≠ L.getD a 0 - 1) := Lh ⟨HT.out.1.trans hx5, HNN.out⟩
         go_wp2_with fail
         go_roundw
         case rel => exact ⟨rfl, rfl, t + 1, by omega, by go_num, HN⟩
         case measure => simp [intOf]; omega
        ·by_cases hxy : x = y - 1
         ·have HXY := Lh hxy
          have z1 : (x == y - 1) = true := by simpa using hxy
          clear hxy
          go_wp2_with fail
          refine wp_region_later (W := wr) (by kernel_rfl) (by kernel_rfl) grows ?_
          repeat (go_big_quiet_step (fail))
          refine wpQuiet_nil ?_
          intro w5 hx5
          have s5 := Sm hx5
          have HO5 : Hid (∃ xs, w5.ownsRow wo.heap.size 3 1 (.slice va m vc) m xs) := Lh (HP.out.2.2.imp (fun xs h => own_ext h (HT.out.1.trans hx5)))
          have hmb : m ≤ 1001 := by have := HP.out.2.1; rw [← HY.out] at this; omega
          obtain ⟨xs, hox⟩ := HO5.out
          have HOX := Lh (own_ext hox (grows (a := w5) (b := (w5.alloc (.cells #[.int .i64 t] 3)))))
          have HX5 : Hid (Ext wo w5) := Lh (HP.out.1.trans (HT.out.1.trans hx5))
          clear hox HO5
          go_wp2_with (at_builtin; refine wpList_append_fresh rfl (.tmp 101) (.tmp 103) 29 rfl wo.heap.size 3 (.int .i64 0) 1 8 Tryz.underlying29 info_i64 rfl (by decide) (.slice va m vc) m xs rfl HOX.out _ 1 _ rfl (src_one w5 _ _ rfl) (by unfold maxLen; omega) (by omega) ?d3 ?_)
          case d3 => exact Nat.le_trans HX5.out.size (grows (a := w5) (b := (w5.alloc (.cells #[.int .i64 t] 3)))).size
          intro v' w6 hown hgr hfr
          obtain ⟨va4, vc4, rfl⟩ := own_slice hown
          have HN : Hid (Ext wo w6 ∧ ((m + 1 : Nat) : Int) + L.getD t 0 ≤ n + 1 ∧ ∃ xs, w6.ownsRow wo.heap.size 3 1 (.slice va4 (m + 1) vc4) (m + 1) xs) := Lh ⟨Pl.mod_low (HX5.out.trans (grows (a := w5) (b := (w5.alloc (.cells #[.int .i64 t] 3))))) (grown_mod hgr) (fun k hk => (HOX.out.lt k hk.symm).1), by have := HP.out.2.1; rw [← HY.out] at this; rw [← HX.out, HXY.out]; omega, _, hown⟩
          clear hown hgr hfr
          go_wp2_with fail
          go_roundw
          case rel => exact ⟨_, _, _, t, rfl, rfl, htn, HN⟩
          case measure =>
           simp only [intOf, Int.toNat_natCast]
           rw [← HX.out, ← HY.out, HXY.out]
           omega
         ·have HXY := Lh hxy
          have z1 : (x == y - 1) = false := by simpa using hxy
          clear hxy
          have HNN : Hid (∀ b, b < t + 1 → (B a).getD b false = true → L.getD b 0 ≠ L.getD a 0 - 1) := Lh (fun b hb h => by
           by_cases e : b = t
           ·subst e; rw [← HX.out, ← HY.out]; exact HXY.out
           ·exact HT.out.2 b (by omega) h)
          go_wp2_with fail
          refine wp_region_later (W := wr) (by kernel_rfl) (by kernel_rfl) grows ?_
          repeat (go_big_quiet_step (fail))
          refine wpQuiet_nil ?_
          intro w5 hx5
          have HN : Hid (Ext w1 w5 ∧ ∀ b, b < t + 1 → (B a).getD b false = true → L.getD b 0 ≠ L.getD a 0 - 1) := Lh ⟨HT.out.1.trans hx5, HNN.out⟩
          go_wp2_with fail
          go_roundw
          case rel => exact ⟨rfl, rfl, t + 1, by omega, by go_num, HN⟩
          case measure => simp [intOf]; omega
       ·exfalso
        rcases HIA.out with h | ⟨b, k1, k2, k3, k4⟩
        ·rw [← HY.out] at h; omega
        ·exact HT.out.2 b (by omega) k3 k4
     ·have HX : Hid (Ext W wr) := Lh (HCM.out.x.trans HP.out.1)
      have z1 : decide (1 < y) = false := dF hy1
      go_wp2_with fail
      go_ret
      exact ⟨⟨_, _, _, rfl⟩, HX.out⟩
  ·obtain rfl : z = (k : Int) := by omega
   have hkn : k < n := by omega
   have hfn := hfi (by omega)
   obtain ⟨L, hcm, hci⟩ := HZ.out
   have sx : Step W wo := ⟨hcm.x⟩
   have cy := hcm.at hkn
   have fy : wo.frozen? ⟨w3.heap.size, k, none⟩ = false := free_of hcm.s
   have HN : Hid (∃ L, Pl.CPM W oa w3.heap.size n go B L (wo.setCell ⟨w3.heap.size, k, none⟩ (.int .i64 1)) ∧ Pl.CPI n B L k) := Lh ⟨_, hcm.set 1, hci.put hkn hcm.l (by omega) (by omega) (.inl rfl)⟩
   clear hcm hci HZ
   go_wp2_with (refine wpList_store_cellK rfl 3 (.tmp 26) (.const (.int .i64 1)) rfl w3.heap.size k _ (.int .i64 1) rfl rfl (by kernel_rfl) rfl cy fy ?_)
   intro w6 hw6
   rw [← hw6.out] at HN
   clear cy fy hw6
   go_wp2_with fail
   go_loopw [28] (fun q wr => ∃ j : Nat, j ≤ n ∧ q = .int .i64 j ∧ Hid (∃ L, Pl.CPM W oa w3.heap.size n go B L wr ∧ Pl.CPI n B L k)) (fun q _ => n - (intOf q).toNat)
   case atStart => exact ⟨0, Nat.zero_le _, rfl, HN⟩
   case round =>
    clear HN
    obtain ⟨j, hj, rfl, HZ⟩ := hrel
    by_cases hjt : j < n
    ·obtain ⟨L, hcm, hci⟩ := HZ.out
     have HCM := Lh hcm
     have HCI := Lh hci
     have sx : Step W wr := ⟨hcm.x⟩
     have c0 := alw (hcm.row hkn hjt).1
     have c1 := alw (hcm.row hkn hjt).2
     have ck := alw (hcm.at hkn)
     have cj := alw (hcm.at hjt)
     have hik := hci k (Nat.le_refl _) hkn
     have hk1 := hik.1
     have hk2 := hik.2.1
     clear hcm hci hik
     obtain ⟨x, hx⟩ : ∃ x, x = L.getD k 0 := ⟨_, rfl⟩
     obtain ⟨y, hy⟩ : ∃ x, x = L.getD j 0 := ⟨_, rfl⟩
     have HX := Lh hx
     have HY := Lh hy
     rw [← hx] at ck hk1 hk2
     rw [← hy] at cj
     clear hx hy
     generalize hb1 : (B k).getD j false = b1 at c1
     have HB1 := Lh hb1
     clear hb1
     rcases b1 with _ | _
     ·go_wp2_with fail
      go_roundw
      case rel => exact ⟨j + 1, by omega, by go_num, HZ⟩
      case measure => simp [intOf]; omega
     ·have hkj : k < j := HCM.out.o.pr k j hkn HB1.out
      have hij := HCI.out j (by omega) hjt
      have hj1 := hij.1
      have hj2 := hij.2.1
      rw [← HY.out] at hj1 hj2
      clear hij HZ
      go_wp2_with fail
      refine wp_region_later_tail (W := wr) 13 (by kernel_rfl) (by kernel_rfl) grows ?_
      simp only [tkS, tkZ, dpS, dpZ]
      repeat (go_big_quiet_step (fail))
      refine wpQuiet_nil ?_
      intro w5 hx5
      have s5 := Sm hx5
      have F5 := HCM.out.ext hx5
      have cy := F5.at hkn
      have fy : w5.frozen? ⟨w3.heap.size, k, none⟩ = false := free_of F5.s
      have HN : Hid (∃ L, Pl.CPM W oa w3.heap.size n go B L (w5.setCell ⟨w3.heap.size, k, none⟩ (.int .i64 (max x (y + 1)))) ∧ Pl.CPI n B L k) := Lh ⟨_, F5.set _, by rw [HX.out, HY.out]; exact HCI.out.max hkn F5.l hkj hjt HB1.out⟩
      clear F5
      go_wp2_with (refine wpList_store_cellK rfl 3 (.tmp 50) (.tmp 49) rfl w3.heap.size k _ (.int .i64 (max x (y + 1))) rfl rfl (by kernel_rfl) rfl cy fy ?_)
      intro w6 hw6
      rw [← hw6.out] at HN
      go_wp2_with fail
      go_roundw
      case rel => exact ⟨j + 1, by omega, by go_num, HN⟩
      case measure => simp [intOf]; omega
    ·obtain rfl : n = j := by omega
     by_cases hl : k + 1 = n
     ·have z1 : ((k : Int) == (n : Int) - 1) = true := by simp; omega
      go_wp2_with fail
      refine wp_region_later (W := wr) (by kernel_rfl) (by kernel_rfl) grows ?_
      repeat (go_big_quiet_step (fail))
      refine wpQuiet_nil ?_
      intro w5 hx5
      have HN : Hid (∃ L, Pl.CPM W oa w3.heap.size n go B L w5 ∧ Pl.CPI n B L k) := Lh (by obtain ⟨_, h, h2⟩ := HZ.out; exact ⟨_, h.ext hx5, h2⟩)
      go_wp2_with fail
      go_roundw
      case rel => exact ⟨k, k, _, by omega, fun _ => hkn, by omega, rfl, rfl, HN⟩
      case measure => simp [intOf]
     ·have z1 : ((k : Int) == (n : Int) - 1) = false := by simp; omega
      obtain ⟨L, hcm, hci⟩ := HZ.out
      have sx : Step W wr := ⟨hcm.x⟩
      have ck := alw (hcm.at hkn)
      have cf := alw (hcm.at hfn)
      clear hcm hci
      generalize L.getD k 0 = x at ck
      generalize L.getD fi 0 = y at cf
      by_cases hge : y ≤ x
      ·have z2 : decide (y ≤ x) = true := dTt hge
       go_wp2_with fail
       refine wp_region_later (W := wr) (by kernel_rfl) (by kernel_rfl) grows ?_
       repeat (go_big_quiet_step (fail))
       refine wpQuiet_nil ?_
       intro w5 hx5
       have HN : Hid (∃ L, Pl.CPM W oa w3.heap.size n go B L w5 ∧ Pl.CPI n B L k) := Lh (by obtain ⟨_, h, h2⟩ := HZ.out; exact ⟨_, h.ext hx5, h2⟩)
       go_wp2_with fail
       go_roundw
       case rel => exact ⟨k, k, _, by omega, fun _ => hkn, by omega, rfl, rfl, HN⟩
       case measure => simp [intOf]
      ·have z2 : decide (y ≤ x) = false := dF hge
       go_wp2_with fail
       refine wp_region_later (W := wr) (by kernel_rfl) (by kernel_rfl) grows ?_
       repeat (go_big_quiet_step (fail))
       refine wpQuiet_nil ?_
       intro w5 hx5
       have HN : Hid (∃ L, Pl.CPM W oa w3.heap.size n go B L w5 ∧ Pl.CPI n B L k) := Lh (by obtain ⟨_, h, h2⟩ := HZ.out; exact ⟨_, h.ext hx5, h2⟩)
       go_wp2_with fail
       go_roundw
       case rel => exact ⟨k, fi, _, by omega, fun _ => hfn, by omega, rfl, rfl, HN⟩
       case measure => simp [intOf]
theorem zero_res (w : World) : (zeroValue 73).run Tryz.prog w = .ok (.agg #[.int .i64 0, .int .i64 0]) w := by kernel_rfl
theorem Pl.mul_bd {x y a b : Int} (hx : 0 ≤ x ∧ x ≤ a) (hy : 0 ≤ y ∧ y ≤ b) : 0 ≤ x * y ∧ x * y ≤ a * b :=
 ⟨Int.mul_nonneg hx.1 hy.1, Int.mul_le_mul hx.2 hy.2 hy.1 (by omega)⟩
theorem tcost_any {W : World} {p : Pg.PV} {F : Tj.FP} (hG : Tj.IsG W p F) (hc : Tj.chkF F = 0) (t : Int) : Calls Tryz.prog 65 #[p.val, .int .i64 t] W (Rets W (.agg #[.int .i64 (Pl.tcost F t).1, .int .i64 (Pl.tcost F t).2])) := by
 have hF := hG.1
 have hB := Pl.bd_of hc
 have HCK : Hid (∀ w, Ext W w → Calls Tryz.prog 10 #[p.val] w (DiagP w 0)) := Lh (fun w hx => by have h := pcheck2_any (hG.ext hx); rw [hc] at h; exact h)
 have HBI := Lh (fun (w : World) (hx : Ext W w) => tbits_any (hF.ext hx) t)
 have HKI := Lh (fun (w : World) (hx : Ext W w) => tkind_any (hF.ext hx) t)
 have HFF := Lh hF
 have HB := Lh hB
 have h12 := hB.ts
 have htb := Pl.tbits_bd F t
 obtain ⟨a1, a2, a3, a4, a5, a6, a7, a8, m1, m2, m3, m4, m5, m6, n7, m7, m8, hf⟩ := hF.form
 obtain ⟨rfl, hnm, hhs, hmd, hrs, has, hts, hss, hct, hdp, l1, l2, l3, l4, l5, l6, l7, l8⟩ := hf
 dsimp only [Pg.PV.val] at HCK HBI HKI ⊢
 unfold DiagP at HCK
 have bx := aH W (.cells (Yq0 F a1 m1 a2 m2 a3 m3 a4 m4 a5 m5 a6 m6 a7 m7 n7 a8 m8) 31)
 have k0 := alw (cQ 0 bx)
 have k1 := alw (cQ 1 bx)
 have k2 := alw (cQ 2 bx)
 have k3 := alw (cQ 3 bx)
 have k4 := alw (cQ 4 bx)
 have k5 := alw (cQ 5 bx)
 have k6 := alw (cQ 6 bx)
 have k7 := alw (cQ 7 bx)
 have k8 := alw (cQ 8 bx)
 clear bx
 clear hF hG hc hnm hhs hmd hrs has hss hct hdp hB
 have hrb := aH (W.alloc (.cells (Yq0 F a1 m1 a2 m2 a3 m3 a4 m4 a5 m5 a6 m6 a7 m7 n7 a8 m8) 31)) (.cells #[.int .i64 0, .int .i64 0] 73)
 rw [szA] at hrb
 have HRB0 := Lh hrb
 clear hrb
 have hz := zero_res
 by_cases h0 : t < 0
 ·have z1 : decide (t < 0) = true := dTt h0
  have HE : Hid (Pl.tcost F t = (0, 0)) := Lh (by unfold Pl.tcost Tj.at?; rw [if_neg (by omega)])
  clear HBI HKI h0 hts
  go_enter Tryz.func65, Tryz.ntmps65
  go_wp2_with fail
  refine (HCK.out _ grows).mono ?_
  rintro e w3 ⟨d1, d2, d3, rfl, x3⟩
  have s3 := Sm x3
  have HRB : Hid (w3.heap[W.heap.size + 1]? = some (.cells #[.int .i64 0, .int .i64 0] 73 (0, 0))) := Lh (x3.heap HRB0.out)
  have HX3 : Hid (Ext W w3) := Lh grows
  have hfd : ∀ w, (Instr.field 57 (.agg #[.int .i64 0, .int .i64 d1, .int .i64 d2, .int .i64 d3]) 0).run Tryz.prog w = .ok (.int .i64 0) w := fun w => by kernel_rfl
  go_upto_region 2 with (fail)
  go_wp2_with (refine wpList_store_box rfl 73 (.tmp 4) (.tmp 33) rfl (W.heap.size + 1) #[.int .i64 (0), .int .i64 (0)] rfl rfl 73 #[.int .i64 0, .int .i64 0] HRB.out (by kernel_rfl) rfl (by simp [Value.oneCell']) ?_)
  intro w9 hm hb
  have q0 := cQ 0 hb
  have q1 := cQ 1 hb
  go_wp2_with fail
  have HXF : Hid (Ext W w9) := Lh (Pl.mod_low HX3.out hm (fun q hq => by omega))
  exact bodyPost_ret (v := .agg #[.int .i64 0, .int .i64 0]) (by simp [results, Tryz.results65, go_sem, q0, q1]) rfl ⟨by rw [HE.out], HXF.out⟩
 ·have z1 : decide (t < 0) = false := dF h0
  by_cases h1 : (F.ts.length : Int) ≤ t
  ·have z2 : decide ((F.ts.length : Int) ≤ t) = true := dTt h1
   have HE : Hid (Pl.tcost F t = (0, 0)) := Lh (by
    unfold Pl.tcost
    cases hat : Tj.at? F.ts t with
    | none => rfl
    | some y => have := (Tj.at_get hat).2.1; omega)
   clear HBI HKI h0 hts
   go_enter Tryz.func65, Tryz.ntmps65
   go_wp2_with fail
   refine (HCK.out _ grows).mono ?_
   rintro e w3 ⟨d1, d2, d3, rfl, x3⟩
   have s3 := Sm x3
   have HRB : Hid (w3.heap[W.heap.size + 1]? = some (.cells #[.int .i64 0, .int .i64 0] 73 (0, 0))) := Lh (x3.heap HRB0.out)
   have HX3 : Hid (Ext W w3) := Lh grows
   have hfd : ∀ w, (Instr.field 57 (.agg #[.int .i64 0, .int .i64 d1, .int .i64 d2, .int .i64 d3]) 0).run Tryz.prog w = .ok (.int .i64 0) w := fun w => by kernel_rfl
   go_upto_region 2 with (fail)
   go_wp2_with (refine wpList_store_box rfl 73 (.tmp 4) (.tmp 33) rfl (W.heap.size + 1) #[.int .i64 (0), .int .i64 (0)] rfl rfl 73 #[.int .i64 0, .int .i64 0] HRB.out (by kernel_rfl) rfl (by simp [Value.oneCell']) ?_)
   intro w9 hm hb
   have q0 := cQ 0 hb
   have q1 := cQ 1 hb
   go_wp2_with fail
   have HXF : Hid (Ext W w9) := Lh (Pl.mod_low HX3.out hm (fun q hq => by omega))
   exact bodyPost_ret (v := .agg #[.int .i64 0, .int .i64 0]) (by simp [results, Tryz.results65, go_sem, q0, q1]) rfl ⟨by rw [HE.out], HXF.out⟩
  ·obtain ⟨q, rfl⟩ := Int.eq_ofNat_of_zero_le (show 0 ≤ t by omega)
   have hql : q < F.ts.length := by omega
   obtain ⟨x, hq⟩ : ∃ y, F.ts[q]? = some y := ⟨_, gE hql⟩
   have hat : Tj.at? F.ts (q : Int) = some x := by unfold Tj.at?; rw [if_pos (by omega), Int.toNat_natCast]; exact hq
   obtain ⟨hk6, ha16, hsz1, hsz2⟩ := Tj.tab_ks (HB.out.tE x (List.mem_of_getElem? hq))
   have z2 : decide ((F.ts.length : Int) ≤ (q : Int)) = false := dF h1
   have z3 : decide (F.ts.length ≤ q) = false := dF (by omega)
   obtain ⟨tb, tq, rfl, _, _⟩ := Rows.at hts (by omega)
   obtain ⟨ka, kc, aa, cc, va, vc, _, _, hks, hac, har, g0, g1, g2, g3, g4, g5⟩ := tabs_at hts q x hq rfl
   have v0 := alw g0
   have v1 := alw g1
   have v2 := alw g2
   have v3 := alw g3
   have v4 := alw g4
   have v5 := alw g5
   have HAB : Hid (∀ w, Ext W w → Calls Tryz.prog 97 #[.agg (Yq5 F a1 m1 a2 m2 a3 m3 a4 m4 tb tq m5 a6 m6 a7 m7 n7 a8 m8), .agg #[.string x.nm, .slice ka x.ks.length kc, .slice aa x.ac.length cc, .int .i64 x.df.a, .slice va x.df.ar.length vc, .int .i64 x.sz]] w (Rets w (.int .i64 (Pl.abits F x)))) := Lh (fun w hx => abits_any (HFF.out.ext hx) HB.out _ _ _ _ _ _ _ _ _ _ _ (hac.1.ext hx) ha16)
   clear hts hq g0 g1 g2 g3 g4 g5 hks hac har h1 h0
   by_cases hk0 : x.ks.length = 0
   ·have HE : Hid (Pl.tcost F (q : Int) = (0, 0)) := Lh (by unfold Pl.tcost; rw [hat]; exact if_pos hk0)
    clear HBI HKI HAB hat
    go_enter Tryz.func65, Tryz.ntmps65
    go_wp2_with fail
    refine (HCK.out _ grows).mono ?_
    rintro e w3 ⟨d1, d2, d3, rfl, x3⟩
    have s3 := Sm x3
    have HRB : Hid (w3.heap[W.heap.size + 1]? = some (.cells #[.int .i64 0, .int .i64 0] 73 (0, 0))) := Lh (x3.heap HRB0.out)
    have HX3 : Hid (Ext W w3) := Lh grows
    have hfd : ∀ w, (Instr.field 57 (.agg #[.int .i64 0, .int .i64 d1, .int .i64 d2, .int .i64 d3]) 0).run Tryz.prog w = .ok (.int .i64 0) w := fun w => by kernel_rfl
    go_upto_region 2 with (fail)
    go_wp2_with (refine wpList_store_box rfl 73 (.tmp 4) (.tmp 33) rfl (W.heap.size + 1) #[.int .i64 (0), .int .i64 (0)] rfl rfl 73 #[.int .i64 0, .int .i64 0] HRB.out (by kernel_rfl) rfl (by simp [Value.oneCell']) ?_)
    intro w9 hm hb
    have q0 := cQ 0 hb
    have q1 := cQ 1 hb
    go_wp2_with fail
    have HXF : Hid (Ext W w9) := Lh (Pl.mod_low HX3.out hm (fun q hq => by omega))
    exact bodyPost_ret (v := .agg #[.int .i64 0, .int .i64 0]) (by simp [results, Tryz.results65, go_sem, q0, q1]) rfl ⟨by rw [HE.out], HXF.out⟩
   ·have hkz : x.ks.length ≠ 0 := hk0
    have hab := Pl.abL_bd HB.out x.ac 0 (by omega)
    obtain ⟨ab, hab'⟩ : ∃ z, z = Pl.abits F x := ⟨_, rfl⟩
    have hab2 : 0 ≤ ab ∧ ab ≤ 128 := by rw [hab']; exact hab
    obtain ⟨tbt, htb'⟩ : ∃ z, z = Pl.tbits F (q : Int) := ⟨_, rfl⟩
    rw [← htb'] at htb HBI
    rw [← hab'] at HAB
    obtain ⟨kd, hkd⟩ : ∃ z, z = Tj.kind F (q : Int) := ⟨_, rfl⟩
    rw [← hkd] at HKI
    have hco : Pl.tcost F (q : Int) = if kd = 1 then (Pl.blk (x.sz * (tbt + (8 + ab))) 4096, 0) else (Pl.blk (x.sz * (8 + ab)) 4096, Pl.blk (x.sz * tbt) 2048) := by
     unfold Pl.tcost; rw [hat, hkd, htb', hab']; exact if_neg hk0
    have HCO := Lh hco
    obtain ⟨sz, hsz⟩ : ∃ z, z = x.sz := ⟨_, rfl⟩
    clear hab hab' htb' hkd hco hat hk0
    go_enter Tryz.func65, Tryz.ntmps65
    go_wp2_with fail
    refine (HCK.out _ grows).mono ?_
    rintro e w3 ⟨d1, d2, d3, rfl, x3⟩
    have s3 := Sm x3
    have HRB : Hid (w3.heap[W.heap.size + 1]? = some (.cells #[.int .i64 0, .int .i64 0] 73 (0, 0))) := Lh (x3.heap HRB0.out)
    have HX3 : Hid (Ext W w3) := Lh grows
    have hfd : ∀ w, (Instr.field 57 (.agg #[.int .i64 0, .int .i64 d1, .int .i64 d2, .int .i64 d3]) 0).run Tryz.prog w = .ok (.int .i64 0) w := fun w => by kernel_rfl
    go_upto_region 3 with (fail)
    refine wp_region_later (W := w3) (by kernel_rfl) (by kernel_rfl) grows ?_
    repeat (go_big_quiet_step (first | (go_at_call 96; with_reducible exact Rets.later_at (HBI.out _ grows)) | (go_at_call 97; with_reducible exact Rets.later_at (HAB.out _ grows)) | fail))
    refine wpQuiet_nil ?_
    intro w5 hx5
    have s5 := Sm hx5
    have HRB5 : Hid (w5.heap[W.heap.size + 1]? = some (.cells #[.int .i64 0, .int .i64 0] 73 (0, 0))) := Lh (hx5.heap HRB.out)
    have HX5 : Hid (Ext W w5) := Lh (HX3.out.trans hx5)
    clear HRB HX3
    go_wp2_with fail
    refine via (HKI.out _ grows) fun w6 x6 s6 => ?_
    have HRB : Hid (w6.heap[W.heap.size + 1]? = some (.cells #[.int .i64 0, .int .i64 0] 73 (0, 0))) := Lh (x6.heap HRB5.out)
    have HX6 : Hid (Ext W w6) := Lh (HX5.out.trans x6)
    have hm1 := Pl.mul_bd (x := x.sz) (a := 256) (y := tbt + (8 + ab)) (b := 328) ⟨by omega, hsz2⟩ (by omega)
    have hm2 := Pl.mul_bd (x := x.sz) (a := 256) (y := 8 + ab) (b := 136) ⟨by omega, hsz2⟩ (by omega)
    have hm3 := Pl.mul_bd (x := x.sz) (a := 256) (y := tbt) (b := 192) ⟨by omega, hsz2⟩ (by omega)
    have HK1 := Lh (blk_any (x.sz * (tbt + (8 + ab))) 4096 (by omega) (by omega))
    have HK2 := Lh (blk_any (x.sz * (8 + ab)) 4096 (by omega) (by omega))
    have HK3 := Lh (blk_any (x.sz * tbt) 2048 (by omega) (by omega))
    obtain ⟨b1, hb1⟩ : ∃ z, z = Pl.blk (x.sz * (tbt + (8 + ab))) 4096 := ⟨_, rfl⟩
    obtain ⟨b2, hb2⟩ : ∃ z, z = Pl.blk (x.sz * (8 + ab)) 4096 := ⟨_, rfl⟩
    obtain ⟨b3, hb3⟩ : ∃ z, z = Pl.blk (x.sz * tbt) 2048 := ⟨_, rfl⟩
    rw [← hb1] at HK1
    rw [← hb2] at HK2
    rw [← hb3] at HK3
    rw [← hb1, ← hb2, ← hb3] at HCO
    clear hb1 hb2 hb3 HRB5 HX5 x6
    by_cases h1 : kd = 1
    ·subst h1
     have HE : Hid (Pl.tcost F (q : Int) = (b1, 0)) := Lh HCO.out
     clear HCO HK2 HK3
     go_wp2_with fail
     refine (HK1.out _).mono ?_
     rintro e w7 ⟨rfl, rfl⟩
     go_wp2_with (refine wpList_store_box rfl 73 (.tmp 4) (.tmp 61) rfl (W.heap.size + 1) #[.int .i64 (b1), .int .i64 (0)] rfl rfl 73 #[.int .i64 0, .int .i64 0] HRB.out (by kernel_rfl) rfl (by simp [Value.oneCell']) ?_)
     intro w9 hm hb
     have q0 := cQ 0 hb
     have q1 := cQ 1 hb
     go_wp2_with fail
     have HXF : Hid (Ext W w9) := Lh (Pl.mod_low HX6.out hm (fun q hq => by omega))
     exact bodyPost_ret (v := .agg #[.int .i64 b1, .int .i64 0]) (by simp [results, Tryz.results65, go_sem, q0, q1]) rfl ⟨by rw [HE.out], HXF.out⟩
    ·have z5 : (kd == 1) = false := bF h1
     have HE : Hid (Pl.tcost F (q : Int) = (b2, b3)) := Lh (by rw [HCO.out]; exact if_neg h1)
     clear HCO HK1
     go_wp2_with fail
     refine (HK2.out _).mono ?_
     rintro e w7 ⟨rfl, rfl⟩
     go_wp2_with fail
     refine (HK3.out _).mono ?_
     rintro e w7 ⟨rfl, rfl⟩
     go_wp2_with (refine wpList_store_box rfl 73 (.tmp 4) (.tmp 70) rfl (W.heap.size + 1) #[.int .i64 (b2), .int .i64 (b3)] rfl rfl 73 #[.int .i64 0, .int .i64 0] HRB.out (by kernel_rfl) rfl (by simp [Value.oneCell']) ?_)
     intro w9 hm hb
     have q0 := cQ 0 hb
     have q1 := cQ 1 hb
     go_wp2_with fail
     have HXF : Hid (Ext W w9) := Lh (Pl.mod_low HX6.out hm (fun q hq => by omega))
     exact bodyPost_ret (v := .agg #[.int .i64 b2, .int .i64 b3]) (by simp [results, Tryz.results65, go_sem, q0, q1]) rfl ⟨by rw [HE.out], HXF.out⟩
theorem ucost_any {W : World} {p : Pg.PV} {F : Tj.FP} (hG : Tj.IsG W p F) (hc : Tj.chkF F = 0) (u : Pl.Un) (ca ga : Option Addr) (cn cc gn gc : Nat) : Calls Tryz.prog 27 #[p.val, .agg #[.int .i64 u.tb, .slice ca cn cc, .slice ga gn gc]] W (Rets W (.agg #[.int .i64 (Pl.ucost F u).1, .int .i64 (Pl.ucost F u).2])) := by
 have HTC := Lh (fun (w : World) (hx : Ext W w) => tcost_any (hG.ext hx) hc u.tb)
 obtain ⟨t, ht⟩ : ∃ t, t = u.tb := ⟨_, rfl⟩
 have hu : Pl.ucost F u = if t = -1 then (0, 0) else Pl.tcost F t := by rw [ht]; rfl
 rw [← ht] at HTC ⊢
 have HU := Lh hu
 have hF := hG.1
 obtain ⟨a1, a2, a3, a4, a5, a6, a7, a8, m1, m2, m3, m4, m5, m6, n7, m7, m8, hf⟩ := hF.form
 obtain ⟨rfl, hnm, hhs, hmd, hrs, has, hts, hss, hct, hdp, l1, l2, l3, l4, l5, l6, l7, l8⟩ := hf
 dsimp only [Pg.PV.val] at HTC ⊢
 have bx := aH W (.cells (Yq0 F a1 m1 a2 m2 a3 m3 a4 m4 a5 m5 a6 m6 a7 m7 n7 a8 m8) 31)
 have k0 := alw (cQ 0 bx)
 have k1 := alw (cQ 1 bx)
 have k2 := alw (cQ 2 bx)
 have k3 := alw (cQ 3 bx)
 have k4 := alw (cQ 4 bx)
 have k5 := alw (cQ 5 bx)
 have k6 := alw (cQ 6 bx)
 have k7 := alw (cQ 7 bx)
 have k8 := alw (cQ 8 bx)
 clear bx
 have bx := aH (W.alloc (.cells (Yq0 F a1 m1 a2 m2 a3 m3 a4 m4 a5 m5 a6 m6 a7 m7 n7 a8 m8) 31)) (.cells #[.int .i64 t, .slice ca cn cc, .slice ga gn gc] 111)
 rw [szA] at bx
 have j0 := alw (cQ 0 bx)
 have j1 := alw (cQ 1 bx)
 have j2 := alw (cQ 2 bx)
 clear bx
 clear hF hG hc hnm hhs hmd hrs has hts hss hct hdp ht hu
 have hrb := aH ((W.alloc (.cells (Yq0 F a1 m1 a2 m2 a3 m3 a4 m4 a5 m5 a6 m6 a7 m7 n7 a8 m8) 31)).alloc (.cells #[.int .i64 t, .slice ca cn cc, .slice ga gn gc] 111)) (.cells #[.int .i64 0, .int .i64 0] 73)
 rw [szA, szA] at hrb
 have HRB0 := Lh hrb
 clear hrb
 have hz := zero_res
 by_cases h1 : t = -1
 ·subst h1
  have HE : Hid (Pl.ucost F u = (0, 0)) := Lh (by rw [HU.out]; rfl)
  clear HTC
  have HRB := HRB0
  have HX6 : Hid (Ext W (((W.alloc (.cells (Yq0 F a1 m1 a2 m2 a3 m3 a4 m4 a5 m5 a6 m6 a7 m7 n7 a8 m8) 31)).alloc (.cells #[.int .i64 (-1), .slice ca cn cc, .slice ga gn gc] 111)).alloc (.cells #[.int .i64 0, .int .i64 0] 73))) := Lh grows
  go_enter Tryz.func27, Tryz.ntmps27
  go_upto_region 2 with (fail)
  go_wp2_with (refine wpList_store_box rfl 73 (.tmp 4) (.tmp 8) rfl (W.heap.size + 1 + 1) #[.int .i64 (0), .int .i64 (0)] rfl rfl 73 #[.int .i64 0, .int .i64 0] HRB.out (by kernel_rfl) rfl (by simp [Value.oneCell']) ?_)
  intro w9 hm hb
  have q0 := cQ 0 hb
  have q1 := cQ 1 hb
  go_wp2_with fail
  have HXF : Hid (Ext W w9) := Lh (Pl.mod_low HX6.out hm (fun q hq => by omega))
  exact bodyPost_ret (v := .agg #[.int .i64 0, .int .i64 0]) (by simp [results, Tryz.results27, go_sem, q0, q1]) rfl ⟨by rw [HE.out], HXF.out⟩
 ·have z1 : (t == -1) = false := bF h1
  have HE : Hid (Pl.ucost F u = Pl.tcost F t) := Lh (by rw [HU.out]; exact if_neg h1)
  go_enter Tryz.func27, Tryz.ntmps27
  go_wp2_with fail
  refine (HTC.out _ grows).mono ?_
  rintro e w7 ⟨rfl, x7⟩
  have HRB : Hid (w7.heap[W.heap.size + 1 + 1]? = some (.cells #[.int .i64 0, .int .i64 0] 73 (0, 0))) := Lh (x7.heap HRB0.out)
  have HX6 : Hid (Ext W w7) := Lh ((grows (a := W) (b := (((W.alloc (.cells (Yq0 F a1 m1 a2 m2 a3 m3 a4 m4 a5 m5 a6 m6 a7 m7 n7 a8 m8) 31)).alloc (.cells #[.int .i64 t, .slice ca cn cc, .slice ga gn gc] 111)).alloc (.cells #[.int .i64 0, .int .i64 0] 73)))).trans x7)
  go_wp2_with (refine wpList_store_box rfl 73 (.tmp 4) (.tmp 12) rfl (W.heap.size + 1 + 1) #[.int .i64 ((Pl.tcost F t).1), .int .i64 ((Pl.tcost F t).2)] rfl rfl 73 #[.int .i64 0, .int .i64 0] HRB.out (by kernel_rfl) rfl (by simp [Value.oneCell']) ?_)
  intro w9 hm hb
  have q0 := cQ 0 hb
  have q1 := cQ 1 hb
  go_wp2_with fail
  have HXF : Hid (Ext W w9) := Lh (Pl.mod_low HX6.out hm (fun q hq => by omega))
  exact bodyPost_ret (v := .agg #[.int .i64 ((Pl.tcost F t).1), .int .i64 (Pl.tcost F t).2]) (by simp [results, Tryz.results27, go_sem, q0, q1]) rfl ⟨by rw [HE.out], HXF.out⟩
end Go.Proofs.YtkiafiaodockbaaGreat
