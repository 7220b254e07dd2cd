/- WriteBits, walked. No condition. -/
import Derived.Test.YtonnlcjkgpahoaaIoW
namespace Go.Proofs.Ytonnlcjkgpahoaa
open Go.RowKit

theorem writeBits_ok {w : World} {base p : Nat} {oa : Option Addr} {n c : Nat} {L : List Int} (h : WrtAt w base p oa n c L) (v : Int) (k : Nat) (k1 : 1 ≤ k) (k2 : k ≤ 32) (v0 : 0 ≤ v) (hv : v < Bv.pw k) (hL : L.length ≤ 1000000000000) :
    Calls Try.prog 72 #[.pointer (some ⟨p, 0, none⟩), .int .u32 v, .int .i64 k] w
      fun e w' => e = .returned (.int .i64 0) ∧ ∃ oa' n' c', Mod (WS p oa n c) w w' ∧ WrtAt w' base p oa' n' c' (L ++ Io.bitsTo v k k) ∧ ∀ q, q < w.heap.size → WS p oa' n' c' q → WS p oa n c q := by
  have c2 : w.cell? ⟨p, 2, none⟩ = some (.bool true) := cell_of h.raw.blk
  have hf : Bv.fits v k = true := by
    simp only [Bv.fits, Bv.ok_of (show (1 : Int) ≤ k by omega) (by omega), Bool.true_and, decide_eq_true_eq]; exact hv
  have hv32 : v < 4294967296 := Int.lt_of_lt_of_le hv (Bv.pw_le32 (by omega))
  have H := Lib.hid h
  clear h
  go_enter Try.func72, Try.ntmps72
  go_wp2_with (go_at_call 100; refine (fits_any _ _ _).mono ?_; rintro e w1 ⟨rfl, hx⟩)
  clear c2
  go_loopw [32] (fun i wr => ∃ j oa' n' c', j ≤ k ∧ i = .int .i64 (j : Nat) ∧ WrtAt wr base p oa' n' c' (L ++ Io.bitsTo v k j) ∧ Mod (WS p oa n c) w wr ∧ ∀ q, q < w.heap.size → WS p oa' n' c' q → WS p oa n c q) (fun i _ => k - (intOf i).toNat)
  case atStart => exact ⟨0, oa, n, c, Nat.zero_le _, rfl, by simpa [Io.bitsTo] using H.out.ext hx, Mod.of_ext hx, fun _ _ hq => hq⟩
  case round =>
    obtain ⟨j, oa1, n1, c1, hj, rfl, hw, hm, hi⟩ := hrel
    clear hx
    by_cases hlt : j < k
    · obtain ⟨M, hM⟩ : ∃ M, M = L ++ Io.bitsTo v k j := ⟨_, rfl⟩
      have hMl : M.length = L.length + j := by rw [hM, List.length_append, Io.bitsTo_len]
      obtain ⟨b, hb⟩ : ∃ b, b = v / 2 ^ (k - 1 - j) % 2 := ⟨_, rfl⟩
      have hM2 : M ++ [b] = L ++ Io.bitsTo v k (j + 1) := by rw [Io.bitsTo_succ, hM, hb, List.append_assoc]
      rw [← hM] at hw
      obtain ⟨m, hm0⟩ : ∃ m, m = M.length := ⟨_, rfl⟩
      have hmb : m ≤ 1000000000032 := by omega
      have hb01 : 0 ≤ b ∧ b ≤ 1 := by omega
      have hand : bits .and .u32 (v / 2 ^ (k - 1 - j)) 1 = b := by
        have hd := Bv.div_bd v0 hv32 (Int.pow_pos (show (0 : Int) < 2 by decide) : (0 : Int) < 2 ^ (k - 1 - j))
        rw [Bv.and_one hd.1 hd.2, hb]
      have a0 : wr.cell? ⟨p, 0, none⟩ = some (.slice oa1 n1 c1) := cell_of hw.raw.blk
      have a1 : wr.cell? ⟨p, 1, none⟩ = some (.int .i64 m) := by rw [hm0]; exact cell_of hw.raw.blk
      have HM := Lib.hid hM2
      have HM0 := Lib.hid hm0
      have HW := Lib.hid hw
      have HMod := Lib.hid hm
      have HI := Lib.hid hi
      clear hM hMl hb hM2 hm0 hw hm hi
      by_cases h8 : m % 8 = 0
      · have t8 : ((m : Int) % 8 == 0) = true := by simp; omega
        have hrm : Io.room M = Io.pack M ++ [0] := by unfold Io.room; rw [if_pos (by rw [← HM0.out]; exact h8)]
        have HRM := Lib.hid hrm
        have hpl := Io.pack_len M
        rw [← HM0.out] at hpl
        have hpl2 : (Io.pack M).length ≤ 1000000000040 := by omega
        clear hrm hpl h8
        go_wp2_with (at_builtin; refine wpList_append_fresh rfl (.tmp 45) (.tmp 46) 35 rfl base 5 (.int .u8 0) 1 1 Try.underlying35 info_u8 rfl (by decide) _ (Io.pack M).length (u8s (Io.pack M)) rfl (HW.out.raw.ext ((Ext.refl _).alloc _)).row _ 1 [.int .u8 0] rfl ?src ?d1 ?d2 ?d3 ?_)
        case src => exact src_one _ _ _ rfl
        case d1 => unfold maxLen; omega
        case d2 => omega
        case d3 => have := HW.out.raw.le; have := lt_of_block HW.out.raw.blk; simp; omega
        intro v' w' hown hgr hfr
        obtain ⟨oa2, c3, rfl⟩ := own_slice hown
        have hraw0 := HW.out.raw.ext ((Ext.refl wr).alloc (.cells #[.int .u8 0] 5))
        have hg2 := hraw0.grow (Y := Io.room M) (by rw [HRM.out]; simpa [u8s] using hown) (by rw [HRM.out]; simp) hgr
        have e0 : w'.cell? ⟨p, 0, none⟩ = some (.slice oa1 n1 c1) := by
          have := (grown_mod hgr).heap hraw0.blk (fun e => hraw0.apart p e.symm rfl)
          exact cell_of this
        have f0 : w'.frozen? ⟨p, 0, none⟩ = false := by
          have := (grown_mod hgr).heap hraw0.blk (fun e => hraw0.apart p e.symm rfl)
          exact free_of this
        have HG := Lib.hid hg2
        have hinv2 : ∀ q, q < w.heap.size → WS p oa2 ((Io.pack M).length + 1) c3 q → WS p oa n c q := fun q hq hs => by
          rcases hs with hs | hs
          · exact .inl hs
          · rcases hfr with hfr | hfr
            · exact HI.out q hq (.inr (by rw [hs]; exact hfr))
            · have h1 := hfr q hs.symm
              have h2 := HMod.out.size
              first | (rw [World.size_alloc] at h1; omega) | omega
        have HI2 := Lib.hid hinv2
        clear hg2 hinv2 hraw0 hown hgr hfr a0
        go_wp2_with fail
        generalize hW3 : w'.setCell ⟨p, 0, none⟩ (.slice oa2 ((Io.pack M).length + 1) c3) = W3
        have hg2 := HG.out
        rw [hW3] at hg2
        obtain ⟨hraw, hmod3⟩ := hg2
        have HM3 := Lib.hid (HMod.out.comp ((Mod.of_ext (S := WS p oa1 n1 c1) ((Ext.refl wr).alloc (.cells #[.int .u8 0] 5))).trans hmod3) HI.out)
        clear hmod3 HG hW3 e0 f0
        have hmlen := HM0.out
        have hroomlen := Io.room_len M
        rw [← hmlen] at hroomlen
        obtain ⟨g, c4, hg, _, _, _, _, hcell, hfree⟩ := own_cell hraw.row (by intro e; have := congrArg List.length e; simp [u8s] at this; rw [this] at hroomlen; simp at hroomlen)
        simp only [Value.slice.injEq] at hg
        obtain ⟨rfl, hn2, rfl⟩ := hg
        have hN : m / 8 < (Io.pack M).length + 1 := by omega
        have HN2 := Lib.hid hn2
        clear hn2
        obtain ⟨y, hy⟩ : ∃ y, y = Io.byteOf M (m / 8) := ⟨_, rfl⟩
        have hyb := Io.byteOf_bd HW.out.bits (m / 8)
        rw [← hy] at hyb
        have hsb := Io.shl_byte hb01 (m % 8)
        have hor : bits .or .u8 y (b * 2 ^ (7 - m % 8)) = y + b * 2 ^ (7 - m % 8) := by
          rw [hy, hmlen]; exact Io.or_byte HW.out.bits hb01
        have hps : Io.pack (M ++ [b]) = (Io.room M).set (m / 8) (y + b * 2 ^ (7 - m % 8)) := by rw [hy, hmlen]; exact Io.pack_snoc M b
        have HPS := Lib.hid hps
        have l0 := Later.cell (W := W3) (p := ⟨p, 0, none⟩) (v := .slice (some ⟨g, 0, none⟩) _ c3) (cell_of hraw.blk)
        have l1 := Later.cell (W := W3) (p := ⟨p, 1, none⟩) (v := .int .i64 m) (by have h1 := cell_of (o := 1) hraw.blk; rw [← hmlen] at h1; exact h1)
        have l2 := Later.cell (W := W3) (p := ⟨g, m / 8, none⟩) (v := .int .u8 y) (hcell _ _ (by have h0 := Io.room_get M (m / 8) (by rw [← hmlen]; omega); simp [u8s, h0, hy]))
        have HF := Lib.hid hfree
        have HRaw := Lib.hid hraw
        clear hps hy hcell hfree hmlen
        refine wp_region_later_tail (W := W3) 21 (by kernel_rfl) (by kernel_rfl) (Ext.refl _) ?_
        simp only [List.take_succ_cons, List.take_zero, List.drop_succ_cons, List.drop_zero]
        repeat (go_big_quiet_step (fail))
        refine wpQuiet_nil ?_
        intro W4 hx4
        have hraw4 := HRaw.out.ext hx4
        have hput := hraw4.put (m / 8) (y + b * 2 ^ (7 - m % 8))
        have hcnt := hput.1.count (m + 1)
        have d1 := l2 ⟨W4, hx4⟩
        dsimp only at d1
        have d2 : W4.frozen? ⟨g, m / 8, none⟩ = false := by
          obtain ⟨g', c', hg', _, _, _, _, _, hf'⟩ := own_cell hraw4.row (by intro e; have := congrArg List.length e; simp [u8s] at this; rw [this] at hroomlen; simp at hroomlen)
          simp only [Value.slice.injEq, Option.some.injEq, Addr.mk.injEq] at hg'
          obtain ⟨⟨rfl, _⟩, _⟩ := hg'
          exact hf' _
        have d3 : (W4.setCell ⟨g, m / 8, none⟩ (.int .u8 (y + b * 2 ^ (7 - m % 8)))).cell? ⟨p, 1, none⟩ = some (.int .i64 m) := by
          have h1 := cell_of (o := 1) hput.1.blk; rw [← HM0.out] at h1; exact h1
        have d4 : W4.frozen? ⟨p, 1, none⟩ = false := free_of hraw4.blk
        have HC := Lib.hid hcnt
        have HP := Lib.hid hput
        clear l0 l1 l2 hraw hraw4 hput hcnt
        go_wp2
        go_roundw
        case rel =>
          refine ⟨j + 1, _, _, _, by omega, by go_num, ⟨?_, ?_⟩, ?_, HI2.out⟩
          · rw [← HM.out, HPS.out, List.length_append, ← HM0.out]
            exact HC.out.1
          · rw [← HM.out]; exact HW.out.bits.snoc hb01
          · exact HM3.out.comp (((Mod.of_ext hx4).trans HP.out.2).trans HC.out.2) HI2.out
        case measure => simp [intOf]; omega
      · have t8 : ((m : Int) % 8 == 0) = false := by simp; omega
        have hrm : Io.room M = Io.pack M := by unfold Io.room; rw [if_neg (by rw [← HM0.out]; exact h8)]
        have hraw : RawW wr base p oa1 n1 c1 (Io.room M) M.length := by rw [hrm]; exact HW.out.raw
        have HRaw0 := Lib.hid hraw
        clear hrm hraw h8
        go_wp2_with fail
        have hraw := HRaw0.out
        clear a0 a1
        have hmlen := HM0.out
        have hroomlen := Io.room_len M
        rw [← hmlen] at hroomlen
        obtain ⟨g, c4, hg, _, _, _, _, hcell, hfree⟩ := own_cell hraw.row (by intro e; have := congrArg List.length e; simp [u8s] at this; rw [this] at hroomlen; simp at hroomlen)
        simp only [Value.slice.injEq] at hg
        obtain ⟨rfl, hn2, rfl⟩ := hg
        have hN : m / 8 < n1 := by omega
        have HN2 := Lib.hid hn2
        clear hn2
        obtain ⟨y, hy⟩ : ∃ y, y = Io.byteOf M (m / 8) := ⟨_, rfl⟩
        have hyb := Io.byteOf_bd HW.out.bits (m / 8)
        rw [← hy] at hyb
        have hsb := Io.shl_byte hb01 (m % 8)
        have hor : bits .or .u8 y (b * 2 ^ (7 - m % 8)) = y + b * 2 ^ (7 - m % 8) := by
          rw [hy, hmlen]; exact Io.or_byte HW.out.bits hb01
        have hps : Io.pack (M ++ [b]) = (Io.room M).set (m / 8) (y + b * 2 ^ (7 - m % 8)) := by rw [hy, hmlen]; exact Io.pack_snoc M b
        have HPS := Lib.hid hps
        have l0 := Later.cell (W := wr) (p := ⟨p, 0, none⟩) (v := .slice (some ⟨g, 0, none⟩) _ c1) (cell_of hraw.blk)
        have l1 := Later.cell (W := wr) (p := ⟨p, 1, none⟩) (v := .int .i64 m) (by have h1 := cell_of (o := 1) hraw.blk; rw [← hmlen] at h1; exact h1)
        have l2 := Later.cell (W := wr) (p := ⟨g, m / 8, none⟩) (v := .int .u8 y) (hcell _ _ (by have h0 := Io.room_get M (m / 8) (by rw [← hmlen]; omega); simp [u8s, h0, hy]))
        have HF := Lib.hid hfree
        have HRaw := Lib.hid hraw
        clear hps hy hcell hfree hmlen
        refine wp_region_later_tail (W := wr) 21 (by kernel_rfl) (by kernel_rfl) (Ext.refl _) ?_
        simp only [List.take_succ_cons, List.take_zero, List.drop_succ_cons, List.drop_zero]
        repeat (go_big_quiet_step (fail))
        refine wpQuiet_nil ?_
        intro W4 hx4
        have hraw4 := HRaw.out.ext hx4
        have hput := hraw4.put (m / 8) (y + b * 2 ^ (7 - m % 8))
        have hcnt := hput.1.count (m + 1)
        have d1 := l2 ⟨W4, hx4⟩
        dsimp only at d1
        have d2 : W4.frozen? ⟨g, m / 8, none⟩ = false := by
          obtain ⟨g', c', hg', _, _, _, _, _, hf'⟩ := own_cell hraw4.row (by intro e; have := congrArg List.length e; simp [u8s] at this; rw [this] at hroomlen; simp at hroomlen)
          simp only [Value.slice.injEq, Option.some.injEq, Addr.mk.injEq] at hg'
          obtain ⟨⟨rfl, _⟩, _⟩ := hg'
          exact hf' _
        have d3 : (W4.setCell ⟨g, m / 8, none⟩ (.int .u8 (y + b * 2 ^ (7 - m % 8)))).cell? ⟨p, 1, none⟩ = some (.int .i64 m) := by
          have h1 := cell_of (o := 1) hput.1.blk; rw [← HM0.out] at h1; exact h1
        have d4 : W4.frozen? ⟨p, 1, none⟩ = false := free_of hraw4.blk
        have HC := Lib.hid hcnt
        have HP := Lib.hid hput
        clear l0 l1 l2 hraw hraw4 hput hcnt
        go_wp2
        go_roundw
        case rel =>
          refine ⟨j + 1, _, _, _, by omega, by go_num, ⟨?_, ?_⟩, ?_, HI.out⟩
          · rw [← HM.out, HPS.out, List.length_append, ← HM0.out]
            exact HC.out.1
          · rw [← HM.out]; exact HW.out.bits.snoc hb01
          · exact HMod.out.comp (((Mod.of_ext hx4).trans HP.out.2).trans HC.out.2) HI.out
        case measure => simp [intOf]; omega
    · obtain rfl : j = k := by omega
      go_wp2
      go_ret
      exact ⟨rfl, oa1, n1, c1, hm, hw, hi⟩
end Go.Proofs.Ytonnlcjkgpahoaa
