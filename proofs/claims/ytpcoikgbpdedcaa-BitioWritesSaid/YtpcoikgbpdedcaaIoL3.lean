/- The laws of layer 2, walked: packing again what was unpacked. No condition. -/
import Derived.Test.YtpcoikgbpdedcaaIoL2
import Derived.Test.YtpcoikgbpdedcaaIoV
import Derived.Test.YtpcoikgbpdedcaaBvL
namespace Go.Proofs.Ytpcoikgbpdedcaa
open Go.RowKit

theorem row_take {k : IntKind} {w : World} {a : Option Addr} {len cap : Nat} {zs : List Int} (h : IsRow k w a len cap zs) :
    ∃ l : List Int, len = l.length ∧ l.length ≤ maxLen ∧ Src w (.slice a l.length cap) 1 l.length (l.map (.int k)) ∧ ∀ x ∈ l, (Lit.int k x).wf = true := by
  rcases h with ⟨rfl, rfl, rfl, rfl⟩ | ⟨x, rfl, h1, h2, h3, h4, h5⟩
  · exact ⟨[], rfl, Nat.zero_le _, ⟨rfl, by simp, .inl ⟨rfl, rfl⟩⟩, by simp⟩
  · have hl : (zs.take len).length = len := by rw [List.length_take]; omega
    refine ⟨zs.take len, hl.symm, by rw [hl]; omega, ?_, fun y hy => h5 y (List.mem_of_mem_take hy)⟩
    refine ⟨by simp, ?_, .inr ⟨x, cap, rfl, fun j u hj => ?_⟩⟩
    · intro u hu; obtain ⟨y, _, rfl⟩ := List.mem_map.1 hu; rfl
    · have hjl : j < len := by
        rcases Nat.lt_or_ge j len with h | h
        · exact h
        · rw [List.getElem?_eq_none (by rw [List.length_map, hl]; exact h)] at hj; cases hj
      rw [h4 j (by omega)]
      rw [List.getElem?_map, List.getElem?_take, if_pos hjl] at hj
      rw [List.getD_eq_getElem?_getD]
      rw [List.getElem?_eq_getElem (by omega)] at hj ⊢
      simpa using hj
theorem wf_u8 {a : Int} (h : (Lit.int .u8 a).wf = true) : 0 ≤ a ∧ a ≤ 255 := by
  simp [Lit.wf, IntKind.min, IntKind.max, IntKind.bits, IntKind.signed] at h; omega
theorem info_i64 : (Try.prog.info? 3).map (fun i => (i.zero, i.size, i.bytes)) = some (some (.int .i64 0), 1, 8) := by kernel_rfl

set_option maxRecDepth 8000 in
set_option maxHeartbeats 400000 in
theorem bitioRepacks_walk (a0 : Option Addr) (n0 c0 : Nat) (z0 : List Int) (a1 : Option Addr) (n1 c1 : Nat) (z1 : List Int) (W : World) (r0 : IsRow .u8 W a0 n0 c0 z0) (r1 : IsRow .u8 W a1 n1 c1 z1) :
    Calls Try.prog 9 #[.slice a0 n0 c0, .slice a1 n1 c1] W (Rets W (.bool true)) := by
  obtain ⟨l, rfl, hl, sl, bl⟩ := row_take r0
  obtain ⟨ws, rfl, hw, sw, bw⟩ := row_take r1
  clear r0 r1
  have hby : Io.Bytes l := fun x hx => wf_u8 (bl x hx)
  have hwb : Io.Bytes ws := fun x hx => wf_u8 (bw x hx)
  unfold maxLen at hl hw
  clear bl bw
  have SL := Lib.hid sl
  have SW := Lib.hid sw
  have HBY := Lib.hid hby
  have HWB := Lib.hid hwb
  clear sl sw hby hwb
  by_cases hsm : l.length ≤ 200 ∧ ws.length ≤ 200
  · obtain ⟨h1, h2⟩ := hsm
    go_enter Try.func9, Try.ntmps9
    go_wp2_with fail
    go_loopw [5, 6, 7] (fun o lf i wr => ∃ (k : Nat) (ns : List Int), k ≤ ws.length ∧ i = .int .i64 k ∧ Io.Widths ns ∧ ns.length ≤ k ∧ Io.total ns ≤ 8 * l.length ∧ lf = .int .i64 (8 * l.length - Io.total ns) ∧ Ext W wr ∧ wr.ownsRow W.heap.size 3 1 o ns.length (i64s ns)) (fun _ _ i _ => ws.length - (intOf i).toNat)
    case atStart => exact ⟨0, [], Nat.zero_le _, rfl, by simp [Io.Widths], Nat.le_refl _, Nat.zero_le _, by simp [Io.total], Ext.refl _, World.ownsRow_nil _ _ _ _⟩
    case round =>
      obtain ⟨k, ns, hk, rfl, hns, hnl, htot, rfl, hx, ho⟩ := hrel
      obtain ⟨oo, co, rfl⟩ := own_slice ho
      obtain ⟨t, ht⟩ : ∃ t, t = Io.total ns := ⟨_, rfl⟩
      rw [← ht] at htot ⊢
      have HT := Lib.hid ht
      have HO := Lib.hid ho
      have HX := Lib.hid hx
      have HNS := Lib.hid hns
      clear ht ho hx hns
      by_cases hgo : k < ws.length ∧ t < 8 * l.length
      · obtain ⟨hlt, hleft⟩ := hgo
        obtain ⟨x, hxk⟩ : ∃ x, ws[k]? = some x := ⟨_, List.getElem?_eq_getElem hlt⟩
        have hxb := HWB.out x (List.mem_of_getElem? hxk)
        cases a1 with
        | none =>
          rcases SW.out.2.2 with ⟨_, h0⟩ | ⟨_, _, h0, _⟩
          · omega
          · simp at h0
        | some bd =>
        obtain ⟨eb, _, cb'⟩ := SW.out.at (by omega)
        obtain ⟨bb, bo, bsp⟩ := bd
        simp only [Addr.mk.injEq, true_and] at eb
        subst eb
        dsimp only at cb'
        have f2 := HX.out.cell (cb' k (.int .u8 x) (by simp [hxk]))
        have hz := HX.out.le
        by_cases hmin : 1 + x % 32 ≤ 8 * (l.length : Int) - t
        · have hsrc := src_one wr (.int .i64 (1 + x % 32)) 3 rfl
          have HS := Lib.hid hsrc
          have HO2 := Lib.hid (own_ext HO.out ((Ext.refl wr).alloc (.cells #[.int .i64 (1 + x % 32)] 3)))
          clear hsrc hxk cb'
          go_wp2_with (first
            | (go_at_call 47; refine (lwidth_any _ hxb.1 hxb.2 _).mono ?_; rintro e w1 ⟨rfl, rfl⟩)
            | (at_builtin; refine wpList_append_fresh rfl (.tmp 42) (.tmp 44) 44 rfl W.heap.size 3 (.int .i64 0) 1 8 Try.underlying44 info_i64 rfl (by decide) _ ns.length (i64s ns) rfl HO2.out _ 1 [.int .i64 (1 + x % 32)] rfl HS.out ?d1 ?d2 ?d3 ?_))
          case d1 => unfold maxLen; omega
          case d2 => omega
          case d3 => simp; omega
          intro v' w' hown hgr _
          have hx3 := (HX.out.alloc (.cells #[.int .i64 (1 + x % 32)] 3)).mod (grown_mod hgr) (fun q hq => (HO2.out.lt q hq.symm).1)
          have HA3 := Lib.hid hown
          clear hgr hown
          go_wp2
          go_roundw
          case rel =>
            refine ⟨k + 1, ns ++ [1 + x % 32], by omega, by go_num, HNS.out.snoc (by omega) (by omega), by simp; omega, ?_, ?_, hx3, by simpa [i64s] using HA3.out⟩
            · rw [Io.total_snoc, ← HT.out]; omega
            · rw [Io.total_snoc, ← HT.out]
              congr 1
              omega
          case measure => simp [intOf]; omega
        · have hsrc := src_one wr (.int .i64 (8 * (l.length : Int) - t)) 3 rfl
          have HS := Lib.hid hsrc
          have HO2 := Lib.hid (own_ext HO.out ((Ext.refl wr).alloc (.cells #[.int .i64 (8 * (l.length : Int) - t)] 3)))
          clear hsrc hxk cb'
          go_wp2_with (first
            | (go_at_call 47; refine (lwidth_any _ hxb.1 hxb.2 _).mono ?_; rintro e w1 ⟨rfl, rfl⟩)
            | (at_builtin; refine wpList_append_fresh rfl (.tmp 42) (.tmp 44) 44 rfl W.heap.size 3 (.int .i64 0) 1 8 Try.underlying44 info_i64 rfl (by decide) _ ns.length (i64s ns) rfl HO2.out _ 1 [.int .i64 (8 * (l.length : Int) - t)] rfl HS.out ?d1 ?d2 ?d3 ?_))
          case d1 => unfold maxLen; omega
          case d2 => omega
          case d3 => simp; omega
          intro v' w' hown hgr _
          have hx3 := (HX.out.alloc (.cells #[.int .i64 (8 * (l.length : Int) - t)] 3)).mod (grown_mod hgr) (fun q hq => (HO2.out.lt q hq.symm).1)
          have HA3 := Lib.hid hown
          clear hgr hown
          go_wp2
          go_roundw
          case rel =>
            refine ⟨k + 1, ns ++ [8 * (l.length : Int) - t], by omega, by go_num, HNS.out.snoc (by omega) (by omega), by simp; omega, ?_, ?_, hx3, by simpa [i64s] using HA3.out⟩
            · rw [Io.total_snoc, ← HT.out]; omega
            · rw [Io.total_snoc, ← HT.out]
              congr 1
              omega
          case measure => simp [intOf]; omega
      · by_cases hfull : t < 8 * l.length
        · obtain rfl : k = ws.length := by omega
          obtain ⟨f1, f2⟩ := Io.rep_long (l := l) HNS.out (by rw [← HT.out]; exact hfull)
          have F1 := Lib.hid f1
          have F2 := Lib.hid f2
          clear f1 f2
          go_wp2_with fail
          refine (unpack_any _ _ l ns _ (SL.out.ext HX.out) (own_src HO.out (i64s_one _)) HBY.out (by omega) (by omega)).mono ?_
          rintro e w2 ⟨v2, rfl, x2, o2⟩
          rw [F1.out]
          rw [F2.out] at o2
          obtain ⟨o2a, c2, hv⟩ := own_slice o2
          change v2 = .slice o2a 0 c2 at hv
          subst hv
          have X2 := Lib.hid (HX.out.trans x2)
          clear o2 x2
          go_wp2_with (go_at_call 41; refine (works_any _).mono ?_; rintro e w3 ⟨rfl, hy⟩)
          go_ret
          exact ⟨rfl, X2.out.trans hy⟩
        · obtain ⟨f1, f2, f3, f4, f5⟩ := Io.rep_all HBY.out HNS.out (by rw [← HT.out]; omega)
          obtain ⟨vs, hvs⟩ : ∃ vs, vs = Io.unV l ns := ⟨_, rfl⟩
          rw [← hvs] at f2 f3 f4 f5
          have F1 := Lib.hid f1
          have F2 := Lib.hid f2
          have F3 := Lib.hid f3
          have F4 := Lib.hid f4
          have F5 := Lib.hid f5
          have HV := Lib.hid hvs
          clear f1 f2 f3 f4 f5 hvs
          rcases (show k < ws.length ∨ ws.length ≤ k by omega) with hlt | hlt
          all_goals
            go_wp2_with fail
            refine (unpack_any _ _ l ns _ (SL.out.ext HX.out) (own_src HO.out (i64s_one _)) HBY.out (by omega) (by omega)).mono ?_
            rintro e w2 ⟨v2, rfl, x2, o2⟩
            rw [F1.out]
            rw [← HV.out] at o2
            have s2 := own_src o2 (u32s_one _)
            rw [F2.out] at o2
            obtain ⟨o2a, c2, rfl⟩ := own_slice o2
            have S2 := Lib.hid s2
            have X2 := Lib.hid x2
            clear s2 o2 x2
            go_wp2_with fail
            refine (pack_any _ _ vs ns _ S2.out ((own_src HO.out (i64s_one _)).ext X2.out) F3.out (by rw [F2.out]; omega)).mono ?_
            rintro e w3 ⟨v3, rfl, x3, o3⟩
            rw [F4.out]
            rw [F5.out] at o3
            have hs1 := src_str (own_src o3 (u8s_one _))
            obtain ⟨o3a, c3, rfl⟩ := own_slice o3
            have hs2 := src_str (SL.out.ext ((HX.out.trans X2.out).trans x3))
            have X3 := Lib.hid ((HX.out.trans X2.out).trans x3)
            clear x3 o3
            go_wp2_with (go_at_call 41; refine (works_any _).mono ?_; rintro e w4 ⟨rfl, hy⟩)
            go_ret
            exact ⟨rfl, X3.out.trans hy⟩
  · go_enter Try.func9, Try.ntmps9
    by_cases h1 : l.length ≤ 200
    · have h2 : 200 < ws.length := by omega
      go_wp2_with (go_at_call 41; refine (works_any _).mono ?_; rintro e w1 ⟨rfl, hy⟩)
      go_ret
      exact ⟨rfl, hy⟩
    · have h2 : 200 < l.length := by omega
      go_wp2_with (go_at_call 41; refine (works_any _).mono ?_; rintro e w1 ⟨rfl, hy⟩)
      go_ret
      exact ⟨rfl, hy⟩
end Go.Proofs.Ytpcoikgbpdedcaa
