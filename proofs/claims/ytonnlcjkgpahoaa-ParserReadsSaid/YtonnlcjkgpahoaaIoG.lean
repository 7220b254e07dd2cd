/- The reference of layer 2, walked: writers. No condition. -/
import Derived.Test.YtonnlcjkgpahoaaIoF2
import Derived.Test.YtonnlcjkgpahoaaIoW2
import Derived.Test.YtonnlcjkgpahoaaIoV3
namespace Go.Proofs.Ytonnlcjkgpahoaa
open Go.RowKit

/-- bits as Booleans -/
def bls (L : List Int) : List Value := L.map fun b => .bool (b == 1)
theorem bls_one (l : List Int) : ∀ u ∈ bls l, u.oneCell' = true := by
  intro u hu; obtain ⟨x, _, rfl⟩ := List.mem_map.1 hu; rfl
theorem bls_get {l : List Int} {j : Nat} {x : Int} (h : l[j]? = some x) : (bls l)[j]? = some (.bool (x == 1)) := by simp [bls, h]
theorem info_bool : (Try.prog.info? 4).map (fun i => (i.zero, i.size, i.bytes)) = some (some (.bool false), 1, 1) := by kernel_rfl

theorem rNewWriter_any (W : World) : Calls Try.prog 35 #[] W (Rets W (.agg #[.slice none 0 0])) := by
  go_enter Try.func35, Try.ntmps35
  go_wp2
  have e0 := alloc_heap W (.cells #[.slice none 0 0] 67)
  have d0 := cell_of (o := 0) e0
  exact bodyPost_ret (v := .agg #[.slice none 0 0]) (by simp [results, Try.results35, go_sem, d0]) rfl ⟨rfl, (Ext.refl W).alloc _⟩
theorem rWriteBits_err {W : World} {oa : Option Addr} {n c : Nat} (v k : Int) (v0 : 0 ≤ v) (v1 : v < 4294967296) (he : Io.wrE v k ≠ 0) :
    Calls Try.prog 60 #[.agg #[.slice oa n c], .int .u32 v, .int .i64 k] W
      (Rets W (.tuple #[.agg #[.slice oa n c], .int .i64 (Io.wrE v k)])) := by
  cases hok : Bv.ok k
  · have e : Io.wrE v k = 10 := by unfold Io.wrE; rw [hok]; rfl
    rw [e]
    clear he e
    go_enter Try.func60, Try.ntmps60
    go_wp2_with fail
    refine (vwidth_any _ _).mono ?_
    rintro e w1 ⟨rfl, rfl⟩
    rw [hok]
    go_wp2
    exact bodyPost_ret (v := .tuple #[.agg #[.slice oa n c], .int .i64 10]) (by simp [results, Try.results60, go_sem]) rfl
      ⟨rfl, ((Ext.refl W).alloc _).alloc _⟩
  · have hf : Bv.fits v k = false := by
      cases h : Bv.fits v k
      · rfl
      · exact absurd (by unfold Io.wrE; rw [if_pos hok, if_pos h]) he
    have e : Io.wrE v k = 9 := by unfold Io.wrE; rw [if_pos hok, if_neg (by rw [hf]; decide)]
    rw [e]
    clear he e
    go_enter Try.func60, Try.ntmps60
    go_wp2_with fail
    refine (vwidth_any _ _).mono ?_
    rintro e w1 ⟨rfl, rfl⟩
    rw [hok]
    go_wp2_with fail
    refine (rfits_any _ _ v0 v1 _).mono ?_
    rintro e w1 ⟨rfl, rfl⟩
    rw [hf]
    go_wp2
    exact bodyPost_ret (v := .tuple #[.agg #[.slice oa n c], .int .i64 9]) (by simp [results, Try.results60, go_sem]) rfl
      ⟨rfl, ((Ext.refl W).alloc _).alloc _⟩

theorem rWriteBits_ok {W : World} {oa : Option Addr} {c : Nat} {L : List Int} (v : Int) (k : Nat) (v0 : 0 ≤ v) (v1 : v < 4294967296) (he : Io.wrE v k = 0) (hs : Src W (.slice oa L.length c) 1 L.length (bls L)) (hL : L.length ≤ 1000000000000) :
    Calls Try.prog 60 #[.agg #[.slice oa L.length c], .int .u32 v, .int .i64 k] W
      fun e W' => ∃ oa' c', e = .returned (.tuple #[.agg #[.slice oa' (L.length + k) c'], .int .i64 0]) ∧ Ext W W' ∧ W'.ownsRow W.heap.size 4 1 (.slice oa' (L.length + k) c') (L.length + k) (bls (L ++ Io.bitsTo v k k)) := by
  obtain ⟨hok, hf⟩ := Io.wrE_zero he
  have hk := Bv.ok_iff.1 hok
  have hs1 := Lib.hid (hs.ext (((Ext.refl W).alloc (.cells #[.slice oa L.length c] 67)).alloc (.cells #[.slice none 0 0] 67)))
  have HE := Lib.hid he
  clear hs he
  go_enter Try.func60, Try.ntmps60
  go_wp2_with fail
  refine (vwidth_any _ _).mono ?_
  rintro e w1 ⟨rfl, rfl⟩
  rw [hok]
  go_wp2_with fail
  refine (rfits_any _ _ v0 v1 _).mono ?_
  rintro e w1 ⟨rfl, rfl⟩
  rw [hf]
  clear hok hf
  go_wp2_with (at_builtin; refine wpList_append_src rfl (.tmp 21) (.tmp 23) 32 rfl W.heap.size 4 (.bool false) 1 1 Try.underlying32 info_bool rfl (by decide) _ 0 [] rfl (World.ownsRow_nil _ _ _ _) _ L.length (bls L) rfl hs1.out ?c1 ?c2 ?c3 ?_)
  case c1 => unfold maxLen; omega
  case c2 => omega
  case c3 => simp; omega
  intro v' w' hown hgr _
  obtain ⟨ob, cb, rfl⟩ := own_slice hown
  have hx := grown_ext hgr
  have e1 : w'.heap[W.heap.size + 1]? = some (.cells #[.slice none 0 0] 67) := hx.heap (by have := alloc_heap (W.alloc (.cells #[.slice oa L.length c] 67)) (.cells #[.slice none 0 0] 67); simpa using this)
  have HX := Lib.hid ((((Ext.refl W).alloc _).alloc _).trans hx)
  have HE1 := Lib.hid e1
  have HO := Lib.hid hown
  clear hx e1 hown hgr
  go_wp2_with fail
  go_loopw [8, 9] (fun o i wr => ∃ (j m : Nat) (oa' : Option Addr) (c' : Nat), j + m = k ∧ i = .int .i64 ((m : Int) - 1) ∧ o = .slice oa' (L.length + j) c' ∧ Ext W wr ∧ wr.ownsRow W.heap.size 4 1 (.slice oa' (L.length + j) c') (L.length + j) (bls (L ++ Io.bitsTo v k j))
    ∧ wr.heap[W.heap.size + 1]? = some (.cells #[.slice none 0 0] 67 (0, 0))) (fun _ i _ => (intOf i + 1).toNat)
  case atStart => exact ⟨0, k, ob, cb, Nat.zero_add _, by go_num, rfl, HX.out, by simpa [Io.bitsTo] using HO.out, HE1.out⟩
  case round =>
    obtain ⟨j, m, oa', c', hjm, rfl, rfl, hx, ho, hb⟩ := hrel
    cases m with
    | zero =>
      obtain rfl : j = k := by omega
      have f0 := free_of (o := 0) hb
      have d0 := cell_of (o := 0) hb
      obtain ⟨g1, g2⟩ := set1 (a' := .slice oa' (L.length + j) c') hb
      have d1 := cell_of (o := 0) g1
      have G1 := Lib.hid g1
      have HX2 := Lib.hid (hx.mod g2 (fun q hq => by rw [hq]; omega))
      have HO2 := Lib.hid (own_mod ho g2 (own_not ho hb (by decide)))
      clear hx ho hb g1 g2 HX HE1 HO
      go_wp2
      exact bodyPost_ret (v := .tuple #[.agg #[.slice oa' (L.length + j) c'], .int .i64 0]) (by simp [results, Try.results60, go_sem, d1]) rfl
        ⟨oa', c', rfl, HX2.out, HO2.out⟩
    | succ m =>
      rw [show (((m + 1 : Nat) : Int) - 1) = (m : Int) by omega]
      have HJ := Lib.hid hjm
      have hjk : j < k := by omega
      have hm : m < 32 := by omega
      have hp2 : (0 : Int) < 2 ^ m := Int.pow_pos (by decide)
      have hd0 : 0 ≤ v / 2 ^ m := Int.ediv_nonneg v0 (by omega)
      have hd1 : v / 2 ^ m ≤ 4294967295 := Int.le_trans (Int.ediv_le_self _ v0) (by omega)
      have hbs := Io.bitsTo_succ v k j
      rw [show k - 1 - j = m by omega] at hbs
      have HBS := Lib.hid hbs
      have hz := hx.le
      have HS := Lib.hid (src_one wr (.bool (v / 2 ^ m % 2 == 1)) 4 rfl)
      have HO2 := Lib.hid (own_ext ho ((Ext.refl wr).alloc (.cells #[.bool (v / 2 ^ m % 2 == 1)] 4)))
      have HX2 := Lib.hid (hx.alloc (.cells #[.bool (v / 2 ^ m % 2 == 1)] 4))
      have HB := Lib.hid (((Ext.refl wr).alloc (.cells #[.bool (v / 2 ^ m % 2 == 1)] 4)).heap hb)
      clear hjm hx ho hb hbs HX HE1 HO hp2
      go_wp2_with (at_builtin; refine wpList_append_fresh rfl (.tmp 31) (.tmp 37) 32 rfl W.heap.size 4 (.bool false) 1 1 Try.underlying32 info_bool rfl (by decide) _ (L.length + j) (bls (L ++ Io.bitsTo v k j)) rfl HO2.out _ 1 [.bool (v / 2 ^ m % 2 == 1)] rfl HS.out ?d1 ?d2 ?d3 ?_)
      case d1 => unfold maxLen; omega
      case d2 => omega
      case d3 => simp; omega
      intro v' w' hown hgr _
      have hx3 := HX2.out.mod (grown_mod hgr) (fun q hq => (HO2.out.lt q hq.symm).1)
      have hb3 := (grown_mod hgr).heap HB.out (fun e1 => by
        obtain ⟨cur, hc⟩ := own_type HO2.out e1.symm
        exact ne_of_type hc HB.out (by decide) rfl)
      obtain ⟨o3, c3, rfl⟩ := own_slice hown
      have HA3 := Lib.hid hown
      have HX3 := Lib.hid hx3
      have HB3 := Lib.hid hb3
      clear hgr hown hx3 hb3 HO2 HX2 HB
      go_wp2
      go_roundw
      case rel => exact ⟨j + 1, m, o3, c3, by have := HJ.out; omega, by go_num, by rw [Nat.add_assoc], HX3.out, by rw [HBS.out, ← List.append_assoc]; simpa [bls, Nat.add_assoc] using HA3.out, HB3.out⟩
      case measure => simp [intOf]
/-- one call, whatever its arguments -/
theorem rWriteBits_any {W : World} {base : Nat} {oa : Option Addr} {c : Nat} {L : List Int} (v k : Int) (v0 : 0 ≤ v) (v1 : v < 4294967296) (ho : W.ownsRow base 4 1 (.slice oa L.length c) L.length (bls L)) (hb : base ≤ W.heap.size) (hL : L.length ≤ 1000000000000) :
    Calls Try.prog 60 #[.agg #[.slice oa L.length c], .int .u32 v, .int .i64 k] W
      fun e W' => ∃ oa' c', e = .returned (.tuple #[.agg #[.slice oa' (Io.wrL L v k).length c'], .int .i64 (Io.wrE v k)]) ∧ Ext W W' ∧ W'.ownsRow base 4 1 (.slice oa' (Io.wrL L v k).length c') (Io.wrL L v k).length (bls (Io.wrL L v k)) := by
  by_cases he : Io.wrE v k = 0
  · have h3 := Bv.ok_iff.1 (Io.wrE_zero he).1
    obtain ⟨j, rfl⟩ := Int.eq_ofNat_of_zero_le (show 0 ≤ k by omega)
    have e1 : Io.wrL L v j = L ++ Io.bitsTo v j j := by unfold Io.wrL; rw [if_pos he]; rfl
    have e2 : (L ++ Io.bitsTo v j j).length = L.length + j := by rw [List.length_append, Io.bitsTo_len]
    rw [e1, e2, he]
    exact (rWriteBits_ok v j v0 v1 he (own_src ho (bls_one _)) hL).mono fun e w' ⟨oa', c', h1, h2, h3⟩ => ⟨oa', c', h1, h2, own_base h3 hb⟩
  · have e1 : Io.wrL L v k = L := by unfold Io.wrL; rw [if_neg he]
    rw [e1]
    exact (rWriteBits_err v k v0 v1 he).mono fun e w' ⟨h1, h2⟩ => ⟨oa, c, h1, h2, own_ext ho h2⟩

theorem rBytes_width {W : World} {oa : Option Addr} {n c : Nat} (hk : n % 8 ≠ 0) (hn : n ≤ 1152921504606846976) :
    Calls Try.prog 38 #[.agg #[.slice oa n c]] W (Rets W (.tuple #[.slice none 0 0, .int .i64 10])) := by
  have hne2 : ((n : Int) % 8 != 0) = true := by simp; omega
  clear hk
  go_enter Try.func38, Try.ntmps38
  go_wp2
  go_ret2
  exact ⟨rfl, (Ext.refl W).alloc _⟩
theorem rBytes_ok {W : World} {base : Nat} {oa : Option Addr} {c : Nat} {L : List Int} (ho : W.ownsRow base 4 1 (.slice oa L.length c) L.length (bls L)) (hbits : Io.Bits L) (hk : L.length % 8 = 0) (hL : L.length ≤ 1125899906842624) :
    Calls Try.prog 38 #[.agg #[.slice oa L.length c]] W
      fun e W' => ∃ v, e = .returned (.tuple #[v, .int .i64 0]) ∧ Ext W W' ∧ W'.ownsRow W.heap.size 5 1 v (Io.pack L).length (u8s (Io.pack L)) := by
  have hne2 : ((L.length : Int) % 8 != 0) = false := by simp; omega
  have HK := Lib.hid hk
  clear hk
  obtain ⟨N, hN⟩ : ∃ N, N = L.length / 8 := ⟨_, rfl⟩
  have hdiv : ((L.length : Int)).tdiv 8 = (N : Int) := by rw [Int.tdiv_eq_ediv_of_nonneg (by omega), hN]; omega
  have hdiv2 : (L.length : Int) / 8 = (N : Int) := by omega
  obtain ⟨info, hi, hz, hs1, hs2⟩ := info_parts info_u8
  have hmk : ∀ w' : World, (Instr.makeSlice 35 (.int .i64 (N : Int)) (.int .i64 (N : Int))).run Try.prog w' = .ok (.slice (some ⟨w'.heap.size, 0, none⟩) N N) (w'.alloc (.cells (madeCells (Value.int .u8 0).cells (N * info.size)) 5)) := fun w' => by
    have := run_make (P := Try.prog) w' 35 5 info (.int .u8 0) Try.underlying35 hi hz .i64 .i64 (N : Int) (N : Int) (by omega) (Int.le_refl _) (by rw [hs2]; omega) (by omega)
    simpa using this
  have HN := Lib.hid hN
  have HS1 := Lib.hid hs1
  clear hN hs1 hs2 hi hz
  go_enter Try.func38, Try.ntmps38
  go_wp2_with fail
  have hown0 : (((W.alloc (.cells #[.slice oa L.length c] 67)).alloc (.cells (madeCells (Value.int .u8 0).cells (N * info.size)) 5))).ownsRow W.heap.size 5 1 (.slice (some ⟨W.heap.size + 1, 0, none⟩) N N) N (u8s (Io.outL L N 0)) := by
    have h1 := World.ownsRow_lit (base := W.heap.size) (e := 5) (size := 1) (W.alloc (.cells #[.slice oa L.length c] 67)) (madeCells (Value.int .u8 0).cells (N * info.size)) N (by simp) (by unfold maxLen; omega) (by rw [size_madeCells, HS1.out])
    have h2 : (madeCells (Value.int .u8 0).cells (N * info.size)).toList = u8s (Io.outL L N 0) := by
      rw [Io.outL_zero, HS1.out, Nat.mul_one]
      simp [madeCells, u8s, Value.cells, List.map_const', Nat.mod_one]
    rw [h2] at h1
    simpa using h1
  have hblk0 : ((W.alloc (.cells #[.slice oa L.length c] 67)).alloc (.cells (madeCells (Value.int .u8 0).cells (N * info.size)) 5)).heap[W.heap.size + 1]? = some (.cells (u8s (Io.outL L N 0)).toArray 5 (0, 0)) := by
    have h1 := alloc_heap (W.alloc (.cells #[.slice oa L.length c] 67)) (.cells (madeCells (Value.int .u8 0).cells (N * info.size)) 5)
    have h2 : madeCells (Value.int .u8 0).cells (N * info.size) = (u8s (Io.outL L N 0)).toArray := by
      apply Array.ext'
      rw [Io.outL_zero, HS1.out, Nat.mul_one]
      simp [madeCells, u8s, Value.cells, List.map_const', Nat.mod_one]
    rw [h2] at h1 ⊢
    simpa using h1
  have HX0 := Lib.hid (((Ext.refl W).alloc (.cells #[.slice oa L.length c] 67)).alloc (.cells (madeCells (Value.int .u8 0).cells (N * info.size)) 5))
  have HB0 := Lib.hid hblk0
  have HA0 : Hid (((W.alloc (.cells #[.slice oa L.length c] 67)).alloc (.cells (madeCells (Value.int .u8 0).cells (N * info.size)) 5)).heap[W.heap.size]? = some (.cells #[.slice oa L.length c] 67 (0, 0))) := Lib.hid (((Ext.refl _).alloc _).heap (alloc_heap W _))
  have hle : N ≤ 140737488355328 := by have := HN.out; omega
  clear hblk0 hown0
  go_loopw [5] (fun i wr => ∃ k : Nat, k ≤ L.length ∧ i = .int .i64 k ∧ Ext W wr ∧ wr.heap[W.heap.size]? = some (.cells #[.slice oa L.length c] 67 (0, 0)) ∧ wr.heap[W.heap.size + 1]? = some (.cells (u8s (Io.outL L N k)).toArray 5 (0, 0))) (fun i _ => L.length - (intOf i).toNat)
  case atStart => exact ⟨0, Nat.zero_le _, rfl, HX0.out, HA0.out, HB0.out⟩
  case round =>
    obtain ⟨k, hk, rfl, hx, hA, hB⟩ := hrel
    clear HX0 HA0 HB0
    by_cases hlt : k < L.length
    · have hq : k / 8 < N := by have := HN.out; have := HK.out; omega
      have hb := hbits.get k
      have ha := Io.acc_small hbits (k / 8) (k % 8) (Nat.mod_lt _ (by decide))
      have hget : (u8s (Io.outL L N k))[k / 8]? = some (.int .u8 (Io.acc L (k / 8) (k % 8))) := by
        have := Io.outL_get L N k (k / 8) hq
        rw [show min 8 (k - 8 * (k / 8)) = k % 8 by omega] at this
        simp [u8s, this]
      have hsucc := Lib.hid (Io.outL_succ L N k hq)
      obtain ⟨a, hae⟩ : ∃ a, a = Io.acc L (k / 8) (k % 8) := ⟨_, rfl⟩
      obtain ⟨b, hbe⟩ : ∃ b, b = L.getD k 0 := ⟨_, rfl⟩
      rw [← hae] at ha hget
      rw [← hae, ← hbe] at hsucc
      rw [← hbe] at hb
      have c1 : wr.cell? ⟨W.heap.size + 1, k / 8, none⟩ = some (.int .u8 a) := by rw [cell_of hB]; simpa using hget
      have f1 : wr.frozen? ⟨W.heap.size + 1, k / 8, none⟩ = false := free_of hB
      have c0 : wr.cell? ⟨W.heap.size, 0, none⟩ = some (.slice oa L.length c) := cell_of hA
      have hsrc := own_src ho (bls_one L)
      cases oa with
      | none =>
        rcases hsrc.2.2 with ⟨_, h0⟩ | ⟨_, _, h0, _⟩
        · omega
        · simp at h0
      | some ad =>
      obtain ⟨ea, _, ca⟩ := hsrc.at (by omega)
      obtain ⟨ab, ao, asp⟩ := ad
      simp only [Addr.mk.injEq, true_and] at ea
      subst ea
      dsimp only at ca
      have cb : wr.cell? ⟨ab, ao + k, none⟩ = some (.bool (b == 1)) := hx.cell (ca k _ (bls_get (by rw [hbe, List.getD_eq_getElem?_getD, List.getElem?_eq_getElem hlt]; rfl)))
      have hab : ab < W.heap.size := World.block_lt_of_cell? _ _ (ca k _ (bls_get (by rw [List.getElem?_eq_getElem hlt])))
      have hab1 : ab ≠ W.heap.size + 1 := by omega
      have hab2 : W.heap.size + 1 ≠ ab := by omega
      have HST1 := Lib.hid (setCell_heap (o := k / 8) (v := .int .u8 (2 * a)) hB)
      have HM1 := Lib.hid ((Mod.refl (· = W.heap.size + 1) wr).setCell (p := ⟨W.heap.size + 1, k / 8, none⟩) (.inl rfl) (.int .u8 (2 * a)))
      have HST2 := Lib.hid (setCell_heap (o := k / 8) (v := .int .u8 (2 * a + 1)) HST1.out)
      have HM2 := Lib.hid (HM1.out.setCell (p := ⟨W.heap.size + 1, k / 8, none⟩) (.inl rfl) (.int .u8 (2 * a + 1)))
      have HXX := Lib.hid hx
      have HAA := Lib.hid hA
      have HQ := Lib.hid hget
      have HHB := Lib.hid hb
      clear hx hA hB hget hae hbe ca hsrc hb
      by_cases hb1 : b = 1
      · subst hb1
        rw [show ((1 : Int) == 1) = true from rfl] at cb
        go_wp2
        go_roundw
        case rel =>
          refine ⟨k + 1, by omega, by go_num, HXX.out.mod HM2.out (fun i hi => by rw [hi]; omega), HM2.out.heap HAA.out (by omega), ?_⟩
          rw [hsucc.out]
          simpa [u8s] using HST2.out
        case measure => simp [intOf]; omega
      · obtain rfl : b = 0 := by have := HHB.out; omega
        rw [show ((0 : Int) == 1) = false from rfl] at cb
        go_wp2
        go_roundw
        case rel =>
          refine ⟨k + 1, by omega, by go_num, HXX.out.mod HM1.out (fun i hi => by rw [hi]; omega), HM1.out.heap HAA.out (by omega), ?_⟩
          rw [hsucc.out]
          simpa [u8s] using HST1.out
        case measure => simp [intOf]; omega
    · obtain rfl : k = L.length := by omega
      have c0 : wr.cell? ⟨W.heap.size, 0, none⟩ = some (.slice oa L.length c) := cell_of hA
      have HXX := Lib.hid hx
      have HBB := Lib.hid hB
      clear hx hA hB
      go_wp2
      go_ret2
      refine ⟨_, rfl, HXX.out, ?_⟩
      have h1 := HBB.out
      have h2 : Io.outL L N L.length = Io.pack L := by rw [HN.out]; exact Io.outL_all L HK.out
      have h3 : (Io.pack L).length = N := by rw [← h2, Io.outL_len]
      rw [h2] at h1
      rw [h3]
      have h4 : (u8s (Io.pack L)).length = N := by simp [u8s, h3]
      exact ⟨by omega, .inr ⟨W.heap.size + 1, N, _, rfl, by omega, h1, Nat.le_refl _, by unfold maxLen; omega, by simp [h4], by simp [← h4]⟩⟩
namespace Io
def byE (L : List Int) : Int := if L.length % 8 = 0 then 0 else 10
def byL (L : List Int) : List Int := if L.length % 8 = 0 then pack L else []
end Io
theorem rBytes_any {W : World} {base : Nat} {oa : Option Addr} {c : Nat} {L : List Int} (ho : W.ownsRow base 4 1 (.slice oa L.length c) L.length (bls L)) (hbits : Io.Bits L) (hL : L.length ≤ 1125899906842624) :
    Calls Try.prog 38 #[.agg #[.slice oa L.length c]] W
      fun e W' => ∃ v, e = .returned (.tuple #[v, .int .i64 (Io.byE L)]) ∧ Ext W W' ∧ W'.ownsRow W.heap.size 5 1 v (Io.byL L).length (u8s (Io.byL L)) := by
  by_cases hk : L.length % 8 = 0
  · rw [show Io.byE L = 0 by unfold Io.byE; rw [if_pos hk], show Io.byL L = Io.pack L by unfold Io.byL; rw [if_pos hk]]
    exact rBytes_ok ho hbits hk hL
  · rw [show Io.byE L = 10 by unfold Io.byE; rw [if_neg hk], show Io.byL L = [] by unfold Io.byL; rw [if_neg hk]]
    exact (rBytes_width hk (by omega)).mono fun e w' ⟨he, hx⟩ => ⟨_, he, hx, World.ownsRow_nil _ _ _ _⟩
theorem bytes_any {w : World} {base p : Nat} {oa : Option Addr} {n c : Nat} {L : List Int} (h : WrtAt w base p oa n c L) (hl : L.length ≤ 1125899906842624) :
    Calls Try.prog 48 #[.pointer (some ⟨p, 0, none⟩)] w
      fun e w' => ∃ v, e = .returned (.tuple #[v, .int .i64 (Io.byE L)]) ∧ Ext w w' ∧ w'.ownsRow w.heap.size 5 1 v (Io.byL L).length (u8s (Io.byL L)) := by
  by_cases hk : L.length % 8 = 0
  · rw [show Io.byE L = 0 by unfold Io.byE; rw [if_pos hk], show Io.byL L = Io.pack L by unfold Io.byL; rw [if_pos hk]]
    exact bytes_ok h hk hl
  · rw [show Io.byE L = 10 by unfold Io.byE; rw [if_neg hk], show Io.byL L = [] by unfold Io.byL; rw [if_neg hk]]
    exact (bytes_width h hk).mono fun e w' ⟨he, hx⟩ => ⟨_, he, hx, World.ownsRow_nil _ _ _ _⟩
end Go.Proofs.Ytonnlcjkgpahoaa
