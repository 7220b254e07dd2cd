/- The laws of layer 2, walked: copies. No condition. -/
import Derived.Test.YtpcoikgbpdedcaaIoL3
namespace Go.Proofs.Ytpcoikgbpdedcaa
open Go.RowKit

theorem WrtAt.mod {S : Nat → Prop} {w w' : World} {base p : Nat} {oa : Option Addr} {n c : Nat} {L : List Int} (h : WrtAt w base p oa n c L) (hm : Mod S w w') (hp : ¬ S p) (hs : ∀ k, (Value.slice oa n c).ownBlock = some k → ¬ S k) : WrtAt w' base p oa n c L :=
  ⟨⟨hm.heap h.raw.blk hp, own_mod h.raw.row hm hs, h.raw.len, h.raw.le⟩, h.bits⟩
theorem own_at {w : World} {base : Nat} {e : TypeId} {g n c : Nat} {xs : List Value} (h : w.ownsRow base e 1 (.slice (some ⟨g, 0, none⟩) n c) n xs) (hn : xs ≠ []) :
    g < w.heap.size ∧ (∀ j u, xs[j]? = some u → w.cell? ⟨g, j, none⟩ = some u) ∧ ∀ j, w.frozen? ⟨g, j, none⟩ = false := by
  obtain ⟨g', c', he, _, h1, _, _, h2, h3⟩ := own_cell h hn
  simp only [Value.slice.injEq, Option.some.injEq, Addr.mk.injEq] at he
  obtain ⟨⟨rfl, _⟩, _, rfl⟩ := he
  exact ⟨h1, h2, h3⟩
theorem set_mod (w : World) (g j : Nat) (u : Value) : Mod (· = g) w (w.setCell ⟨g, j, none⟩ u) := (Mod.refl (· = g) w).setCell (p := ⟨g, j, none⟩) (.inl rfl) u
namespace Io
theorem val8 {l : List Int} (hb : Bytes l) : val l 0 8 = l.getD 0 0 := by
  have hx := hb.get 0
  simp only [val, bit, Nat.zero_add, Nat.reduceDiv, Nat.reduceMod, Nat.reduceSub, Int.reducePow, Nat.zero_div, Nat.zero_mod]
  omega
theorem rd8 {l : List Int} (hb : Bytes l) (h : 1 ≤ l.length) : rdE l 0 8 = 0 ∧ rdV l 0 8 = l.getD 0 0 := by
  have he : rdE l 0 8 = 0 := by unfold rdE; rw [if_pos (by decide), if_neg (by omega)]
  refine ⟨he, ?_⟩
  unfold rdV; rw [if_pos he]; exact val8 hb
theorem wr8 {v : Int} (_h0 : 0 ≤ v) (h1 : v ≤ 255) : wrE v 8 = 0 ∧ wrL [] v 8 = bitsTo v 8 8 := by
  have he : wrE v 8 = 0 := by
    unfold wrE; rw [if_pos (by decide), if_pos]
    unfold Bv.fits
    rw [show Bv.ok 8 = true by decide, Bool.true_and]
    apply decide_eq_true
    show v < 2 ^ 8
    omega
  refine ⟨he, ?_⟩
  unfold wrL; rw [if_pos he]; rfl
theorem pack8 {v : Int} (h0 : 0 ≤ v) (h1 : v ≤ 255) : pack (bitsTo v 8 8) = [v] := by
  have e : ∀ i, i < 8 → (bitsTo v 8 8).getD i 0 = v / 2 ^ (7 - i) % 2 := by
    intro i hi
    rw [List.getD_eq_getElem?_getD, List.getElem?_eq_getElem (by rw [bitsTo_len]; exact hi)]; simp [bitsTo]
  unfold pack
  rw [bitsTo_len]
  show [byteOf (bitsTo v 8 8) 0] = [v]
  congr 1
  unfold byteOf
  rw [e _ (by omega), e _ (by omega), e _ (by omega), e _ (by omega), e _ (by omega), e _ (by omega), e _ (by omega), e _ (by omega)]
  simp only [Nat.mul_zero, Nat.zero_add, Nat.reduceSub, Int.reducePow, Nat.sub_zero]
  omega
end Io

set_option maxRecDepth 8000 in
set_option maxHeartbeats 400000 in
theorem bitioCopies_walk (a0 : Option Addr) (n0 c0 : Nat) (z0 : List Int) (v : Int) (W : World) (r0 : IsRow .u8 W a0 n0 c0 z0) (wv : (Lit.int .u8 v).wf = true) :
    Calls Try.prog 13 #[.slice a0 n0 c0, .int .u8 v] W (Rets W (.bool true)) := by
  obtain ⟨l, rfl, hl, sl, bl⟩ := row_take r0
  clear r0
  have hby : Io.Bytes l := fun x hx => wf_u8 (bl x hx)
  obtain ⟨hv0, hv1⟩ := wf_u8 wv
  unfold maxLen at hl
  clear bl wv
  have SL := Lib.hid sl
  have HBY := Lib.hid hby
  clear sl hby
  by_cases hsm : 1 ≤ l.length ∧ l.length ≤ 200
  · obtain ⟨h1, h2⟩ := hsm
    have hne : u8s l ≠ [] := by intro e; have := congrArg List.length e; simp [u8s] at this; rw [this] at h1; simp at h1
    have HNE := Lib.hid hne
    clear hne
    have oz : (W.alloc (.cells #[] 5)).ownsRow W.heap.size 5 1 (.slice (some ⟨W.heap.size, 0, none⟩) 0 0) 0 [] :=
      ⟨rfl, .inr ⟨_, 0, #[], rfl, Nat.le_refl _, alloc_heap _ _, Nat.le_refl _, Nat.zero_le _, rfl, rfl⟩⟩
    have OZ := Lib.hid oz
    have SA := Lib.hid (SL.out.ext ((Ext.refl W).alloc (.cells #[] 5)))
    clear oz
    go_enter Try.func13, Try.ntmps13
    go_wp2_with (at_builtin; refine wpList_append_src rfl (.tmp 26) (.tmp 27) 45 rfl W.heap.size 5 (.int .u8 0) 1 1 Try.underlying45 info_u8 rfl (by decide) _ 0 [] rfl OZ.out _ l.length (u8s l) rfl SA.out ?c1 ?c2 ?c3 ?_)
    case c1 => unfold maxLen; omega
    case c2 => omega
    case c3 => simp
    intro v1 w1 o1 g1 _
    have e1 := (((Ext.refl W).alloc (.cells #[] 5))).mod (grown_mod g1) (fun q hq => by simp [Value.ownBlock] at hq; omega)
    obtain ⟨g, cc, rfl, hg1, hg2, _, _, hcell, hfree⟩ := own_cell o1 HNE.out
    have E1 := Lib.hid e1
    have O1 := Lib.hid o1
    clear e1 o1 g1 hcell hfree
    obtain ⟨x, hx⟩ : ∃ x, x = l.getD 0 0 := ⟨_, rfl⟩
    have hx0 : (u8s l)[0]? = some (.int .u8 x) := by rw [u8s_get l 0 (by omega), hx]
    have hxb := HBY.out.get 0
    rw [← hx] at hxb
    have HX := Lib.hid hx
    have HX0 := Lib.hid hx0
    clear hx hx0
    go_wp2_with fail
    refine (newReader_any _ l _ (own_src O1.out (u8s_one _)) HBY.out (by omega)).mono ?_
    rintro e w2 ⟨p, ra, rn, rc, rfl, x2, r2⟩
    go_wp2_with fail
    refine (newWriter_any _).mono ?_
    rintro e w3 ⟨q, rfl, x3, k3⟩
    have l1 := E1.out.le
    have l2 := x2.le
    have l3 := x3.le
    have lp := r2.le
    have lp2 := lt_of_block r2.blk
    have lq := k3.raw.le
    have r3 := r2.ext x3
    have e3 := (E1.out.trans x2).trans x3
    obtain ⟨_, hc3, hf3⟩ := own_at (own_ext O1.out (x2.trans x3)) HNE.out
    have c3 := hc3 0 _ HX0.out
    have f3 := hf3 0
    have e4 : ∀ u, Ext W (w3.setCell ⟨g, 0, none⟩ u) := fun u => e3.mod (set_mod w3 g 0 u) (fun i hi => by rw [hi]; exact hg1)
    have r4 : ∀ u, RdrAt (w3.setCell ⟨g, 0, none⟩ u) w1.heap.size p ra rn rc l 0 := fun u => r3.mod (set_mod w3 g 0 u) (by omega) (fun i hi e => by
      have := (r3.row.lt i hi).1
      omega)
    have k4 : ∀ u, WrtAt (w3.setCell ⟨g, 0, none⟩ u) w2.heap.size q none 0 0 [] := fun u => k3.mod (set_mod w3 g 0 u) (by omega) (fun i hi => by simp [Value.ownBlock] at hi)
    have E4 := Lib.hid e4
    have R4 := Lib.hid r4
    have K4 := Lib.hid k4
    clear x2 r2 x3 k3 r3 e3 hc3 hf3 e4 r4 k4 O1 E1
    go_wp2_with fail
    refine (rest_ok (R4.out _) rfl (by omega)).mono ?_
    rintro e w5 ⟨v5, rfl, x5, o5⟩
    clear c3 f3
    rw [Nat.zero_div, List.drop_zero] at o5
    obtain ⟨g5, cc5, rfl, hg5, _, _, _, hc5, hf5⟩ := own_cell o5 HNE.out
    have c5 := hc5 0 _ HX0.out
    have f5 := hf5 0
    have e5 := (E4.out _).trans x5
    have s1 := src_str (own_src o5 (u8s_one _))
    have s2 := src_str (SL.out.ext e5)
    have y6 := fun u => x5.mod (set_mod w5 g5 0 u) (fun i hi => by rw [hi]; exact hg5)
    have R6 := Lib.hid (fun u => (R4.out _).ext (y6 u))
    have K6 := Lib.hid (fun u => (K4.out _).ext (y6 u))
    have E6 := Lib.hid (fun u => (E4.out _).trans (y6 u))
    clear x5 o5 hg5 hc5 hf5 e5 y6 R4 K4 E4
    go_wp2_with fail
    clear s1 s2 c5 f5
    obtain ⟨rd1, rd2⟩ := Io.rd8 HBY.out h1
    refine (readBits_any (R6.out _) _).mono ?_
    rintro e w7 ⟨rfl, m7, r7⟩
    rw [rd1, rd2, ← HX.out]
    have K7 := Lib.hid ((K6.out _).mod m7 (by omega) (fun i hi => by simp [Value.ownBlock] at hi))
    have E7 := Lib.hid ((E6.out _).mod m7 (fun i hi => by rw [hi]; omega))
    clear rd1 rd2 m7 r7 R6 K6 E6
    go_wp2_with fail
    obtain ⟨wr1, wr2⟩ := Io.wr8 hv0 hv1
    refine (writeBits_any K7.out v _ hv0 (by decide)).mono ?_
    rintro e w8 ⟨rfl, qa, qn, qc, m8, k8, _⟩
    rw [wr1]
    rw [wr2] at k8
    have K8 := Lib.hid k8
    have E8 := Lib.hid (E7.out.mod m8 (fun i hi => Nat.le_trans (by omega) (K7.out.foot i hi)))
    clear wr1 wr2 k8 m8 K7 E7
    go_wp2_with fail
    refine (bytes_ok K8.out (by rw [Io.bitsTo_len]) (by rw [Io.bitsTo_len]; decide)).mono ?_
    rintro e w9 ⟨v9, rfl, x9, o9⟩
    rw [Io.pack8 hv0 hv1] at o9
    obtain ⟨g9, cc9, hv9, hg9, _, _, _, hc9, hf9⟩ := own_cell o9 (by simp [u8s])
    change v9 = .slice (some ⟨g9, 0, none⟩) 1 cc9 at hv9
    subst hv9
    have c9 : w9.cell? ⟨g9, 0, none⟩ = some (.int .u8 v) := hc9 0 _ rfl
    have f9 := hf9 0
    have y10 := fun u => x9.mod (set_mod w9 g9 0 u) (fun i hi => by rw [hi]; exact hg9)
    have K10 := Lib.hid (fun u => K8.out.ext (y10 u))
    have E10 := Lib.hid (fun u => E8.out.trans (y10 u))
    clear x9 o9 hg9 hc9 hf9 y10 K8 E8
    go_wp2_with fail
    clear c9 f9
    refine (bytes_ok (K10.out _) (by rw [Io.bitsTo_len]) (by rw [Io.bitsTo_len]; decide)).mono ?_
    rintro e w11 ⟨v11, rfl, x11, o11⟩
    rw [Io.pack8 hv0 hv1] at o11
    obtain ⟨g11, cc11, hv11, hg11, _, _, _, hc11, hf11⟩ := own_cell o11 (by simp [u8s])
    change v11 = .slice (some ⟨g11, 0, none⟩) 1 cc11 at hv11
    subst hv11
    have c11 : w11.cell? ⟨g11, 0, none⟩ = some (.int .u8 v) := hc11 0 _ rfl
    have E11 := Lib.hid ((E10.out _).trans x11)
    cases a0 with
    | none =>
      rcases SL.out.2.2 with ⟨_, h0⟩ | ⟨_, _, h0, _⟩
      · omega
      · simp at h0
    | some ad =>
    obtain ⟨ea, _, ca⟩ := SL.out.at (by omega)
    obtain ⟨ab, ao, asp⟩ := ad
    simp only [Addr.mk.injEq, true_and] at ea
    subst ea
    dsimp only at ca
    have a1 : w11.cell? ⟨ab, ao, none⟩ = some (.int .u8 x) := E11.out.cell (ca 0 _ HX0.out)
    clear x11 o11 hg11 hc11 hf11 K10 E10 ca
    go_wp2_with (go_at_call 41; refine (works_any _).mono ?_; rintro e w12 ⟨rfl, hy⟩)
    go_ret
    exact ⟨rfl, E11.out.trans hy⟩
  · go_enter Try.func13, Try.ntmps13
    by_cases h1 : 1 ≤ l.length
    · have h2 : 200 < l.length := by omega
      go_wp2_with (go_at_call 41; refine (works_any _).mono ?_; rintro e w1 ⟨rfl, hy⟩)
      go_ret
      exact ⟨rfl, hy⟩
    · have h2 : l.length < 1 := by omega
      go_wp2_with (go_at_call 41; refine (works_any _).mono ?_; rintro e w1 ⟨rfl, hy⟩)
      go_ret
      exact ⟨rfl, hy⟩
end Go.Proofs.Ytpcoikgbpdedcaa
