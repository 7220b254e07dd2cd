/- Pack and Unpack, walked. No condition. -/
import Derived.Test.YtonnlcjkgpahoaaIoA
namespace Go.Proofs.Ytonnlcjkgpahoaa
open Go.RowKit

namespace Io
def comb (acc : List Int) (r : Int × List Int × Nat) : Int × List Int × Nat := if r.1 = 0 then (0, acc ++ r.2.1, r.2.2) else (r.1, [], 0)
theorem comb_nil (l ws : List Int) (pos : Nat) : comb [] (getAll l ws pos) = getAll l ws pos := by
  unfold comb
  have : (getAll l ws pos).1 ≠ 0 → getAll l ws pos = ((getAll l ws pos).1, [], 0) := by
    cases ws with
    | nil => intro h; exact absurd rfl h
    | cons w ws =>
      intro h
      unfold getAll at h ⊢
      dsimp only at h ⊢
      split
      · rename_i h0
        simp only [h0, if_true] at h
        split
        · rename_i h1; rw [if_pos h1] at h; exact absurd rfl h
        · rfl
      · rfl
  split
  · rename_i h; rw [List.nil_append]
    conv => rhs; rw [← Prod.eta (getAll l ws pos)]
    rw [h]
  · rename_i h; exact (this h).symm
theorem comb_step {l : List Int} {pos : Nat} {w : Int} (ws acc : List Int) (h : rdE l pos w = 0) : comb acc (getAll l (w :: ws) pos) = comb (acc ++ [rdV l pos w]) (getAll l ws (rdP l pos w)) := by
  conv => lhs; unfold getAll
  rw [if_pos h]
  unfold comb
  by_cases h1 : (getAll l ws (rdP l pos w)).1 = 0
  · simp [h1]
  · simp [h1]
theorem comb_fail {l : List Int} {pos : Nat} {w : Int} (ws acc : List Int) (h : rdE l pos w ≠ 0) : comb acc (getAll l (w :: ws) pos) = (rdE l pos w, [], 0) := by
  unfold getAll comb
  rw [if_neg h]; simp [h]
end Io

def u32s (l : List Int) : List Value := l.map (.int .u32)
def i64s (l : List Int) : List Value := l.map (.int .i64)
theorem u32s_get {l : List Int} {j : Nat} {x : Int} (h : l[j]? = some x) : (u32s l)[j]? = some (.int .u32 x) := by simp [u32s, h]
theorem i64s_get {l : List Int} {j : Nat} {x : Int} (h : l[j]? = some x) : (i64s l)[j]? = some (.int .i64 x) := by simp [i64s, h]
theorem drop_cons {α : Type} {l : List α} {k : Nat} {x : α} (h : l[k]? = some x) : l.drop k = x :: l.drop (k + 1) := by
  obtain ⟨hk, rfl⟩ := List.getElem?_eq_some_iff.1 h
  exact List.drop_eq_getElem_cons hk
theorem WrtAt.foot {w : World} {base p : Nat} {oa : Option Addr} {n c : Nat} {L : List Int} (h : WrtAt w base p oa n c L) (q : Nat) (hq : WS p oa n c q) : base ≤ q := by
  rcases hq with hq | hq
  · rw [hq]; exact h.raw.le
  · exact (h.raw.row.lt q hq.symm).1
theorem Ext.mod {S : Nat → Prop} {a b c : World} (h : Ext a b) (k : Mod S b c) (hs : ∀ q, S q → a.heap.size ≤ q) : Ext a c :=
  ⟨k.os.trans h.os, k.tape.trans h.tape, k.output.trans h.output, Nat.le_trans h.size k.size,
    fun i hi => (k.block i (Nat.lt_of_lt_of_le hi h.size) (fun hS => by have := hs i hS; omega)).trans (h.block i hi)⟩

theorem info_u32 : (Try.prog.info? 64).map (fun i => (i.zero, i.size, i.bytes)) = some (some (.int .u32 0), 1, 4) := by kernel_rfl
theorem u32s_one (l : List Int) : ∀ u ∈ u32s l, u.oneCell' = true := by
  intro u hu; obtain ⟨x, _, rfl⟩ := List.mem_map.1 hu; rfl
theorem own_type {w : World} {base : Nat} {e : TypeId} {size : Nat} {v : Value} {n : Nat} {xs : List Value} (h : w.ownsRow base e size v n xs) {g : Nat} (hg : v.ownBlock = some g) : ∃ cur, w.heap[g]? = some (.cells cur e (0, 0)) := by
  rcases h.2 with ⟨rfl, _⟩ | ⟨g', cap, cur, rfl, _, hh, _⟩
  · simp [Value.ownBlock] at hg
  · simp [Value.ownBlock] at hg; subst hg; exact ⟨cur, hh⟩
theorem RdrAt.mod {S : Nat → Prop} {w w' : World} {base p : Nat} {oa : Option Addr} {n c : Nat} {l : List Int} {pos : Nat} (h : RdrAt w base p oa n c l pos) (hm : Mod S w w') (hp : ¬ S p) (hs : ∀ k, (Value.slice oa n c).ownBlock = some k → ¬ S k) : RdrAt w' base p oa n c l pos :=
  ⟨hm.heap h.blk hp, own_mod h.row hm hs, h.len, h.le, h.bytes, h.small, h.pos_le⟩
/-- a row of other elements than bytes grows: the reader stays as it is -/
theorem RdrAt.beside {w w' : World} {base b' p : Nat} {oa : Option Addr} {n c : Nat} {l : List Int} {pos : Nat} {e : TypeId} {size m : Nat} {v : Value} {xs : List Value} (h : RdrAt w base p oa n c l pos)
    (hr : w.ownsRow b' e size v m xs) (h1 : e ≠ 5) (h2 : e ≠ 103) (hg : w.grownBy w' v.ownBlock) : RdrAt w' base p oa n c l pos := by
  refine h.mod (grown_mod hg) (fun e1 => ?_) (fun k hk e1 => ?_)
  · obtain ⟨cur, hc⟩ := own_type hr e1.symm
    exact ne_of_type hc h.blk h2 rfl
  · obtain ⟨cur, hc⟩ := own_type hr e1.symm
    obtain ⟨cur2, hc2⟩ := own_type h.row hk
    exact ne_of_type hc hc2 h1 rfl

set_option maxHeartbeats 400000 in
theorem pack_any (va vb : Value) (vs ns : List Int) (W : World) (ha : Src W va 1 vs.length (u32s vs)) (hb : Src W vb 1 ns.length (i64s ns)) (hvs : ∀ x ∈ vs, 0 ≤ x) (hl : vs.length ≤ 1000000) :
    Calls Try.prog 70 #[va, vb] W
      fun e w' => ∃ v, e = .returned (.tuple #[v, .int .i64 (Io.packE vs ns)]) ∧ Ext W w' ∧ w'.ownsRow W.heap.size 5 1 v (Io.packB vs ns).length (u8s (Io.packB vs ns)) := by
  obtain ⟨oa, ca, rfl, hna⟩ := ha.slice
  obtain ⟨ob, cb, rfl, hnb⟩ := hb.slice
  have HA := Lib.hid ha
  have HB := Lib.hid hb
  have HV := Lib.hid hvs
  have HNA := Lib.hid hna
  have HNB := Lib.hid hnb
  clear ha hb hvs hna hnb
  by_cases hlen : vs.length = ns.length
  · have hne : ((vs.length : Int) != ns.length) = false := by simp; omega
    have hns : ns.length ≤ 1000000 := by omega
    have HL := Lib.hid hlen
    clear hlen
    go_enter Try.func70, Try.ntmps70
    go_wp2_with (go_at_call 45; refine (newWriter_any _).mono ?_; rintro e w1 ⟨p, rfl, hx, hw⟩)
    go_loopw [7, 18] (fun e i wr => ∃ k oa' n' c' L, k ≤ vs.length ∧ e = .int .i64 0 ∧ i = .int .i64 (k : Nat) ∧ Ext W wr ∧ WrtAt wr W.heap.size p oa' n' c' L ∧ L.length ≤ 32 * k ∧ Io.putAll (vs.drop k) (ns.drop k) L = Io.putAll vs ns []) (fun _ i _ => vs.length - (intOf i).toNat)
    case atStart => exact ⟨0, none, 0, 0, [], Nat.zero_le _, rfl, rfl, hx, hw, Nat.zero_le _, by simp⟩
    case round =>
      obtain ⟨k, oa1, n1, c1, L, hk, rfl, rfl, hx1, hw1, hLl, hput⟩ := hrel
      clear hx hw
      by_cases hlt : k < vs.length
      · obtain ⟨x, hxk⟩ : ∃ x, vs[k]? = some x := ⟨_, List.getElem?_eq_getElem hlt⟩
        obtain ⟨y, hyk⟩ : ∃ y, ns[k]? = some y := ⟨_, List.getElem?_eq_getElem (by rw [← HL.out]; exact hlt)⟩
        have hx0 : 0 ≤ x := HV.out x (List.mem_of_getElem? hxk)
        cases oa with
        | none => have := HNA.out rfl; omega
        | some ad =>
        cases ob with
        | none => have := HNB.out rfl; have := HL.out; omega
        | some bd =>
        obtain ⟨ea, _, ca'⟩ := HA.out.at (by omega)
        obtain ⟨eb, _, cb'⟩ := HB.out.at (by rw [← HL.out]; omega)
        obtain ⟨ab, ao, asp⟩ := ad
        obtain ⟨bb, bo, bsp⟩ := bd
        simp only [Addr.mk.injEq, true_and] at ea eb
        subst ea; subst eb
        dsimp only at ca' cb'
        have f1 := hx1.cell (ca' k _ (u32s_get hxk))
        have f2 := hx1.cell (cb' k _ (i64s_get hyk))
        have hkn : k < ns.length := by rw [← HL.out]; exact hlt
        rw [drop_cons hxk, drop_cons hyk, Io.putAll] at hput
        have HW1 := Lib.hid hw1
        have HX1 := Lib.hid hx1
        have HP := Lib.hid hput
        clear hxk hyk ca' cb' hput hw1 hx1
        by_cases he : Io.wrE x y = 0
        · go_wp2_with (first
            | (go_at_call 72; refine (writeBits_any HW1.out _ _ hx0 (by omega)).mono ?_; rintro e w2 ⟨rfl, oa2, n2, c2, hm2, hw2, hi2⟩)
            | (go_at_call 99; refine (first_two _ 0 _ (by simp) (by simp)).mono ?_; rintro e w3 ⟨rfl, rfl⟩))
          have hx2 := HX1.out.mod hm2 HW1.out.foot
          have hx3 := hx2.alloc (.cells #[.int .i64 0, .int .i64 0] 40)
          have hp := HP.out
          rw [if_pos he] at hp
          have hll := Io.wrL_len L x y
          go_roundw
          case rel => exact ⟨k + 1, oa2, n2, c2, _, by omega, rfl, by go_num, hx2.alloc _, hw2.ext ((Ext.refl _).alloc _), by omega, hp⟩
          case measure => simp [intOf]; omega
        · have he2 : (Io.wrE x y != 0) = true := by simpa using he
          have HE := Lib.hid he
          clear he
          go_wp2_with (first
            | (go_at_call 72; refine (writeBits_any HW1.out _ _ hx0 (by omega)).mono ?_; rintro e w2 ⟨rfl, oa2, n2, c2, hm2, hw2, hi2⟩)
            | (go_at_call 99; refine (first_two _ (Io.wrE x y) _ (by simp) (by simp)).mono ?_; rintro e w3 ⟨rfl, rfl⟩))
          have hx2 := HX1.out.mod hm2 HW1.out.foot
          have hp := HP.out
          rw [if_neg HE.out] at hp
          have e1 : Io.packE vs ns = Io.wrE x y := by unfold Io.packE; rw [if_pos HL.out, ← hp]; simp [HE.out]
          have e2 : Io.packB vs ns = [] := by unfold Io.packB; rw [e1, if_neg HE.out]
          go_ret2
          exact ⟨_, by rw [e1]; rfl, hx2.alloc _, by rw [e2]; exact World.ownsRow_nil _ _ _ _⟩
      · obtain rfl : k = vs.length := by omega
        have hd1 : vs.drop vs.length = [] := List.drop_length
        have hd2 : ns.drop vs.length = [] := by rw [HL.out]; exact List.drop_length
        rw [hd1, hd2] at hput
        have hput2 : Io.putAll vs ns [] = (0, L) := by rw [← hput]; rfl
        have HP := Lib.hid hput2
        have HW1 := Lib.hid hw1
        clear hd1 hd2 hput hput2 hw1
        by_cases h8 : L.length % 8 = 0
        · have e1 : Io.packE vs ns = 0 := by unfold Io.packE; rw [if_pos HL.out, HP.out]; simp [h8]
          have e2 : Io.packB vs ns = Io.pack L := by unfold Io.packB; rw [e1, HP.out]; rfl
          have H8 := Lib.hid h8
          have HE1 := Lib.hid e1
          have HE2 := Lib.hid e2
          clear h8 e1 e2
          go_wp2_with (go_at_call 48; refine (bytes_ok HW1.out H8.out (by omega)).mono ?_; rintro e w2 ⟨v, rfl, hx2, hown⟩)
          go_ret2
          exact ⟨_, by rw [HE1.out]; rfl, hx1.trans hx2, by rw [HE2.out]; exact own_base hown hx1.le⟩
        · have e1 : Io.packE vs ns = 10 := by unfold Io.packE; rw [if_pos HL.out, HP.out]; simp [h8]
          have e2 : Io.packB vs ns = [] := by unfold Io.packB; rw [e1]; rfl
          have H8 := Lib.hid h8
          have HE1 := Lib.hid e1
          have HE2 := Lib.hid e2
          clear h8 e1 e2
          go_wp2_with (go_at_call 48; refine (bytes_width HW1.out H8.out).mono ?_; rintro e w2 ⟨rfl, hx2⟩)
          go_ret2
          exact ⟨_, by rw [HE1.out]; rfl, hx1.trans hx2, by rw [HE2.out]; exact World.ownsRow_nil _ _ _ _⟩
  · have hne : ((vs.length : Int) != ns.length) = true := by simp; omega
    have e1 : Io.packE vs ns = 2 := by unfold Io.packE; rw [if_neg hlen]
    have e2 : Io.packB vs ns = [] := by unfold Io.packB; rw [e1]; rfl
    have HE1 := Lib.hid e1
    have HE2 := Lib.hid e2
    clear e1 e2 hlen
    go_enter Try.func70, Try.ntmps70
    go_wp2
    go_ret2
    exact ⟨_, by rw [HE1.out]; rfl, Ext.refl _, by rw [HE2.out]; exact World.ownsRow_nil _ _ _ _⟩

end Go.Proofs.Ytonnlcjkgpahoaa
