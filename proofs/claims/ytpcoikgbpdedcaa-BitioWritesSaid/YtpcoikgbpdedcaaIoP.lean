/- Pack and Unpack, walked. No condition. -/
import Derived.Test.YtpcoikgbpdedcaaIoA
namespace Go.Proofs.Ytpcoikgbpdedcaa
open Go.RowKit

namespace Io
def comb (acc : List Int) (r : Int × List Int × Nat) : Int × List Int × Nat := if r.1 = 0 then (0, acc ++ r.2.1, r.2.2) else (r.1, [], 0)
theorem comb_nil (l ws : List Int) (pos : Nat) : comb [] (getAll l ws pos) = getAll l ws pos := by
  unfold comb
  have : (getAll l ws pos).1 ≠ 0 → getAll l ws pos = ((getAll l ws pos).1, [], 0) := by
    cases ws with
    | nil => intro h; exact absurd rfl h
    | cons w ws =>
      intro h
      unfold getAll at h ⊢
      dsimp only at h ⊢
      split
      · rename_i h0
        simp only [h0, if_true] at h
        split
        · rename_i h1; rw [if_pos h1] at h; exact absurd rfl h
        · rfl
      · rfl
  split
  · rename_i h; rw [List.nil_append]
    conv => rhs; rw [← Prod.eta (getAll l ws pos)]
    rw [h]
  · rename_i h; exact (this h).symm
theorem comb_step {l : List Int} {pos : Nat} {w : Int} (ws acc : List Int) (h : rdE l pos w = 0) : comb acc (getAll l (w :: ws) pos) = comb (acc ++ [rdV l pos w]) (getAll l ws (rdP l pos w)) := by
  conv => lhs; unfold getAll
  rw [if_pos h]
  unfold comb
  by_cases h1 : (getAll l ws (rdP l pos w)).1 = 0
  · simp [h1]
  · simp [h1]
theorem comb_fail {l : List Int} {pos : Nat} {w : Int} (ws acc : List Int) (h : rdE l pos w ≠ 0) : comb acc (getAll l (w :: ws) pos) = (rdE l pos w, [], 0) := by
  unfold getAll comb
  rw [if_neg h]; simp [h]
end Io

def u32s (l : List Int) : List Value := l.map (.int .u32)
def i64s (l : List Int) : List Value := l.map (.int .i64)
theorem u32s_get {l : List Int} {j : Nat} {x : Int} (h : l[j]? = some x) : (u32s l)[j]? = some (.int .u32 x) := by simp [u32s, h]
theorem i64s_get {l : List Int} {j : Nat} {x : Int} (h : l[j]? = some x) : (i64s l)[j]? = some (.int .i64 x) := by simp [i64s, h]
theorem drop_cons {α : Type} {l : List α} {k : Nat} {x : α} (h : l[k]? = some x) : l.drop k = x :: l.drop (k + 1) := by
  obtain ⟨hk, rfl⟩ := List.getElem?_eq_some_iff.1 h
  exact List.drop_eq_getElem_cons hk
theorem WrtAt.foot {w : World} {base p : Nat} {oa : Option Addr} {n c : Nat} {L : List Int} (h : WrtAt w base p oa n c L) (q : Nat) (hq : WS p oa n c q) : base ≤ q := by
  rcases hq with hq | hq
  · rw [hq]; exact h.raw.le
  · exact (h.raw.row.lt q hq.symm).1
theorem Ext.mod {S : Nat → Prop} {a b c : World} (h : Ext a b) (k : Mod S b c) (hs : ∀ q, S q → a.heap.size ≤ q) : Ext a c :=
  ⟨k.os.trans h.os, k.tape.trans h.tape, k.output.trans h.output, Nat.le_trans h.size k.size,
    fun i hi => (k.block i (Nat.lt_of_lt_of_le hi h.size) (fun hS => by have := hs i hS; omega)).trans (h.block i hi)⟩

theorem info_u32 : (Try.prog.info? 22).map (fun i => (i.zero, i.size, i.bytes)) = some (some (.int .u32 0), 1, 4) := by kernel_rfl
theorem u32s_one (l : List Int) : ∀ u ∈ u32s l, u.oneCell' = true := by
  intro u hu; obtain ⟨x, _, rfl⟩ := List.mem_map.1 hu; rfl
theorem own_type {w : World} {base : Nat} {e : TypeId} {size : Nat} {v : Value} {n : Nat} {xs : List Value} (h : w.ownsRow base e size v n xs) {g : Nat} (hg : v.ownBlock = some g) : ∃ cur, w.heap[g]? = some (.cells cur e (0, 0)) := by
  rcases h.2 with ⟨rfl, _⟩ | ⟨g', cap, cur, rfl, _, hh, _⟩
  · simp [Value.ownBlock] at hg
  · simp [Value.ownBlock] at hg; subst hg; exact ⟨cur, hh⟩
theorem RdrAt.mod {S : Nat → Prop} {w w' : World} {base p : Nat} {oa : Option Addr} {n c : Nat} {l : List Int} {pos : Nat} (h : RdrAt w base p oa n c l pos) (hm : Mod S w w') (hp : ¬ S p) (hs : ∀ k, (Value.slice oa n c).ownBlock = some k → ¬ S k) : RdrAt w' base p oa n c l pos :=
  ⟨hm.heap h.blk hp, own_mod h.row hm hs, h.len, h.le, h.bytes, h.small, h.pos_le⟩
/-- a row of other elements than bytes grows: the reader stays as it is -/
theorem RdrAt.beside {w w' : World} {base b' p : Nat} {oa : Option Addr} {n c : Nat} {l : List Int} {pos : Nat} {e : TypeId} {size m : Nat} {v : Value} {xs : List Value} (h : RdrAt w base p oa n c l pos)
    (hr : w.ownsRow b' e size v m xs) (h1 : e ≠ 5) (h2 : e ≠ 87) (hg : w.grownBy w' v.ownBlock) : RdrAt w' base p oa n c l pos := by
  refine h.mod (grown_mod hg) (fun e1 => ?_) (fun k hk e1 => ?_)
  · obtain ⟨cur, hc⟩ := own_type hr e1.symm
    exact ne_of_type hc h.blk h2 rfl
  · obtain ⟨cur, hc⟩ := own_type hr e1.symm
    obtain ⟨cur2, hc2⟩ := own_type h.row hk
    exact ne_of_type hc hc2 h1 rfl

set_option maxHeartbeats 400000 in
theorem pack_any (va vb : Value) (vs ns : List Int) (W : World) (ha : Src W va 1 vs.length (u32s vs)) (hb : Src W vb 1 ns.length (i64s ns)) (hvs : ∀ x ∈ vs, 0 ≤ x) (hl : vs.length ≤ 1000000) :
    Calls Try.prog 42 #[va, vb] W
      fun e w' => ∃ v, e = .returned (.tuple #[v, .int .i64 (Io.packE vs ns)]) ∧ Ext W w' ∧ w'.ownsRow W.heap.size 5 1 v (Io.packB vs ns).length (u8s (Io.packB vs ns)) := by
  obtain ⟨oa, ca, rfl, hna⟩ := ha.slice
  obtain ⟨ob, cb, rfl, hnb⟩ := hb.slice
  have HA := Lib.hid ha
  have HB := Lib.hid hb
  have HV := Lib.hid hvs
  have HNA := Lib.hid hna
  have HNB := Lib.hid hnb
  clear ha hb hvs hna hnb
  by_cases hlen : vs.length = ns.length
  · have hne : ((vs.length : Int) != ns.length) = false := by simp; omega
    have hns : ns.length ≤ 1000000 := by omega
    have HL := Lib.hid hlen
    clear hlen
    go_enter Try.func42, Try.ntmps42
    go_wp2_with (go_at_call 48; refine (newWriter_any _).mono ?_; rintro e w1 ⟨p, rfl, hx, hw⟩)
    go_loopw [7, 18] (fun e i wr => ∃ k oa' n' c' L, k ≤ vs.length ∧ e = .int .i64 0 ∧ i = .int .i64 (k : Nat) ∧ Ext W wr ∧ WrtAt wr W.heap.size p oa' n' c' L ∧ L.length ≤ 32 * k ∧ Io.putAll (vs.drop k) (ns.drop k) L = Io.putAll vs ns []) (fun _ i _ => vs.length - (intOf i).toNat)
    case atStart => exact ⟨0, none, 0, 0, [], Nat.zero_le _, rfl, rfl, hx, hw, Nat.zero_le _, by simp⟩
    case round =>
      obtain ⟨k, oa1, n1, c1, L, hk, rfl, rfl, hx1, hw1, hLl, hput⟩ := hrel
      clear hx hw
      by_cases hlt : k < vs.length
      · obtain ⟨x, hxk⟩ : ∃ x, vs[k]? = some x := ⟨_, List.getElem?_eq_getElem hlt⟩
        obtain ⟨y, hyk⟩ : ∃ y, ns[k]? = some y := ⟨_, List.getElem?_eq_getElem (by rw [← HL.out]; exact hlt)⟩
        have hx0 : 0 ≤ x := HV.out x (List.mem_of_getElem? hxk)
        cases oa with
        | none => have := HNA.out rfl; omega
        | some ad =>
        cases ob with
        | none => have := HNB.out rfl; have := HL.out; omega
        | some bd =>
        obtain ⟨ea, _, ca'⟩ := HA.out.at (by omega)
        obtain ⟨eb, _, cb'⟩ := HB.out.at (by rw [← HL.out]; omega)
        obtain ⟨ab, ao, asp⟩ := ad
        obtain ⟨bb, bo, bsp⟩ := bd
        simp only [Addr.mk.injEq, true_and] at ea eb
        subst ea; subst eb
        dsimp only at ca' cb'
        have f1 := hx1.cell (ca' k _ (u32s_get hxk))
        have f2 := hx1.cell (cb' k _ (i64s_get hyk))
        have hkn : k < ns.length := by rw [← HL.out]; exact hlt
        rw [drop_cons hxk, drop_cons hyk, Io.putAll] at hput
        have HW1 := Lib.hid hw1
        have HX1 := Lib.hid hx1
        have HP := Lib.hid hput
        clear hxk hyk ca' cb' hput hw1 hx1
        by_cases he : Io.wrE x y = 0
        · go_wp2_with (first
            | (go_at_call 50; refine (writeBits_any HW1.out _ _ hx0 (by omega)).mono ?_; rintro e w2 ⟨rfl, oa2, n2, c2, hm2, hw2, hi2⟩)
            | (go_at_call 68; refine (first_two _ 0 _ (by simp) (by simp)).mono ?_; rintro e w3 ⟨rfl, rfl⟩))
          have hx2 := HX1.out.mod hm2 HW1.out.foot
          have hx3 := hx2.alloc (.cells #[.int .i64 0, .int .i64 0] 47)
          have hp := HP.out
          rw [if_pos he] at hp
          have hll := Io.wrL_len L x y
          go_roundw
          case rel => exact ⟨k + 1, oa2, n2, c2, _, by omega, rfl, by go_num, hx2.alloc _, hw2.ext ((Ext.refl _).alloc _), by omega, hp⟩
          case measure => simp [intOf]; omega
        · have he2 : (Io.wrE x y != 0) = true := by simpa using he
          have HE := Lib.hid he
          clear he
          go_wp2_with (first
            | (go_at_call 50; refine (writeBits_any HW1.out _ _ hx0 (by omega)).mono ?_; rintro e w2 ⟨rfl, oa2, n2, c2, hm2, hw2, hi2⟩)
            | (go_at_call 68; refine (first_two _ (Io.wrE x y) _ (by simp) (by simp)).mono ?_; rintro e w3 ⟨rfl, rfl⟩))
          have hx2 := HX1.out.mod hm2 HW1.out.foot
          have hp := HP.out
          rw [if_neg HE.out] at hp
          have e1 : Io.packE vs ns = Io.wrE x y := by unfold Io.packE; rw [if_pos HL.out, ← hp]; simp [HE.out]
          have e2 : Io.packB vs ns = [] := by unfold Io.packB; rw [e1, if_neg HE.out]
          go_ret2
          exact ⟨_, by rw [e1]; rfl, hx2.alloc _, by rw [e2]; exact World.ownsRow_nil _ _ _ _⟩
      · obtain rfl : k = vs.length := by omega
        have hd1 : vs.drop vs.length = [] := List.drop_length
        have hd2 : ns.drop vs.length = [] := by rw [HL.out]; exact List.drop_length
        rw [hd1, hd2] at hput
        have hput2 : Io.putAll vs ns [] = (0, L) := by rw [← hput]; rfl
        have HP := Lib.hid hput2
        have HW1 := Lib.hid hw1
        clear hd1 hd2 hput hput2 hw1
        by_cases h8 : L.length % 8 = 0
        · have e1 : Io.packE vs ns = 0 := by unfold Io.packE; rw [if_pos HL.out, HP.out]; simp [h8]
          have e2 : Io.packB vs ns = Io.pack L := by unfold Io.packB; rw [e1, HP.out]; rfl
          have H8 := Lib.hid h8
          have HE1 := Lib.hid e1
          have HE2 := Lib.hid e2
          clear h8 e1 e2
          go_wp2_with (go_at_call 52; refine (bytes_ok HW1.out H8.out (by omega)).mono ?_; rintro e w2 ⟨v, rfl, hx2, hown⟩)
          go_ret2
          exact ⟨_, by rw [HE1.out]; rfl, hx1.trans hx2, by rw [HE2.out]; exact own_base hown hx1.le⟩
        · have e1 : Io.packE vs ns = 10 := by unfold Io.packE; rw [if_pos HL.out, HP.out]; simp [h8]
          have e2 : Io.packB vs ns = [] := by unfold Io.packB; rw [e1]; rfl
          have H8 := Lib.hid h8
          have HE1 := Lib.hid e1
          have HE2 := Lib.hid e2
          clear h8 e1 e2
          go_wp2_with (go_at_call 52; refine (bytes_width HW1.out H8.out).mono ?_; rintro e w2 ⟨rfl, hx2⟩)
          go_ret2
          exact ⟨_, by rw [HE1.out]; rfl, hx1.trans hx2, by rw [HE2.out]; exact World.ownsRow_nil _ _ _ _⟩
  · have hne : ((vs.length : Int) != ns.length) = true := by simp; omega
    have e1 : Io.packE vs ns = 2 := by unfold Io.packE; rw [if_neg hlen]
    have e2 : Io.packB vs ns = [] := by unfold Io.packB; rw [e1]; rfl
    have HE1 := Lib.hid e1
    have HE2 := Lib.hid e2
    clear e1 e2 hlen
    go_enter Try.func42, Try.ntmps42
    go_wp2
    go_ret2
    exact ⟨_, by rw [HE1.out]; rfl, Ext.refl _, by rw [HE2.out]; exact World.ownsRow_nil _ _ _ _⟩

set_option maxHeartbeats 400000 in
theorem unpack_any (va vb : Value) (l ws : List Int) (W : World) (ha : Src W va 1 l.length (u8s l)) (hb : Src W vb 1 ws.length (i64s ws)) (hby : Io.Bytes l) (hl : l.length ≤ 140737488355328) (hws : ws.length ≤ 1000000) :
    Calls Try.prog 44 #[va, vb] W
      fun e w' => ∃ v, e = .returned (.tuple #[v, .int .i64 (Io.unE l ws)]) ∧ Ext W w' ∧ w'.ownsRow W.heap.size 22 1 v (Io.unV l ws).length (u32s (Io.unV l ws)) := by
  obtain ⟨ob, cb, rfl, hnb⟩ := hb.slice
  have HA := Lib.hid ha
  have HB := Lib.hid hb
  have HBY := Lib.hid hby
  have HNB := Lib.hid hnb
  clear ha hb hby hnb
  go_enter Try.func44, Try.ntmps44
  go_wp2_with (go_at_call 56; refine (newReader_any _ _ _ HA.out HBY.out hl).mono ?_; rintro e w1 ⟨p, oa, n, c, rfl, hx, hr⟩)
  go_loopw [7, 16] (fun o i wr => ∃ k pos acc, k ≤ ws.length ∧ i = .int .i64 (k : Nat) ∧ Ext W wr ∧ RdrAt wr W.heap.size p oa n c l pos ∧ wr.ownsRow W.heap.size 22 1 o acc.length (u32s acc) ∧ acc.length ≤ k ∧ Io.comb acc (Io.getAll l (ws.drop k) pos) = Io.getAll l ws 0) (fun _ i _ => ws.length - (intOf i).toNat)
  case atStart => exact ⟨0, 0, [], Nat.zero_le _, rfl, hx, hr, World.ownsRow_nil _ _ _ _, Nat.zero_le _, Io.comb_nil _ _ _⟩
  case round =>
    obtain ⟨k, pos, acc, hk, rfl, hx1, hr1, ho1, hacc, hget⟩ := hrel
    clear hx hr
    obtain ⟨oo, co, rfl⟩ := own_slice ho1
    by_cases hlt : k < ws.length
    · obtain ⟨y, hyk⟩ : ∃ y, ws[k]? = some y := ⟨_, List.getElem?_eq_getElem hlt⟩
      cases ob with
      | none => have := HNB.out rfl; omega
      | some bd =>
      obtain ⟨eb, _, cb'⟩ := HB.out.at (by omega)
      obtain ⟨bb, bo, bsp⟩ := bd
      simp only [Addr.mk.injEq, true_and] at eb
      subst eb
      dsimp only at cb'
      have f2 := hx1.cell (cb' k _ (i64s_get hyk))
      rw [drop_cons hyk] at hget
      have HG := Lib.hid hget
      have HR := Lib.hid hr1
      have HX1 := Lib.hid hx1
      have HO := Lib.hid ho1
      clear hyk cb' hget hr1 hx1 ho1
      by_cases he : Io.rdE l pos y = 0
      · have hv := Io.rdV_bd l pos y
        have hg := HG.out
        rw [Io.comb_step _ _ he] at hg
        have HG2 := Lib.hid hg
        clear hg
        go_wp2_with fail
        refine (readBits_any HR.out _).mono ?_
        rintro e w2 ⟨rfl, hm2, hr2⟩
        have hx2 := HX1.out.mod hm2 (fun q hq => by rw [hq]; exact HR.out.le)
        have ho2 := own_mod HO.out hm2 (fun q hq e1 => by
          obtain ⟨cur, hc⟩ := own_type HO.out hq
          exact ne_of_type hc HR.out.blk (by decide) e1)
        have ho3 := own_ext ho2 (((Ext.refl w2).alloc (.cells #[.int .i64 0] 47)).alloc (.cells #[.int .u32 (Io.rdV l pos y)] 22))
        have hz := hx2.le
        have hsrc := src_one (w2.alloc (.cells #[.int .i64 0] 47)) (.int .u32 (Io.rdV l pos y)) 22 rfl
        rw [World.size_alloc] at hsrc
        have HS := Lib.hid hsrc
        have HX2 := Lib.hid hx2
        have HO3 := Lib.hid ho3
        have HR2 := Lib.hid hr2
        clear hm2 hr2 hx2 ho2 ho3 hsrc
        go_wp2_with (first
          | (go_at_call 68; refine (first_one _ 0 _ (by simp)).mono ?_; rintro e w3 ⟨rfl, rfl⟩)
          | (at_builtin; refine wpList_append_fresh rfl (.tmp 32) (.tmp 34) 43 rfl W.heap.size 22 (.int .u32 0) 1 4 Try.underlying43 info_u32 rfl (by decide) _ acc.length (u32s acc) rfl HO3.out _ 1 [.int .u32 (Io.rdV l pos y)] rfl HS.out ?d1 ?d2 ?d3 ?_))
        case d1 => unfold maxLen; omega
        case d2 => omega
        case d3 => simp; omega
        intro v' w' hown hgr _
        have hr3 := (HR2.out.ext (((Ext.refl w2).alloc (.cells #[.int .i64 0] 47)).alloc (.cells #[.int .u32 (Io.rdV l pos y)] 22))).beside HO3.out (by decide) (by decide) hgr
        have hx3 := ((HX2.out.alloc (.cells #[.int .i64 0] 47)).alloc (.cells #[.int .u32 (Io.rdV l pos y)] 22)).mod (grown_mod hgr) (fun q hq => (HO3.out.lt q hq.symm).1)
        have HA3 := Lib.hid hown
        clear hgr hown HO3
        go_wp2
        go_roundw
        case rel => exact ⟨k + 1, _, acc ++ [Io.rdV l pos y], by omega, by go_num, hx3, hr3, by simpa [u32s] using HA3.out, by simp; omega, HG2.out⟩
        case measure => simp [intOf]; omega
      · have he2 : (Io.rdE l pos y != 0) = true := by simpa using he
        have hg := HG.out
        rw [Io.comb_fail _ _ he] at hg
        have e1 : Io.unE l ws = Io.rdE l pos y := by unfold Io.unE; rw [← hg]; simp [he]
        have e2 : Io.unV l ws = [] := by unfold Io.unV; rw [e1, if_neg he]
        have HE1 := Lib.hid e1
        have HE2 := Lib.hid e2
        clear he hg e1 e2
        go_wp2_with (first
          | (go_at_call 57; refine (readBits_any HR.out _).mono ?_; rintro e w2 ⟨rfl, hm2, hr2⟩)
          | (go_at_call 68; refine (first_one _ (Io.rdE l pos y) _ (by simp)).mono ?_; rintro e w3 ⟨rfl, rfl⟩))
        have hx2 := HX1.out.mod hm2 (fun q hq => by rw [hq]; exact HR.out.le)
        go_ret2
        exact ⟨_, by rw [HE1.out]; rfl, hx2.alloc _, by rw [HE2.out]; exact World.ownsRow_nil _ _ _ _⟩
    · obtain rfl : k = ws.length := by omega
      rw [List.drop_length] at hget
      have hg : Io.getAll l ws 0 = (0, acc, pos) := by rw [← hget]; simp [Io.comb, Io.getAll]
      have hpl := hr1.pos_le
      have hsm := hr1.small
      have HG := Lib.hid hg
      have HR := Lib.hid hr1
      have HO := Lib.hid ho1
      clear hget hg hr1 ho1
      by_cases hrem : pos = 8 * l.length
      · have e1 : Io.unE l ws = 0 := by unfold Io.unE; rw [HG.out]; simp [hrem]
        have e2 : Io.unV l ws = acc := by unfold Io.unV; rw [e1, HG.out]; rfl
        have HE1 := Lib.hid e1
        have HE2 := Lib.hid e2
        have hle : 8 * l.length ≤ pos := by omega
        clear e1 e2 hrem
        go_wp2_with (go_at_call 58; refine (remaining_at HR.out).mono ?_; rintro e w2 ⟨rfl, hx2⟩)
        go_ret2
        exact ⟨_, by rw [HE1.out]; rfl, hx1.trans hx2, by rw [HE2.out]; exact own_ext HO.out hx2⟩
      · have e1 : Io.unE l ws = 4 := by unfold Io.unE; rw [HG.out]; simp [hrem]
        have e2 : Io.unV l ws = [] := by unfold Io.unV; rw [e1]; rfl
        have HE1 := Lib.hid e1
        have HE2 := Lib.hid e2
        have hle : pos < 8 * l.length := by omega
        clear e1 e2 hrem
        go_wp2_with (go_at_call 58; refine (remaining_at HR.out).mono ?_; rintro e w2 ⟨rfl, hx2⟩)
        go_ret2
        exact ⟨_, by rw [HE1.out]; rfl, hx1.trans hx2, by rw [HE2.out]; exact World.ownsRow_nil _ _ _ _⟩
end Go.Proofs.Ytpcoikgbpdedcaa
