/- Programs checked: require, when, names, repeated, walked. Programs checked: limits, headers, walked. Programs checked: metadata, walked. No condition. -/
import Derived.Test.YthmokhkkdgnbhaaGreatJqAG
set_option maxRecDepth 8000
set_option maxHeartbeats 16000000
namespace Go.Proofs.YthmokhkkdgnbhaaGreat
open Go.RowKit
/-- a slice of strings -/
def Sts (w : World) (v : Value) (l : List ByteArray) : Prop := Src w v 1 l.length (l.map .string) ∧ l.length ≤ maxLen
theorem Sts.ext {w w' : World} {v : Value} {l : List ByteArray} (h : Sts w v l) (hx : Ext w w') : Sts w' v l := ⟨h.1.ext hx, h.2⟩
theorem sts_slice {w : World} {v : Value} {l : List ByteArray} (h : Sts w v l) : ∃ oa c, v = .slice oa l.length c := by
 obtain ⟨oa, c, rfl, _⟩ := h.1.slice; exact ⟨oa, c, rfl⟩
theorem sts_at {w : World} {oa : Option Addr} {n c : Nat} {l : List ByteArray} (h : Sts w (.slice oa n c) l) (hl : 0 < l.length) : ∃ b o, oa = some ⟨b, o, none⟩ ∧ ∀ j x, l[j]? = some x → ∀ w' [Grows w w'], w'.cell? ⟨b, o + j, none⟩ = some (.string x) := by
 cases oa with
 | none =>
  rcases h.1.2.2 with ⟨_, h0⟩ | ⟨_, _, h0, _⟩
  ·omega
  ·simp at h0
 | some ad =>
  obtain ⟨ea, _, ca⟩ := h.1.at hl
  obtain ⟨ab, ao, asp⟩ := ad
  simp only [Addr.mk.injEq, true_and] at ea
  subst ea
  exact ⟨ab, ao, rfl, fun j x hj => alw (ca j _ (by simp [hj]))⟩
/-- what a check leaves that gives up by a panic: nothing, or the panic with the error -/
def Thr (W : World) (x : Int) (e : Ending) (w' : World) : Prop := Ext W w' ∧ ((x = 0 ∧ e = .returned (.tuple #[])) ∨
 (x ≠ 0 ∧ ∃ a b c : Int, e = .panicked [{ v := .iface 120 (.agg #[.int .i64 x, .int .i64 a, .int .i64 b, .int .i64 c]), recovered := false }]))
theorem same_sym (a b : ByteArray) : Hd.same a b = Hd.same b a := by
 rw [Bool.eq_iff_iff, Hd.same_iff, Hd.same_iff]; exact eq_comm
theorem require_any (x a b c : Int) (W : World) : Calls Tryz.prog 76 #[.int .i64 x, .int .i64 a, .int .i64 b, .int .i64 c] W (Thr W x) := by
 unfold Thr
 by_cases h : x = 0
 ·subst h
  go_enter Tryz.func76, Tryz.ntmps76
  go_wp2_with fail
  first | go_end0 | skip
  exact ⟨eR _, .inl ⟨by first | rfl | trivial, by first | rfl | trivial⟩⟩
 ·have z1 : (x != 0) = true := nT h
  have H := Lh h
  have hpan : ∀ (t : TypeId) (v : Value) (w : World), (Instr.panic (.iface t v)).run Tryz.prog w = .halt (.panic (.iface t v)) w := fun _ _ _ => rfl
  clear h
  go_enter Tryz.func76, Tryz.ntmps76
  go_wp2_with fail
  refine ⟨rfl, eR _, .inr ⟨H.out, a, b, c, rfl⟩⟩
theorem when_any (b : Bool) (x : Int) (W : World) : Calls Tryz.prog 77 #[.bool b, .int .i64 x] W (Rets W (.int .i64 (if b then x else 0))) := by
 cases b with
 | true =>
  go_enter Tryz.func77, Tryz.ntmps77
  go_wp2_with fail
  go_ret
  exact ⟨rfl, eR _⟩
 | false =>
  go_enter Tryz.func77, Tryz.ntmps77
  go_wp2_with fail
  go_ret
  exact ⟨rfl, eR _⟩
theorem pident_any (s : ByteArray) (hs : s.size ≤ maxLen) (W : World) : Calls Tryz.prog 78 #[.string s] W (Rets W (.bool (!Id.ok s))) := by
 have H := Lh (fun W => ident_any s W hs)
 clear hs
 go_enter Tryz.func78, Tryz.ntmps78
 go_wp2_with fail
 refine (H.out _).mono ?_
 rintro e w1 ⟨rfl, rfl⟩
 go_wp2_with fail
 go_ret
 exact ⟨rfl, eR _⟩
theorem pwidth_any (x : Int) (W : World) : Calls Tryz.prog 85 #[.int .i64 x] W (Rets W (.bool (decide (x < 1 ∨ 32 < x)))) := by
 by_cases h1 : x < 1
 ·rw [dTt (p := x < 1 ∨ 32 < x) (.inl h1)]
  have d1 : decide (x < 1) = true := dTt (by omega)
  clear h1
  go_enter Tryz.func85, Tryz.ntmps85
  go_wp2_with fail
  go_ret
  exact ⟨rfl, eR _⟩
 ·have d1 : decide (x < 1) = false := dF (by omega)
  by_cases h2 : 32 < x
  ·rw [dTt (p := x < 1 ∨ 32 < x) (.inr h2)]
   have d2 : decide (32 < x) = true := dTt (by omega)
   clear h1 h2
   go_enter Tryz.func85, Tryz.ntmps85
   go_wp2_with fail
   go_ret
   exact ⟨rfl, eR _⟩
  ·rw [dF (p := x < 1 ∨ 32 < x) (by omega)]
   have d2 : decide (32 < x) = false := dF (by omega)
   clear h1 h2
   go_enter Tryz.func85, Tryz.ntmps85
   go_wp2_with fail
   go_ret
   exact ⟨rfl, eR _⟩
theorem sindex_any {W : World} {v : Value} {l : List ByteArray} (h : Sts W v l) (x : ByteArray) : Calls Tryz.prog 158 #[v, .string x] W fun e W' => (∃ r : Int, e = .returned (.int .i64 r) ∧ decide (0 ≤ r) = l.any (fun y => Hd.same y x)) ∧ W = W' := by
 obtain ⟨oa, c, rfl⟩ := sts_slice h
 have hm := h.2
 unfold maxLen at hm
 have H := Lh h
 clear h
 go_enter Tryz.func158, Tryz.ntmps158
 go_wp2_with fail
 go_loop [8] (fun i => ∃ k : Nat, k ≤ l.length ∧ i = .int .i64 k ∧ Hid (∀ (j : Nat) y, j < k → l[j]? = some y → Hd.same y x = false)) (fun i => l.length - (intOf i).toNat)
 case atStart => exact ⟨0, Nat.zero_le _, rfl, Lh (by intro j y hj; omega)⟩
 case round =>
  obtain ⟨k, hk, rfl, HZ⟩ := hrel
  by_cases hlt : k < l.length
  ·obtain ⟨y, hy⟩ : ∃ y, l[k]? = some y := ⟨_, gE hlt⟩
   obtain ⟨b, o, rfl, hc⟩ := sts_at H.out (by omega)
   have f1 := hc k y hy
   have HY := Lh hy
   clear hc hy
   cases hs : Hd.same y x with
   | false =>
    have HS := Lh hs
    have hne : (x.toList == y.toList) = false := by rw [same_sym] at hs; exact hs
    clear hs
    go_wp2_with fail
    go_round
    case rel =>
     refine ⟨k + 1, by omega, by go_num, Lh (fun j z hj hz => ?_)⟩
     rcases Nat.lt_or_ge j k with h1 | h1
     ·exact HZ.out j z h1 hz
     ·obtain rfl : j = k := by omega
      rw [HY.out] at hz
      obtain rfl := Option.some.inj hz
      exact HS.out
    case measure => simp [intOf]; omega
   | true =>
    have HS := Lh hs
    have hne : (x.toList == y.toList) = true := by rw [same_sym] at hs; exact hs
    clear hs
    go_wp2_with fail
    go_ret
    refine ⟨⟨_, rfl, ?_⟩, rfl⟩
    have hz : l.any (fun y => Hd.same y x) = true := List.any_eq_true.2 ⟨_, List.mem_of_getElem? HY.out, HS.out⟩
    rw [hz]; simp
  ·obtain rfl : k = l.length := by omega
   go_wp2_with fail
   go_ret
   refine ⟨⟨_, rfl, ?_⟩, rfl⟩
   have hz : l.any (fun y => Hd.same y x) = false := by
    rw [← Bool.not_eq_true, List.any_eq_true]
    rintro ⟨y, hy, he⟩
    obtain ⟨j, hj, rfl⟩ := List.mem_iff_getElem.1 hy
    rw [HZ.out j _ hj (gE hj)] at he
    cases he
   rw [hz]; decide
theorem scont_any {W : World} {v : Value} {l : List ByteArray} (h : Sts W v l) (x : ByteArray) : Calls Tryz.prog 127 #[v, .string x] W (Rets W (.bool (l.any (fun y => Hd.same y x)))) := by
 obtain ⟨oa, c, rfl⟩ := sts_slice h
 have H := Lh h
 clear h
 go_enter Tryz.func127, Tryz.ntmps127
 go_wp2_with fail
 refine (sindex_any H.out x).mono ?_
 rintro e w1 ⟨⟨r, rfl, hr⟩, rfl⟩
 have HR := Lh hr
 clear hr
 go_wp2_with fail
 go_ret
 exact ⟨ret_bool (by rw [← HR.out]), eR _⟩
theorem sts_take {w : World} {oa : Option Addr} {n c j : Nat} {l : List ByteArray} (h : Sts w (.slice oa n c) l) (hj : j ≤ l.length) (hl : 0 < l.length) : Sts w (.slice oa j c) (l.take j) := by
 obtain ⟨⟨h1, h2, h3⟩, h4⟩ := h
 have hlen : (l.take j).length = j := by rw [List.length_take]; omega
 refine ⟨⟨by simp, fun u hu => h2 u ?_, ?_⟩, by omega⟩
 ·rw [List.map_take] at hu; exact List.mem_of_mem_take hu
 ·rcases h3 with ⟨_, h0⟩ | ⟨ad, c', he, hc⟩
  ·omega
  ·simp only [Value.slice.injEq] at he
   obtain ⟨rfl, _, rfl⟩ := he
   refine .inr ⟨ad, c, by rw [hlen], fun i u hi => hc i u ?_⟩
   rw [List.map_take, List.getElem?_take] at hi
   split at hi
   ·exact hi
   ·cases hi
theorem repeated_any {W : World} {oa : Option Addr} {c : Nat} {l : List ByteArray} (h : Sts W (.slice oa l.length c) l) (hc : l.length ≤ c) (i : Nat) (hi : i < l.length) : Calls Tryz.prog 82 #[.slice oa l.length c, .int .i64 i] W (Rets W (.bool (Tj.rep l i))) := by
 have hm := h.2
 unfold maxLen at hm
 obtain ⟨x, hx⟩ : ∃ x, l[i]? = some x := ⟨_, gE hi⟩
 obtain ⟨b, o, rfl, hcell⟩ := sts_at h (by omega)
 have y0 := hcell i x hx
 have HT := Lh (sts_take h (show i ≤ l.length by omega) (by omega))
 have hrep : Tj.rep l i = (l.take i).any (fun y => Hd.same y x) := by unfold Tj.rep; rw [List.getD_eq_getElem?_getD, hx]; rfl
 rw [hrep]
 have hic : (i : Int) ≤ c := by omega
 obtain ⟨R, hR⟩ : ∃ z, z = (l.take i).any (fun y => Hd.same y x) := ⟨_, rfl⟩
 have HC : Hid (∀ w, Ext W w → Calls Tryz.prog 127 #[.slice (some ⟨b, o, none⟩) i c, .string x] w (Rets w (.bool R))) := Lh (fun w hx => by have h := scont_any (HT.out.ext hx) x; rw [← hR] at h; exact h)
 rw [← hR]
 clear h hx hcell hrep hR
 go_enter Tryz.func82, Tryz.ntmps82
 go_wp2_with fail
 refine wp_region_later (W := W) (by kernel_rfl) (by kernel_rfl) (eR _) ?_
 repeat (go_big_quiet_step (first | (go_at_call 127; exact Rets.later_at (HC.out _ grows)) | fail))
 refine wpQuiet_nil ?_
 intro w9 hx9
 have s9 := Sm hx9
 go_wp2_with fail
 go_ret
 exact ⟨rfl, grows⟩
theorem own_cap {w : World} {B n m c : Nat} {e : TypeId} {sz : Nat} {oa : Option Addr} {xs : List Value} (h : w.ownsRow B e sz (.slice oa m c) n xs) : n ≤ c := by
 rcases h.2 with ⟨h1, rfl⟩ | ⟨g, cap, cur, h1, hg, hh, h2, h3, _⟩
 ·simp only [Value.slice.injEq] at h1; omega
 ·simp only [Value.slice.injEq] at h1; omega
/-- names in new memory -/
def StsP (W : World) (l : List ByteArray) (e : Ending) (w' : World) : Prop := ∃ oa c, e = .returned (.slice oa l.length c) ∧ Ext W w' ∧ Sts w' (.slice oa l.length c) l ∧ l.length ≤ c
theorem info_str : (Tryz.prog.info? 9).map (fun i => (i.zero, i.size, i.bytes)) = some (some (.string ⟨#[]⟩), 1, 16) := by kernel_rfl
def strs (l : List ByteArray) : List Value := l.map .string
theorem strs_one (l : List ByteArray) : ∀ u ∈ strs l, u.oneCell' = true := by
 intro u hu; obtain ⟨x, _, rfl⟩ := List.mem_map.1 hu; rfl
theorem headerName_any (s : ByteArray) (v1 : Value) (W : World) : Calls Tryz.prog 80 #[.agg #[.string s, v1]] W (Rets W (.string s)) := by
 have bx := aH W (.cells #[.string s, v1] 96)
 have k0 := alw (cQ 0 bx)
 have k1 := alw (cQ 1 bx)
 clear bx
 go_enter Tryz.func80, Tryz.ntmps80
 go_wp2_with fail
 go_ret
 exact ⟨rfl, grows⟩
theorem namesHeader_any {W : World} {v : Value} {ds : List Hd.Hdr} (h : Rows W 2 Hd.HdrR v ds) (hd : ds.length ≤ 1000) : Calls Tryz.prog 79 #[v, .func (.func 80) #[] #[]] W (StsP W (ds.map (fun h : Hd.Hdr => h.1))) := by
 obtain ⟨oa, c, rfl, hlc, hcm⟩ := h.slice
 unfold maxLen at hcm
 have H := Lh h
 clear h
 go_enter Tryz.func79, Tryz.ntmps79
 go_wp2_with fail
 go_loopw [5, 10] (fun o q wr => ∃ k : Nat, k ≤ ds.length ∧ q = .int .i64 k ∧ ∃ oo co, o = .slice oo k co ∧ Hid (Ext W wr ∧ wr.ownsRow W.heap.size 9 1 o k (strs ((ds.take k).map (fun h : Hd.Hdr => h.1))))) (fun _ q _ => ds.length - (intOf q).toNat)
 case atStart => exact ⟨0, Nat.zero_le _, rfl, _, _, rfl, Lh ⟨eR _, World.ownsRow_nil _ _ _ _⟩⟩
 case round =>
  obtain ⟨k, hk, rfl, oo, co, rfl, HZ⟩ := hrel
  have sx : Step W wr := ⟨HZ.out.1⟩
  by_cases hlt : k < ds.length
  ·obtain ⟨⟨hn, fs⟩, hx⟩ : ∃ x, ds[k]? = some x := ⟨_, gE hlt⟩
   obtain ⟨b, o, rfl, _, _⟩ := Rows.at H.out (by omega)
   obtain ⟨fa, fc, u0, u1, _⟩ := hdrs_at H.out k hn fs hx rfl
   have hsn : strs ((ds.take (k + 1)).map (fun h : Hd.Hdr => h.1)) = strs ((ds.take k).map (fun h : Hd.Hdr => h.1)) ++ [.string hn] := by
    rw [List.take_add_one, hx]; simp [strs]
   have HSN := Lh hsn
   have hle : W.heap.size ≤ wr.heap.size := HZ.out.1.le
   have bx := aH wr (.cells #[.string hn, .slice fa fs.length fc] 96)
   have m0 := alw (cQ 0 bx)
   have m1 := alw (cQ 1 bx)
   clear bx
   clear hx hsn
   go_wp2_with fail
   refine via (headerName_any _ _ _) fun w7 x7 s7 => ?_
   have hle7 := x7.le
   simp only [szA] at hle7
   have HS1 := Lh (src_one w7 (.string hn) 9 rfl)
   have HO1 := Lh (own_now HZ.out.2 (w := w7.alloc (.cells #[.string hn] 9)))
   go_wp2_with (at_builtin; refine wpList_append_fresh rfl (.tmp 14) (.tmp 18) 161 rfl W.heap.size 9 (.string ⟨#[]⟩) 1 16 Tryz.underlying161 info_str rfl (by decide) _ k (strs ((ds.take k).map (fun h : Hd.Hdr => h.1))) rfl HO1.out _ 1 [.string hn] rfl HS1.out ?d1 ?d2 ?d3 ?_)
   case d1 => unfold maxLen; omega
   case d2 => omega
   case d3 => (try simp); omega
   intro v' w' hown hgr _
   have hx3 : Ext W w' := (grows (a := W) (b := w7.alloc (.cells #[.string hn] 9))).mod (grown_mod hgr) (fun q hq => (HO1.out.lt q hq.symm).1)
   have HX3 := Lh hx3
   obtain ⟨o3, c3, rfl⟩ := own_slice hown
   have HA3 := Lh hown
   clear hgr hown hx3
   go_wp2_with fail
   go_roundw
   case rel => exact ⟨k + 1, by omega, by go_num, o3, c3, rfl, Lh ⟨HX3.out, by rw [HSN.out, List.map_take]; exact HA3.out⟩⟩
   case measure => simp [intOf]; omega
  ·obtain rfl : k = ds.length := by omega
   have hml : (ds.map (fun h : Hd.Hdr => h.1)).length = ds.length := List.length_map _
   go_wp2_with fail
   go_ret
   have h := HZ.out.2
   rw [List.take_length] at h
   have hcap := own_cap h
   unfold StsP
   rw [hml]
   refine ⟨_, _, rfl, HZ.out.1, ⟨?_, by rw [hml]; unfold maxLen; omega⟩, hcap⟩
   rw [hml]
   exact own_src h (strs_one _)
theorem fieldName_any (s : ByteArray) (v1 : Value) (W : World) : Calls Tryz.prog 84 #[.agg #[.string s, v1]] W (Rets W (.string s)) := by
 have bx := aH W (.cells #[.string s, v1] 94)
 have k0 := alw (cQ 0 bx)
 have k1 := alw (cQ 1 bx)
 clear bx
 go_enter Tryz.func84, Tryz.ntmps84
 go_wp2_with fail
 go_ret
 exact ⟨rfl, grows⟩
theorem namesField_any {W : World} {v : Value} {ds : List Hd.Fld} (h : Rows W 2 Hd.FieldR v ds) (hd : ds.length ≤ 1000) : Calls Tryz.prog 83 #[v, .func (.func 84) #[] #[]] W (StsP W (ds.map (fun h : Hd.Fld => h.1))) := by
 obtain ⟨oa, c, rfl, hlc, hcm⟩ := h.slice
 unfold maxLen at hcm
 have H := Lh h
 clear h
 go_enter Tryz.func83, Tryz.ntmps83
 go_wp2_with fail
 go_loopw [5, 10] (fun o q wr => ∃ k : Nat, k ≤ ds.length ∧ q = .int .i64 k ∧ ∃ oo co, o = .slice oo k co ∧ Hid (Ext W wr ∧ wr.ownsRow W.heap.size 9 1 o k (strs ((ds.take k).map (fun h : Hd.Fld => h.1))))) (fun _ q _ => ds.length - (intOf q).toNat)
 case atStart => exact ⟨0, Nat.zero_le _, rfl, _, _, rfl, Lh ⟨eR _, World.ownsRow_nil _ _ _ _⟩⟩
 case round =>
  obtain ⟨k, hk, rfl, oo, co, rfl, HZ⟩ := hrel
  have sx : Step W wr := ⟨HZ.out.1⟩
  by_cases hlt : k < ds.length
  ·obtain ⟨⟨hn, fw⟩, hx⟩ : ∃ x, ds[k]? = some x := ⟨_, gE hlt⟩
   obtain ⟨b, o, rfl, _, _⟩ := Rows.at H.out (by omega)
   obtain ⟨u0, u1, _⟩ := flds_at H.out k hn fw hx rfl
   have hsn : strs ((ds.take (k + 1)).map (fun h : Hd.Fld => h.1)) = strs ((ds.take k).map (fun h : Hd.Fld => h.1)) ++ [.string hn] := by
    rw [List.take_add_one, hx]; simp [strs]
   have HSN := Lh hsn
   have hle : W.heap.size ≤ wr.heap.size := HZ.out.1.le
   have bx := aH wr (.cells #[.string hn, .int .i64 fw] 94)
   have m0 := alw (cQ 0 bx)
   have m1 := alw (cQ 1 bx)
   clear bx
   clear hx hsn
   go_wp2_with fail
   refine via (fieldName_any _ _ _) fun w7 x7 s7 => ?_
   have hle7 := x7.le
   simp only [szA] at hle7
   have HS1 := Lh (src_one w7 (.string hn) 9 rfl)
   have HO1 := Lh (own_now HZ.out.2 (w := w7.alloc (.cells #[.string hn] 9)))
   go_wp2_with (at_builtin; refine wpList_append_fresh rfl (.tmp 14) (.tmp 18) 161 rfl W.heap.size 9 (.string ⟨#[]⟩) 1 16 Tryz.underlying161 info_str rfl (by decide) _ k (strs ((ds.take k).map (fun h : Hd.Fld => h.1))) rfl HO1.out _ 1 [.string hn] rfl HS1.out ?d1 ?d2 ?d3 ?_)
   case d1 => unfold maxLen; omega
   case d2 => omega
   case d3 => (try simp); omega
   intro v' w' hown hgr _
   have hx3 : Ext W w' := (grows (a := W) (b := w7.alloc (.cells #[.string hn] 9))).mod (grown_mod hgr) (fun q hq => (HO1.out.lt q hq.symm).1)
   have HX3 := Lh hx3
   obtain ⟨o3, c3, rfl⟩ := own_slice hown
   have HA3 := Lh hown
   clear hgr hown hx3
   go_wp2_with fail
   go_roundw
   case rel => exact ⟨k + 1, by omega, by go_num, o3, c3, rfl, Lh ⟨HX3.out, by rw [HSN.out, List.map_take]; exact HA3.out⟩⟩
   case measure => simp [intOf]; omega
  ·obtain rfl : k = ds.length := by omega
   have hml : (ds.map (fun h : Hd.Fld => h.1)).length = ds.length := List.length_map _
   go_wp2_with fail
   go_ret
   have h := HZ.out.2
   rw [List.take_length] at h
   have hcap := own_cap h
   unfold StsP
   rw [hml]
   refine ⟨_, _, rfl, HZ.out.1, ⟨?_, by rw [hml]; unfold maxLen; omega⟩, hcap⟩
   rw [hml]
   exact own_src h (strs_one _)
theorem registerName_any (s : ByteArray) (v1 v2 : Value) (W : World) : Calls Tryz.prog 87 #[.agg #[.string s, v1, v2]] W (Rets W (.string s)) := by
 have bx := aH W (.cells #[.string s, v1, v2] 98)
 have k0 := alw (cQ 0 bx)
 have k1 := alw (cQ 1 bx)
 have k2 := alw (cQ 2 bx)
 clear bx
 go_enter Tryz.func87, Tryz.ntmps87
 go_wp2_with fail
 go_ret
 exact ⟨rfl, grows⟩
theorem namesRegister_any {W : World} {v : Value} {ds : List Rg.Reg} (h : Rows W 3 Rg.RegR v ds) (hd : ds.length ≤ 1000) : Calls Tryz.prog 86 #[v, .func (.func 87) #[] #[]] W (StsP W (ds.map (fun r : Rg.Reg => r.nm))) := by
 obtain ⟨oa, c, rfl, hlc, hcm⟩ := h.slice
 unfold maxLen at hcm
 have H := Lh h
 clear h
 go_enter Tryz.func86, Tryz.ntmps86
 go_wp2_with fail
 go_loopw [5, 10] (fun o q wr => ∃ k : Nat, k ≤ ds.length ∧ q = .int .i64 k ∧ ∃ oo co, o = .slice oo k co ∧ Hid (Ext W wr ∧ wr.ownsRow W.heap.size 9 1 o k (strs ((ds.take k).map (fun r : Rg.Reg => r.nm))))) (fun _ q _ => ds.length - (intOf q).toNat)
 case atStart => exact ⟨0, Nat.zero_le _, rfl, _, _, rfl, Lh ⟨eR _, World.ownsRow_nil _ _ _ _⟩⟩
 case round =>
  obtain ⟨k, hk, rfl, oo, co, rfl, HZ⟩ := hrel
  have sx : Step W wr := ⟨HZ.out.1⟩
  by_cases hlt : k < ds.length
  ·obtain ⟨⟨hn, fw, fs⟩, hx⟩ : ∃ x, ds[k]? = some x := ⟨_, gE hlt⟩
   obtain ⟨b, o, rfl, _, _⟩ := Rows.at H.out (by omega)
   obtain ⟨u0, u1, u2, _⟩ := regs_at H.out k ⟨hn, fw, fs⟩ hx rfl
   dsimp only at u0 u1 u2
   have hsn : strs ((ds.take (k + 1)).map (fun r : Rg.Reg => r.nm)) = strs ((ds.take k).map (fun r : Rg.Reg => r.nm)) ++ [.string hn] := by
    rw [List.take_add_one, hx]; simp [strs]
   have HSN := Lh hsn
   have hle : W.heap.size ≤ wr.heap.size := HZ.out.1.le
   have bx := aH wr (.cells #[.string hn, .int .i64 fw, .int .i64 fs] 98)
   have m0 := alw (cQ 0 bx)
   have m1 := alw (cQ 1 bx)
   have m2 := alw (cQ 2 bx)
   clear bx
   clear hx hsn
   go_wp2_with fail
   refine via (registerName_any _ _ _ _) fun w7 x7 s7 => ?_
   have hle7 := x7.le
   simp only [szA] at hle7
   have HS1 := Lh (src_one w7 (.string hn) 9 rfl)
   have HO1 := Lh (own_now HZ.out.2 (w := w7.alloc (.cells #[.string hn] 9)))
   go_wp2_with (at_builtin; refine wpList_append_fresh rfl (.tmp 14) (.tmp 18) 161 rfl W.heap.size 9 (.string ⟨#[]⟩) 1 16 Tryz.underlying161 info_str rfl (by decide) _ k (strs ((ds.take k).map (fun r : Rg.Reg => r.nm))) rfl HO1.out _ 1 [.string hn] rfl HS1.out ?d1 ?d2 ?d3 ?_)
   case d1 => unfold maxLen; omega
   case d2 => omega
   case d3 => (try simp); omega
   intro v' w' hown hgr _
   have hx3 : Ext W w' := (grows (a := W) (b := w7.alloc (.cells #[.string hn] 9))).mod (grown_mod hgr) (fun q hq => (HO1.out.lt q hq.symm).1)
   have HX3 := Lh hx3
   obtain ⟨o3, c3, rfl⟩ := own_slice hown
   have HA3 := Lh hown
   clear hgr hown hx3
   go_wp2_with fail
   go_roundw
   case rel => exact ⟨k + 1, by omega, by go_num, o3, c3, rfl, Lh ⟨HX3.out, by rw [HSN.out, List.map_take]; exact HA3.out⟩⟩
   case measure => simp [intOf]; omega
  ·obtain rfl : k = ds.length := by omega
   have hml : (ds.map (fun r : Rg.Reg => r.nm)).length = ds.length := List.length_map _
   go_wp2_with fail
   go_ret
   have h := HZ.out.2
   rw [List.take_length] at h
   have hcap := own_cap h
   unfold StsP
   rw [hml]
   refine ⟨_, _, rfl, HZ.out.1, ⟨?_, by rw [hml]; unfold maxLen; omega⟩, hcap⟩
   rw [hml]
   exact own_src h (strs_one _)
theorem actionName_any (s : ByteArray) (v1 v2 : Value) (W : World) : Calls Tryz.prog 90 #[.agg #[.string s, v1, v2]] W (Rets W (.string s)) := by
 have bx := aH W (.cells #[.string s, v1, v2] 92)
 have k0 := alw (cQ 0 bx)
 have k1 := alw (cQ 1 bx)
 have k2 := alw (cQ 2 bx)
 clear bx
 go_enter Tryz.func90, Tryz.ntmps90
 go_wp2_with fail
 go_ret
 exact ⟨rfl, grows⟩
theorem namesAction_any {W : World} {v : Value} {ds : List Tj.Act} (h : Rows W 3 Tj.ActR v ds) (hd : ds.length ≤ 1000) : Calls Tryz.prog 89 #[v, .func (.func 90) #[] #[]] W (StsP W (ds.map (fun r : Tj.Act => r.nm))) := by
 obtain ⟨oa, c, rfl, hlc, hcm⟩ := h.slice
 unfold maxLen at hcm
 have H := Lh h
 clear h
 go_enter Tryz.func89, Tryz.ntmps89
 go_wp2_with fail
 go_loopw [5, 10] (fun o q wr => ∃ k : Nat, k ≤ ds.length ∧ q = .int .i64 k ∧ ∃ oo co, o = .slice oo k co ∧ Hid (Ext W wr ∧ wr.ownsRow W.heap.size 9 1 o k (strs ((ds.take k).map (fun r : Tj.Act => r.nm))))) (fun _ q _ => ds.length - (intOf q).toNat)
 case atStart => exact ⟨0, Nat.zero_le _, rfl, _, _, rfl, Lh ⟨eR _, World.ownsRow_nil _ _ _ _⟩⟩
 case round =>
  obtain ⟨k, hk, rfl, oo, co, rfl, HZ⟩ := hrel
  have sx : Step W wr := ⟨HZ.out.1⟩
  by_cases hlt : k < ds.length
  ·obtain ⟨⟨hn, ps, bd⟩, hx⟩ : ∃ x, ds[k]? = some x := ⟨_, gE hlt⟩
   obtain ⟨b, o, rfl, _, _⟩ := Rows.at H.out (by omega)
   obtain ⟨pa, pc, ba, bc, _, _, _, _, _, g0, g1, g2⟩ := acts_at H.out k ⟨hn, ps, bd⟩ hx rfl
   dsimp only at g0 g1 g2
   have u0 := alw g0
   have u1 := alw g1
   have u2 := alw g2
   clear g0 g1 g2
   have hsn : strs ((ds.take (k + 1)).map (fun r : Tj.Act => r.nm)) = strs ((ds.take k).map (fun r : Tj.Act => r.nm)) ++ [.string hn] := by
    rw [List.take_add_one, hx]; simp [strs]
   have HSN := Lh hsn
   have hle : W.heap.size ≤ wr.heap.size := HZ.out.1.le
   have bx := aH wr (.cells #[.string hn, .slice pa ps.length pc, .slice ba bd.length bc] 92)
   have m0 := alw (cQ 0 bx)
   have m1 := alw (cQ 1 bx)
   have m2 := alw (cQ 2 bx)
   clear bx
   clear hx hsn
   go_wp2_with fail
   refine via (actionName_any _ _ _ _) fun w7 x7 s7 => ?_
   have hle7 := x7.le
   simp only [szA] at hle7
   have HS1 := Lh (src_one w7 (.string hn) 9 rfl)
   have HO1 := Lh (own_now HZ.out.2 (w := w7.alloc (.cells #[.string hn] 9)))
   go_wp2_with (at_builtin; refine wpList_append_fresh rfl (.tmp 14) (.tmp 18) 161 rfl W.heap.size 9 (.string ⟨#[]⟩) 1 16 Tryz.underlying161 info_str rfl (by decide) _ k (strs ((ds.take k).map (fun r : Tj.Act => r.nm))) rfl HO1.out _ 1 [.string hn] rfl HS1.out ?d1 ?d2 ?d3 ?_)
   case d1 => unfold maxLen; omega
   case d2 => omega
   case d3 => (try simp); omega
   intro v' w' hown hgr _
   have hx3 : Ext W w' := (grows (a := W) (b := w7.alloc (.cells #[.string hn] 9))).mod (grown_mod hgr) (fun q hq => (HO1.out.lt q hq.symm).1)
   have HX3 := Lh hx3
   obtain ⟨o3, c3, rfl⟩ := own_slice hown
   have HA3 := Lh hown
   clear hgr hown hx3
   go_wp2_with fail
   go_roundw
   case rel => exact ⟨k + 1, by omega, by go_num, o3, c3, rfl, Lh ⟨HX3.out, by rw [HSN.out, List.map_take]; exact HA3.out⟩⟩
   case measure => simp [intOf]; omega
  ·obtain rfl : k = ds.length := by omega
   have hml : (ds.map (fun r : Tj.Act => r.nm)).length = ds.length := List.length_map _
   go_wp2_with fail
   go_ret
   have h := HZ.out.2
   rw [List.take_length] at h
   have hcap := own_cap h
   unfold StsP
   rw [hml]
   refine ⟨_, _, rfl, HZ.out.1, ⟨?_, by rw [hml]; unfold maxLen; omega⟩, hcap⟩
   rw [hml]
   exact own_src h (strs_one _)
theorem tableName_any (s : ByteArray) (v1 v2 v3 v4 v5 : Value) (W : World) : Calls Tryz.prog 93 #[.agg #[.string s, v1, v2, v3, v4, v5]] W (Rets W (.string s)) := by
 have bx := aH W (.cells #[.string s, v1, v2, v3, v4, v5] 108)
 have k0 := alw (cQ 0 bx)
 have k1 := alw (cQ 1 bx)
 have k2 := alw (cQ 2 bx)
 have k3 := alw (cQ 3 bx)
 have k4 := alw (cQ 4 bx)
 have k5 := alw (cQ 5 bx)
 clear bx
 go_enter Tryz.func93, Tryz.ntmps93
 go_wp2_with fail
 go_ret
 exact ⟨rfl, grows⟩
theorem namesTable_any {W : World} {v : Value} {ds : List Tj.Tab} (h : Rows W 6 Tj.TabR v ds) (hd : ds.length ≤ 1000) : Calls Tryz.prog 92 #[v, .func (.func 93) #[] #[]] W (StsP W (ds.map (fun r : Tj.Tab => r.nm))) := by
 obtain ⟨oa, c, rfl, hlc, hcm⟩ := h.slice
 unfold maxLen at hcm
 have H := Lh h
 clear h
 go_enter Tryz.func92, Tryz.ntmps92
 go_wp2_with fail
 go_loopw [5, 10] (fun o q wr => ∃ k : Nat, k ≤ ds.length ∧ q = .int .i64 k ∧ ∃ oo co, o = .slice oo k co ∧ Hid (Ext W wr ∧ wr.ownsRow W.heap.size 9 1 o k (strs ((ds.take k).map (fun r : Tj.Tab => r.nm))))) (fun _ q _ => ds.length - (intOf q).toNat)
 case atStart => exact ⟨0, Nat.zero_le _, rfl, _, _, rfl, Lh ⟨eR _, World.ownsRow_nil _ _ _ _⟩⟩
 case round =>
  obtain ⟨k, hk, rfl, oo, co, rfl, HZ⟩ := hrel
  have sx : Step W wr := ⟨HZ.out.1⟩
  by_cases hlt : k < ds.length
  ·obtain ⟨⟨hn, ks, ac, ⟨da, ar⟩, sz⟩, hx⟩ : ∃ x, ds[k]? = some x := ⟨_, gE hlt⟩
   obtain ⟨b, o, rfl, _, _⟩ := Rows.at H.out (by omega)
   obtain ⟨ka, kc, aa, cc, va, vc, _, _, _, _, _, g0, g1, g2, g3, g4, g5⟩ := tabs_at H.out k ⟨hn, ks, ac, ⟨da, ar⟩, sz⟩ hx rfl
   dsimp only at g0 g1 g2 g3 g4 g5
   have u0 := alw g0
   have u1 := alw g1
   have u2 := alw g2
   have u3 := alw g3
   have u4 := alw g4
   have u5 := alw g5
   clear g0 g1 g2 g3 g4 g5
   have hsn : strs ((ds.take (k + 1)).map (fun r : Tj.Tab => r.nm)) = strs ((ds.take k).map (fun r : Tj.Tab => r.nm)) ++ [.string hn] := by
    rw [List.take_add_one, hx]; simp [strs]
   have HSN := Lh hsn
   have hle : W.heap.size ≤ wr.heap.size := HZ.out.1.le
   have bx := aH wr (.cells #[.string hn, .slice ka ks.length kc, .slice aa ac.length cc, .int .i64 da, .slice va ar.length vc, .int .i64 sz] 108)
   have m0 := alw (cQ 0 bx)
   have m1 := alw (cQ 1 bx)
   have m2 := alw (cQ 2 bx)
   have m3 := alw (cQ 3 bx)
   have m4 := alw (cQ 4 bx)
   have m5 := alw (cQ 5 bx)
   clear bx
   clear hx hsn
   go_wp2_with fail
   refine via (tableName_any _ _ _ _ _ _ _) fun w7 x7 s7 => ?_
   have hle7 := x7.le
   simp only [szA] at hle7
   have HS1 := Lh (src_one w7 (.string hn) 9 rfl)
   have HO1 := Lh (own_now HZ.out.2 (w := w7.alloc (.cells #[.string hn] 9)))
   go_wp2_with (at_builtin; refine wpList_append_fresh rfl (.tmp 14) (.tmp 18) 161 rfl W.heap.size 9 (.string ⟨#[]⟩) 1 16 Tryz.underlying161 info_str rfl (by decide) _ k (strs ((ds.take k).map (fun r : Tj.Tab => r.nm))) rfl HO1.out _ 1 [.string hn] rfl HS1.out ?d1 ?d2 ?d3 ?_)
   case d1 => unfold maxLen; omega
   case d2 => omega
   case d3 => (try simp); omega
   intro v' w' hown hgr _
   have hx3 : Ext W w' := (grows (a := W) (b := w7.alloc (.cells #[.string hn] 9))).mod (grown_mod hgr) (fun q hq => (HO1.out.lt q hq.symm).1)
   have HX3 := Lh hx3
   obtain ⟨o3, c3, rfl⟩ := own_slice hown
   have HA3 := Lh hown
   clear hgr hown hx3
   go_wp2_with fail
   go_roundw
   case rel => exact ⟨k + 1, by omega, by go_num, o3, c3, rfl, Lh ⟨HX3.out, by rw [HSN.out, List.map_take]; exact HA3.out⟩⟩
   case measure => simp [intOf]; omega
  ·obtain rfl : k = ds.length := by omega
   have hml : (ds.map (fun r : Tj.Tab => r.nm)).length = ds.length := List.length_map _
   go_wp2_with fail
   go_ret
   have h := HZ.out.2
   rw [List.take_length] at h
   have hcap := own_cap h
   unfold StsP
   rw [hml]
   refine ⟨_, _, rfl, HZ.out.1, ⟨?_, by rw [hml]; unfold maxLen; omega⟩, hcap⟩
   rw [hml]
   exact own_src h (strs_one _)
theorem thr_ok {W W' : World} {x : Int} {e : Ending} (h : x = 0) (hx : Ext W W') (he : e = .returned (.tuple #[])) : Thr W x e W' := ⟨hx, .inl ⟨h, he⟩⟩
theorem thr_bad {W W' : World} {x y a b c : Int} (h : y = x) (hx : Ext W W') (hy : x ≠ 0) : Thr W y (.panicked [{ v := .iface 120 (.agg #[.int .i64 x, .int .i64 a, .int .i64 b, .int .i64 c]), recovered := false }]) W' := ⟨hx, .inr ⟨by rw [h]; exact hy, a, b, c, by rw [h]⟩⟩
theorem wz {b : Bool} {z c : Int} (hz : z = if b then c else 0) (h : z = 0) (hc : c ≠ 0) : b = false := by
 cases b with
 | false => rfl
 | true => rw [hz] at h; exact absurd h hc
theorem wn {b : Bool} {z c : Int} (hz : z = if b then c else 0) (h : z ≠ 0) : b = true ∧ z = c := by
 cases b with
 | true => exact ⟨rfl, hz⟩
 | false => rw [hz] at h; exact absurd rfl h
/-- what when leaves -/
def WhenP (W : World) (b : Bool) (x : Int) (e : Ending) (w' : World) : Prop := ∃ z : Int, z = (if b then x else 0) ∧ e = .returned (.int .i64 z) ∧ Ext W w'
theorem when_hid (b : Bool) (x : Int) (W : World) : Calls Tryz.prog 77 #[.bool b, .int .i64 x] W (WhenP W b x) := (when_any b x W).mono fun _ _ h => ⟨_, rfl, h.1, h.2⟩
theorem meta_same (hn : ByteArray) : (hn.toList == [109, 101, 116, 97]) = Hd.same hn Tj.metaN := by
 have e : Tj.metaN.toList = [109, 101, 116, 97] := by rw [ByteArray.toList_eq]; rfl
 unfold Hd.same; rw [e]
theorem climits_any {W : World} {p : Pg.PV} {F : Tj.FP} (hF : Tj.IsF W p F) : Calls Tryz.prog 40 #[p.val] W (Thr W (Tj.limE F)) := by
 obtain ⟨a1, a2, a3, a4, a5, a6, a7, a8, m1, m2, m3, m4, m5, m6, n7, m7, m8, hf⟩ := hF.form
 obtain ⟨rfl, hnm, hhs, hmd, hrs, has, hts, hss, hct, hdp, l1, l2, l3, l4, l5, l6, l7, l8⟩ := hf
 obtain ⟨R, hR⟩ : ∃ z, z = Tj.limE F := ⟨_, rfl⟩
 rw [← hR]
 unfold Tj.limE at hR
 dsimp only [Pg.PV.val]
 have HNM := Lh hnm
 have HR := Lh hR
 have bx := aH W (.cells (Yq0 F a1 m1 a2 m2 a3 m3 a4 m4 a5 m5 a6 m6 a7 m7 n7 a8 m8) 31)
 have k0 := alw (cQ 0 bx)
 have k1 := alw (cQ 1 bx)
 have k2 := alw (cQ 2 bx)
 have k3 := alw (cQ 3 bx)
 have k4 := alw (cQ 4 bx)
 have k5 := alw (cQ 5 bx)
 have k6 := alw (cQ 6 bx)
 have k7 := alw (cQ 7 bx)
 have k8 := alw (cQ 8 bx)
 clear bx
 clear hF hnm hhs hmd hrs has hts hss hct hdp
 clear hR
 go_enter Tryz.func40, Tryz.ntmps40
 go_wp2_with fail
 refine via (pident_any _ HNM.out _) fun w1 xw1 sw1 => ?_
 go_wp2_with fail
 refine (when_hid _ _ _).mono ?_
 rintro e wa0 ⟨z0, hw0, rfl, xwa0⟩
 have swa0 := Sm xwa0
 have HW0 := Lh hw0
 clear hw0
 go_wp2_with fail
 refine (require_any _ _ _ _ _).mono ?_
 rintro e wb0 ⟨xwb0, hz0 | hz0⟩
 rotate_left
 ·obtain ⟨hz0, a, b, c, rfl⟩ := hz0
  have swb0 := Sm xwb0
  exact ⟨rfl, thr_bad (by have h := wn HW0.out hz0; rw [h.2, HR.out, if_neg (by simpa using h.1)]) grows hz0⟩
 obtain ⟨hz0, rfl⟩ := hz0
 have swb0 := Sm xwb0
 have HG0 := Lh hz0
 clear hz0
 go_wp2_with fail
 refine (when_hid _ _ _).mono ?_
 rintro e wa1 ⟨z1, hw1, rfl, xwa1⟩
 have swa1 := Sm xwa1
 have HW1 := Lh hw1
 clear hw1
 go_wp2_with fail
 refine (require_any _ _ _ _ _).mono ?_
 rintro e wb1 ⟨xwb1, hz1 | hz1⟩
 rotate_left
 ·obtain ⟨hz1, a, b, c, rfl⟩ := hz1
  have swb1 := Sm xwb1
  exact ⟨rfl, thr_bad (by rw [HR.out, if_pos (by have h := wz HW0.out HG0.out (by decide); simpa using h), if_pos (by have h := of_decide_eq_true (wn HW1.out hz1).1; omega), (wn HW1.out hz1).2]) grows hz1⟩
 obtain ⟨hz1, rfl⟩ := hz1
 have swb1 := Sm xwb1
 have HG1 := Lh hz1
 clear hz1
 go_wp2_with fail
 refine (when_hid _ _ _).mono ?_
 rintro e wa2 ⟨z2, hw2, rfl, xwa2⟩
 have swa2 := Sm xwa2
 have HW2 := Lh hw2
 clear hw2
 go_wp2_with fail
 refine (require_any _ _ _ _ _).mono ?_
 rintro e wb2 ⟨xwb2, hz2 | hz2⟩
 rotate_left
 ·obtain ⟨hz2, a, b, c, rfl⟩ := hz2
  have swb2 := Sm xwb2
  exact ⟨rfl, thr_bad (by rw [HR.out, if_pos (by have h := wz HW0.out HG0.out (by decide); simpa using h), if_neg (by have h := of_decide_eq_false (wz HW1.out HG1.out (by decide)); omega), if_pos (by have h := of_decide_eq_true (wn HW2.out hz2).1; omega), (wn HW2.out hz2).2]) grows hz2⟩
 obtain ⟨hz2, rfl⟩ := hz2
 have swb2 := Sm xwb2
 have HG2 := Lh hz2
 clear hz2
 go_wp2_with fail
 refine (when_hid _ _ _).mono ?_
 rintro e wa3 ⟨z3, hw3, rfl, xwa3⟩
 have swa3 := Sm xwa3
 have HW3 := Lh hw3
 clear hw3
 go_wp2_with fail
 refine (require_any _ _ _ _ _).mono ?_
 rintro e wb3 ⟨xwb3, hz3 | hz3⟩
 rotate_left
 ·obtain ⟨hz3, a, b, c, rfl⟩ := hz3
  have swb3 := Sm xwb3
  exact ⟨rfl, thr_bad (by rw [HR.out, if_pos (by have h := wz HW0.out HG0.out (by decide); simpa using h), if_neg (by have h := of_decide_eq_false (wz HW1.out HG1.out (by decide)); omega), if_neg (by have h := of_decide_eq_false (wz HW2.out HG2.out (by decide)); omega), if_pos (by have h := of_decide_eq_true (wn HW3.out hz3).1; omega), (wn HW3.out hz3).2]) grows hz3⟩
 obtain ⟨hz3, rfl⟩ := hz3
 have swb3 := Sm xwb3
 have HG3 := Lh hz3
 clear hz3
 go_wp2_with fail
 refine (when_hid _ _ _).mono ?_
 rintro e wa4 ⟨z4, hw4, rfl, xwa4⟩
 have swa4 := Sm xwa4
 have HW4 := Lh hw4
 clear hw4
 go_wp2_with fail
 refine (require_any _ _ _ _ _).mono ?_
 rintro e wb4 ⟨xwb4, hz4 | hz4⟩
 rotate_left
 ·obtain ⟨hz4, a, b, c, rfl⟩ := hz4
  have swb4 := Sm xwb4
  exact ⟨rfl, thr_bad (by rw [HR.out, if_pos (by have h := wz HW0.out HG0.out (by decide); simpa using h), if_neg (by have h := of_decide_eq_false (wz HW1.out HG1.out (by decide)); omega), if_neg (by have h := of_decide_eq_false (wz HW2.out HG2.out (by decide)); omega), if_neg (by have h := of_decide_eq_false (wz HW3.out HG3.out (by decide)); omega), if_pos (by have h := of_decide_eq_true (wn HW4.out hz4).1; omega), (wn HW4.out hz4).2]) grows hz4⟩
 obtain ⟨hz4, rfl⟩ := hz4
 have swb4 := Sm xwb4
 have HG4 := Lh hz4
 clear hz4
 go_wp2_with fail
 first | go_end0 | skip
 refine thr_ok ?_ grows (by first | rfl | trivial)
 rw [HR.out, if_pos (by have h := wz HW0.out HG0.out (by decide); simpa using h), if_neg (by have h := of_decide_eq_false (wz HW1.out HG1.out (by decide)); omega), if_neg (by have h := of_decide_eq_false (wz HW2.out HG2.out (by decide)); omega), if_neg (by have h := of_decide_eq_false (wz HW3.out HG3.out (by decide)); omega), if_neg (by have h := of_decide_eq_false (wz HW4.out HG4.out (by decide)); omega)]
namespace Tj
def namedG {α : Type} (nm : α → ByteArray) (f : α → Int) (l : List α) (i : Nat) : Int := match l[i]? with | some x => if f x ≠ 0 then f x else if rep (l.map nm) i then 7 else 0 | none => 0
theorem namedE_eq {α : Type} (nm : α → ByteArray) (f : α → Int) (l : List α) : namedE nm f l = firstE (namedG nm f l) (List.range l.length) := rfl
theorem namedG_at {α : Type} {nm : α → ByteArray} {f : α → Int} {l : List α} {k : Nat} {x : α} (hk : l[k]? = some x) : namedG nm f l k = if f x ≠ 0 then f x else if rep (l.map nm) k then 7 else 0 := by
 unfold namedG; rw [hk]
theorem namedE_bad {α : Type} {nm : α → ByteArray} {f : α → Int} {l : List α} {k : Nat} {x : α} {y : Int} (hk : l[k]? = some x) (hz : ∀ j, j < k → namedG nm f l j = 0)
 (h : (if f x ≠ 0 then f x else if rep (l.map nm) k then 7 else 0) = y) (hy : y ≠ 0) : namedE nm f l = y := by
 have e : namedG nm f l k = y := by rw [namedG_at hk]; exact h
 rw [namedE_eq, rangeE_at (List.getElem?_eq_some_iff.1 hk).1 hz (by rw [e]; exact hy), e]
theorem namedE_zero {α : Type} {nm : α → ByteArray} {f : α → Int} {l : List α} (hz : ∀ j, j < l.length → namedG nm f l j = 0) : namedE nm f l = 0 := by
 rw [namedE_eq]; exact rangeE_zero hz
end Tj
theorem hdE_0 {hn : ByteArray} {fs : List Hd.Fld} (h1 : Hd.chk (hn, fs) = 0) (h2 : Hd.same hn Tj.metaN = false) : Tj.hdE (hn, fs) = 0 := by
 unfold Tj.hdE; rw [if_neg (by simpa using h1), if_neg (by rw [h2]; decide)]
theorem hdgood {hs : List Hd.Hdr} {k : Nat} {hn : ByteArray} {fs : List Hd.Fld} (hx : hs[k]? = some (hn, fs)) (h1 : Hd.chk (hn, fs) = 0) (h2 : Hd.same hn Tj.metaN = false) (h3 : Tj.rep (hs.map (fun h : Hd.Hdr => h.1)) k = false) : Tj.namedG (fun h : Hd.Hdr => h.1) Tj.hdE hs k = 0 := by
 rw [Tj.namedG_at hx, if_neg (by simpa using hdE_0 h1 h2), if_neg (by rw [h3]; decide)]
theorem hdbad2 {R z : Int} {hs : List Hd.Hdr} {k : Nat} {hn : ByteArray} {fs : List Hd.Fld} (hR : R = Tj.namedE (fun h : Hd.Hdr => h.1) Tj.hdE hs) (hx : hs[k]? = some (hn, fs)) (hz : ∀ j, j < k → Tj.namedG (fun h : Hd.Hdr => h.1) Tj.hdE hs j = 0) (h1 : Hd.chk (hn, fs) = 0)
 (hw : z = if (hn.toList == [109, 101, 116, 97]) then 6 else 0) (h : z ≠ 0) : R = z := by
 obtain ⟨h2, h3⟩ := wn hw h
 have e : Tj.hdE (hn, fs) = 6 := by unfold Tj.hdE; rw [if_neg (by simpa using h1), if_pos (by rw [← meta_same]; exact h2)]
 rw [hR]
 exact Tj.namedE_bad hx hz (by rw [e, if_pos (by decide), h3]) h
theorem hdbad3 {R z : Int} {hs : List Hd.Hdr} {k : Nat} {hn : ByteArray} {fs : List Hd.Fld} (hR : R = Tj.namedE (fun h : Hd.Hdr => h.1) Tj.hdE hs) (hx : hs[k]? = some (hn, fs)) (hz : ∀ j, j < k → Tj.namedG (fun h : Hd.Hdr => h.1) Tj.hdE hs j = 0) (h1 : Hd.chk (hn, fs) = 0) (h2 : Hd.same hn Tj.metaN = false)
 (hw : z = if Tj.rep (hs.map (fun h : Hd.Hdr => h.1)) k then 7 else 0) (h : z ≠ 0) : R = z := by
 obtain ⟨h3, h4⟩ := wn hw h
 rw [hR]
 exact Tj.namedE_bad hx hz (by rw [if_neg (by simpa using hdE_0 h1 h2), if_pos h3, h4]) h
theorem cheaders_any {W : World} {p : Pg.PV} {F : Tj.FP} (hF : Tj.IsF W p F) (hl : F.P.hs.length ≤ 8) : Calls Tryz.prog 41 #[p.val] W (Thr W (Tj.namedE (·.1) Tj.hdE F.P.hs)) := by
 obtain ⟨a1, a2, a3, a4, a5, a6, a7, a8, m1, m2, m3, m4, m5, m6, n7, m7, m8, hf⟩ := hF.form
 obtain ⟨rfl, hnm, hhs, hmd, hrs, has, hts, hss, hct, hdp, l1, l2, l3, l4, l5, l6, l7, l8⟩ := hf
 obtain ⟨R, hR⟩ : ∃ z, z = Tj.namedE (·.1) Tj.hdE F.P.hs := ⟨_, rfl⟩
 rw [← hR]
 dsimp only [Pg.PV.val]
 have HH := Lh hhs
 have HNS : Hid (∀ w, Ext W w → Calls Tryz.prog 79 #[.slice a1 F.P.hs.length m1, .func (.func 80) #[] #[]] w (StsP w (F.P.hs.map (fun h : Hd.Hdr => h.1)))) := Lh (fun w hx => namesHeader_any (hhs.ext (fun _ _ h => h.ext hx) hx) (by omega))
 have HR := Lh hR
 have hml : (F.P.hs.map (fun h : Hd.Hdr => h.1)).length = F.P.hs.length := List.length_map _
 have bx := aH W (.cells (Yq0 F a1 m1 a2 m2 a3 m3 a4 m4 a5 m5 a6 m6 a7 m7 n7 a8 m8) 31)
 have k0 := alw (cQ 0 bx)
 have k1 := alw (cQ 1 bx)
 have k2 := alw (cQ 2 bx)
 have k3 := alw (cQ 3 bx)
 have k4 := alw (cQ 4 bx)
 have k5 := alw (cQ 5 bx)
 have k6 := alw (cQ 6 bx)
 have k7 := alw (cQ 7 bx)
 have k8 := alw (cQ 8 bx)
 clear bx
 clear hF hnm hhs hmd hrs has hts hss hct hdp
 clear hR
 go_enter Tryz.func41, Tryz.ntmps41
 go_wp2_with fail
 refine (HNS.out _ grows).mono ?_
 rintro e w2 ⟨na, nc, rfl, x2, hst, hnc⟩
 have HST := Lh hst
 have s2 := Sm x2
 rw [hml] at HST hnc
 rw [hml]
 clear hst
 go_wp2_with fail
 go_loopw [11] (fun q wr => ∃ k : Nat, k ≤ F.P.hs.length ∧ q = .int .i64 k ∧ Hid (Ext w2 wr ∧ ∀ j, j < k → Tj.namedG (fun h : Hd.Hdr => h.1) Tj.hdE F.P.hs j = 0)) (fun q _ => F.P.hs.length - (intOf q).toNat)
 case atStart => exact ⟨0, Nat.zero_le _, rfl, Lh ⟨eR _, by intro j hj; omega⟩⟩
 case round =>
  obtain ⟨k, hk, rfl, HZ⟩ := hrel
  have sx : Step w2 wr := ⟨HZ.out.1⟩
  by_cases hlt : k < F.P.hs.length
  ·obtain ⟨⟨hn, fs⟩, hx⟩ : ∃ x, F.P.hs[k]? = some x := ⟨_, gE hlt⟩
   obtain ⟨b, o, rfl, _, _⟩ := Rows.at HH.out (by omega)
   obtain ⟨fa, fc, u0, u1, hns, hfs, _, _⟩ := hdrs_at HH.out k hn fs hx rfl
   have HX := Lh hx
   have HCK := Lh (fun (w : World) (hx : Ext W w) => hcheck_any (hn, fs) (hfs.ext hx) hns)
   have HRP := Lh (fun (w : World) (hx : Ext w2 w) => by
    have h := repeated_any (W := w) (oa := na) (c := nc) (l := F.P.hs.map (fun h : Hd.Hdr => h.1)) (by rw [hml]; exact HST.out.ext hx) (by rw [hml]; exact hnc) k (by rw [hml]; exact hlt)
    rw [hml] at h; exact h)
   obtain ⟨ck, hck⟩ : ∃ z, z = Hd.chk (hn, fs) := ⟨_, rfl⟩
   obtain ⟨rp, hrp⟩ : ∃ z, z = Tj.rep (F.P.hs.map (fun h : Hd.Hdr => h.1)) k := ⟨_, rfl⟩
   rw [← hck] at HCK
   rw [← hrp] at HRP
   have HCE := Lh hck
   have HRE := Lh hrp
   have bx := aH wr (.cells #[.string hn, .slice fa fs.length fc] 96)
   have m0 := alw (cQ 0 bx)
   have m1 := alw (cQ 1 bx)
   clear bx
   clear hx hfs hns hck hrp
   go_wp2_with fail
   refine via (HCK.out _ grows) fun w3 x3 s3 => ?_
   go_wp2_with fail
   refine (require_any _ _ _ _ _).mono ?_
   rintro e wb1 ⟨xwb1, hz1 | hz1⟩
   rotate_left
   ·obtain ⟨hz1, a, b, c, rfl⟩ := hz1
    have swb1 := Sm xwb1
    exact ⟨rfl, thr_bad (by rw [HR.out]; exact Tj.namedE_bad HX.out HZ.out.2 (by unfold Tj.hdE; rw [← HCE.out, if_pos hz1, if_pos hz1]) hz1) grows hz1⟩
   obtain ⟨hz1, rfl⟩ := hz1
   have swb1 := Sm xwb1
   have HG1 := Lh hz1
   clear hz1
   go_wp2_with fail
   refine (when_hid _ _ _).mono ?_
   rintro e wa2 ⟨z2, hw2, rfl, xwa2⟩
   have swa2 := Sm xwa2
   have HW2 := Lh hw2
   clear hw2
   go_wp2_with fail
   refine (require_any _ _ _ _ _).mono ?_
   rintro e wb2 ⟨xwb2, hz2 | hz2⟩
   rotate_left
   ·obtain ⟨hz2, a, b, c, rfl⟩ := hz2
    have swb2 := Sm xwb2
    exact ⟨rfl, thr_bad (hdbad2 HR.out HX.out HZ.out.2 (by rw [← HCE.out]; exact HG1.out) HW2.out hz2) grows hz2⟩
   obtain ⟨hz2, rfl⟩ := hz2
   have swb2 := Sm xwb2
   have HG2 := Lh hz2
   clear hz2
   go_wp2_with fail
   refine via (HRP.out _ grows) fun w8 x8 s8 => ?_
   go_wp2_with fail
   refine (when_hid _ _ _).mono ?_
   rintro e wa3 ⟨z3, hw3, rfl, xwa3⟩
   have swa3 := Sm xwa3
   have HW3 := Lh hw3
   clear hw3
   go_wp2_with fail
   refine (require_any _ _ _ _ _).mono ?_
   rintro e wb3 ⟨xwb3, hz3 | hz3⟩
   rotate_left
   ·obtain ⟨hz3, a, b, c, rfl⟩ := hz3
    have swb3 := Sm xwb3
    exact ⟨rfl, thr_bad (hdbad3 HR.out HX.out HZ.out.2 (by rw [← HCE.out]; exact HG1.out) (by rw [← meta_same]; exact wz HW2.out HG2.out (by decide)) (by rw [← HRE.out]; exact HW3.out) hz3) grows hz3⟩
   obtain ⟨hz3, rfl⟩ := hz3
   have swb3 := Sm xwb3
   have HG3 := Lh hz3
   clear hz3
   go_wp2_with fail
   go_roundw
   case rel =>
    refine ⟨k + 1, by omega, by go_num, Lh ⟨grows, fun j hj => ?_⟩⟩
    rcases Nat.lt_or_ge j k with h1 | h1
    ·exact HZ.out.2 j h1
    ·obtain rfl : j = k := by omega
     exact hdgood HX.out (by rw [← HCE.out]; exact HG1.out) (by rw [← meta_same]; exact wz HW2.out HG2.out (by decide)) (by rw [← HRE.out]; exact wz HW3.out HG3.out (by decide))
   case measure => simp [intOf]; omega
  ·obtain rfl : k = F.P.hs.length := by omega
   go_wp2_with fail
   first | go_end0 | skip
   exact thr_ok (by rw [HR.out]; exact Tj.namedE_zero HZ.out.2) grows (by first | rfl | trivial)
theorem mf_id {f : Hd.Fld} (h : Id.ok f.1 = false) : Tj.mfE f = 6 := by unfold Tj.mfE; rw [if_neg (by rw [h]; decide)]
theorem mf_wd {f : Hd.Fld} (h : Id.ok f.1 = true) (h2 : f.2 < 1 ∨ 32 < f.2) : Tj.mfE f = 10 := by unfold Tj.mfE; rw [if_pos h, if_pos h2]
theorem mf_0 {f : Hd.Fld} (h : Id.ok f.1 = true) (h2 : ¬ (f.2 < 1 ∨ 32 < f.2)) : Tj.mfE f = 0 := by unfold Tj.mfE; rw [if_pos h, if_neg h2]
theorem mdbad {z y : Int} {md : List Hd.Fld} {k : Nat} {f : Hd.Fld} (hx : md[k]? = some f) (hz : ∀ j, j < k → Tj.namedG (fun h : Hd.Fld => h.1) Tj.mfE md j = 0) (e : Tj.mfE f = y) (hy : y ≠ 0) (hzy : z = y) : Tj.namedE (fun h : Hd.Fld => h.1) Tj.mfE md = z := by
 subst hzy
 exact Tj.namedE_bad hx hz (by rw [e, if_pos hy]) hy
theorem mdrep {z : Int} {md : List Hd.Fld} {k : Nat} {f : Hd.Fld} (hx : md[k]? = some f) (hz : ∀ j, j < k → Tj.namedG (fun h : Hd.Fld => h.1) Tj.mfE md j = 0) (e : Tj.mfE f = 0) (hr : Tj.rep (md.map (fun h : Hd.Fld => h.1)) k = true) (hy : z ≠ 0) (hzy : z = 7) : Tj.namedE (fun h : Hd.Fld => h.1) Tj.mfE md = z :=
 Tj.namedE_bad hx hz (by rw [if_neg (by simp [e]), if_pos hr, hzy]) hy
theorem mdgood {md : List Hd.Fld} {k : Nat} {f : Hd.Fld} (hx : md[k]? = some f) (e : Tj.mfE f = 0) (hr : Tj.rep (md.map (fun h : Hd.Fld => h.1)) k = false) : Tj.namedG (fun h : Hd.Fld => h.1) Tj.mfE md k = 0 := by
 rw [Tj.namedG_at hx, if_neg (by simp [e]), if_neg (by rw [hr]; decide)]
theorem met_12 {md : List Hd.Fld} (h : 12 < md.length) : Tj.metE md = 12 := by unfold Tj.metE; rw [if_pos h]
theorem met_named {md : List Hd.Fld} {z : Int} (h : ¬ 12 < md.length) (e : Tj.namedE (fun h : Hd.Fld => h.1) Tj.mfE md = z) (hz : z ≠ 0) : Tj.metE md = z := by
 unfold Tj.metE; rw [if_neg h, if_pos (by rw [e]; exact hz), e]
theorem met_std {md : List Hd.Fld} (h : ¬ 12 < md.length) (e : Tj.namedE (fun h : Hd.Fld => h.1) Tj.mfE md = 0) : Tj.metE md = Tj.firstE (Tj.stdE md) (List.range 3) := by
 unfold Tj.metE; rw [if_neg h, if_neg (by rw [e]; simp)]; rfl
theorem std_out {md : List Hd.Fld} {k : Nat} (h : md.length ≤ k) : Tj.stdE md k = 5 := by
 unfold Tj.stdE; rw [List.getElem?_eq_none_iff.2 h]
theorem std_in {md : List Hd.Fld} {k : Nat} {f g : Hd.Fld} (h : md[k]? = some f) (hg : Tj.std[k]? = some g) : Tj.stdE md k = if Hd.same f.1 g.1 && f.2 == g.2 then 0 else 5 := by
 unfold Tj.stdE; rw [h, hg]
theorem index_std0 (w : World) : (Instr.index 169 (.agg #[.string ⟨#[105, 110]⟩, .int .i64 8, .string ⟨#[111, 117, 116]⟩, .int .i64 8, .string ⟨#[100, 114, 111, 112]⟩, .int .i64 1]) (.int .i64 0)).run Tryz.prog w = .ok (.agg #[.string ⟨#[105, 110]⟩, .int .i64 8]) w := by kernel_rfl
theorem index_std1 (w : World) : (Instr.index 169 (.agg #[.string ⟨#[105, 110]⟩, .int .i64 8, .string ⟨#[111, 117, 116]⟩, .int .i64 8, .string ⟨#[100, 114, 111, 112]⟩, .int .i64 1]) (.int .i64 1)).run Tryz.prog w = .ok (.agg #[.string ⟨#[111, 117, 116]⟩, .int .i64 8]) w := by kernel_rfl
theorem index_std2 (w : World) : (Instr.index 169 (.agg #[.string ⟨#[105, 110]⟩, .int .i64 8, .string ⟨#[111, 117, 116]⟩, .int .i64 8, .string ⟨#[100, 114, 111, 112]⟩, .int .i64 1]) (.int .i64 2)).run Tryz.prog w = .ok (.agg #[.string ⟨#[100, 114, 111, 112]⟩, .int .i64 1]) w := by kernel_rfl
theorem cmeta_any {W : World} {p : Pg.PV} {F : Tj.FP} (hF : Tj.IsF W p F) : Calls Tryz.prog 42 #[p.val] W (Thr W (Tj.metE F.P.md)) := by
 obtain ⟨a1, a2, a3, a4, a5, a6, a7, a8, m1, m2, m3, m4, m5, m6, n7, m7, m8, hf⟩ := hF.form
 obtain ⟨rfl, hnm, hhs, hmd, hrs, has, hts, hss, hct, hdp, l1, l2, l3, l4, l5, l6, l7, l8⟩ := hf
 obtain ⟨R, hR⟩ : ∃ z, z = Tj.metE F.P.md := ⟨_, rfl⟩
 rw [← hR]
 dsimp only [Pg.PV.val]
 have HH := Lh hmd
 have HNM : Hid (¬ 12 < F.P.md.length → ∀ w, Ext W w → Calls Tryz.prog 83 #[.slice a2 F.P.md.length m2, .func (.func 84) #[] #[]] w (StsP w (F.P.md.map (fun h : Hd.Fld => h.1)))) := Lh (fun h w hx => namesField_any (Hd.Flds.ext hmd hx) (by omega))
 have HR := Lh hR
 have hml : (F.P.md.map (fun h : Hd.Fld => h.1)).length = F.P.md.length := List.length_map _
 have bx := aH W (.cells (Yq0 F a1 m1 a2 m2 a3 m3 a4 m4 a5 m5 a6 m6 a7 m7 n7 a8 m8) 31)
 have k0 := alw (cQ 0 bx)
 have k1 := alw (cQ 1 bx)
 have k2 := alw (cQ 2 bx)
 have k3 := alw (cQ 3 bx)
 have k4 := alw (cQ 4 bx)
 have k5 := alw (cQ 5 bx)
 have k6 := alw (cQ 6 bx)
 have k7 := alw (cQ 7 bx)
 have k8 := alw (cQ 8 bx)
 clear bx
 clear hF hnm hhs hmd hrs has hts hss hct hdp
 clear hR
 go_enter Tryz.func42, Tryz.ntmps42
 go_wp2_with fail
 refine (when_hid _ _ _).mono ?_
 rintro e wa0 ⟨z0, hw0, rfl, xwa0⟩
 have swa0 := Sm xwa0
 have HW0 := Lh hw0
 clear hw0
 go_wp2_with fail
 refine (require_any _ _ _ _ _).mono ?_
 rintro e wb0 ⟨xwb0, hz0 | hz0⟩
 rotate_left
 ·obtain ⟨hz0, a, b, c, rfl⟩ := hz0
  have swb0 := Sm xwb0
  exact ⟨rfl, thr_bad (by rw [HR.out, met_12 (by have h := of_decide_eq_true (wn HW0.out hz0).1; omega), (wn HW0.out hz0).2]) grows hz0⟩
 obtain ⟨hz0, rfl⟩ := hz0
 have swb0 := Sm xwb0
 have HG0 := Lh hz0
 clear hz0
 go_wp2_with fail
 refine (HNM.out (by have h := of_decide_eq_false (wz HW0.out HG0.out (by decide)); omega) _ grows).mono ?_
 rintro e w2 ⟨na, nc, rfl, x2, hst, hnc⟩
 have HST := Lh hst
 have s2 := Sm x2
 rw [hml] at HST hnc
 rw [hml]
 clear hst
 go_wp2_with fail
 go_loopw [19] (fun q wr => ∃ k : Nat, k ≤ F.P.md.length ∧ q = .int .i64 k ∧ Hid (Ext w2 wr ∧ ∀ j, j < k → Tj.namedG (fun h : Hd.Fld => h.1) Tj.mfE F.P.md j = 0)) (fun q _ => F.P.md.length - (intOf q).toNat)
 case atStart => exact ⟨0, Nat.zero_le _, rfl, Lh ⟨eR _, by intro j hj; omega⟩⟩
 case round =>
  obtain ⟨k, hk, rfl, HZ⟩ := hrel
  have sx : Step w2 wr := ⟨HZ.out.1⟩
  by_cases hlt : k < F.P.md.length
  ·obtain ⟨⟨hn, fw⟩, hx⟩ : ∃ x, F.P.md[k]? = some x := ⟨_, gE hlt⟩
   obtain ⟨b, o, rfl, _, _⟩ := Rows.at HH.out (by omega)
   obtain ⟨u0, u1, hns, _⟩ := flds_at HH.out k hn fw hx rfl
   have HX := Lh hx
   have HNS := Lh hns
   have HRP := Lh (fun (w : World) (hx : Ext w2 w) => by
    have h := repeated_any (W := w) (oa := na) (c := nc) (l := (F.P.md.map (fun h : Hd.Fld => h.1))) (by rw [hml]; exact HST.out.ext hx) (by rw [hml]; exact hnc) k (by rw [hml]; exact hlt)
    rw [hml] at h; exact h)
   obtain ⟨rp, hrp⟩ : ∃ z, z = Tj.rep (F.P.md.map (fun h : Hd.Fld => h.1)) k := ⟨_, rfl⟩
   rw [← hrp] at HRP
   have HRE := Lh hrp
   have bx := aH wr (.cells #[.string hn, .int .i64 fw] 94)
   have m0 := alw (cQ 0 bx)
   have m1 := alw (cQ 1 bx)
   clear bx
   clear hx hns hrp
   go_wp2_with fail
   refine via (pident_any _ HNS.out _) fun w3 x3 s3 => ?_
   go_wp2_with fail
   refine (when_hid _ _ _).mono ?_
   rintro e wa1 ⟨z1, hw1, rfl, xwa1⟩
   have swa1 := Sm xwa1
   have HW1 := Lh hw1
   clear hw1
   go_wp2_with fail
   refine (require_any _ _ _ _ _).mono ?_
   rintro e wb1 ⟨xwb1, hz1 | hz1⟩
   rotate_left
   ·obtain ⟨hz1, a, b, c, rfl⟩ := hz1
    have swb1 := Sm xwb1
    exact ⟨rfl, thr_bad (by rw [HR.out]; exact met_named (by have h := of_decide_eq_false (wz HW0.out HG0.out (by decide)); omega) (mdbad HX.out HZ.out.2 (mf_id (by have h := (wn HW1.out hz1).1; simpa using h)) (by decide) (wn HW1.out hz1).2) hz1) grows hz1⟩
   obtain ⟨hz1, rfl⟩ := hz1
   have swb1 := Sm xwb1
   have HG1 := Lh hz1
   clear hz1
   go_wp2_with fail
   refine via (pwidth_any _ _) fun w7 x7 s7 => ?_
   go_wp2_with fail
   refine (when_hid _ _ _).mono ?_
   rintro e wa2 ⟨z2, hw2, rfl, xwa2⟩
   have swa2 := Sm xwa2
   have HW2 := Lh hw2
   clear hw2
   go_wp2_with fail
   refine (require_any _ _ _ _ _).mono ?_
   rintro e wb2 ⟨xwb2, hz2 | hz2⟩
   rotate_left
   ·obtain ⟨hz2, a, b, c, rfl⟩ := hz2
    have swb2 := Sm xwb2
    exact ⟨rfl, thr_bad (by rw [HR.out]; exact met_named (by have h := of_decide_eq_false (wz HW0.out HG0.out (by decide)); omega) (mdbad HX.out HZ.out.2 (mf_wd (by have h := wz HW1.out HG1.out (by decide); simpa using h) (by have h := (wn HW2.out hz2).1; simp at h; exact h)) (by decide) (wn HW2.out hz2).2) hz2) grows hz2⟩
   obtain ⟨hz2, rfl⟩ := hz2
   have swb2 := Sm xwb2
   have HG2 := Lh hz2
   clear hz2
   go_wp2_with fail
   refine via (HRP.out _ grows) fun w8 x8 s8 => ?_
   go_wp2_with fail
   refine (when_hid _ _ _).mono ?_
   rintro e wa3 ⟨z3, hw3, rfl, xwa3⟩
   have swa3 := Sm xwa3
   have HW3 := Lh hw3
   clear hw3
   go_wp2_with fail
   refine (require_any _ _ _ _ _).mono ?_
   rintro e wb3 ⟨xwb3, hz3 | hz3⟩
   rotate_left
   ·obtain ⟨hz3, a, b, c, rfl⟩ := hz3
    have swb3 := Sm xwb3
    exact ⟨rfl, thr_bad (by rw [HR.out]; exact met_named (by have h := of_decide_eq_false (wz HW0.out HG0.out (by decide)); omega) (mdrep HX.out HZ.out.2 (mf_0 (by have h := wz HW1.out HG1.out (by decide); simpa using h) (by have h := wz HW2.out HG2.out (by decide); simp at h; show ¬ (fw < 1 ∨ 32 < fw); omega)) (by rw [← HRE.out]; exact (wn HW3.out hz3).1) hz3 (wn HW3.out hz3).2) hz3) grows hz3⟩
   obtain ⟨hz3, rfl⟩ := hz3
   have swb3 := Sm xwb3
   have HG3 := Lh hz3
   clear hz3
   go_wp2_with fail
   go_roundw
   case rel =>
    refine ⟨k + 1, by omega, by go_num, Lh ⟨grows, fun j hj => ?_⟩⟩
    rcases Nat.lt_or_ge j k with h1 | h1
    ·exact HZ.out.2 j h1
    ·obtain rfl : j = k := by omega
     exact mdgood HX.out (mf_0 (by have h := wz HW1.out HG1.out (by decide); simpa using h) (by have h := wz HW2.out HG2.out (by decide); simp at h; show ¬ (fw < 1 ∨ 32 < fw); omega)) (by rw [← HRE.out]; exact wz HW3.out HG3.out (by decide))
   case measure => simp [intOf]; omega
  ·obtain rfl : k = F.P.md.length := by omega
   have HR2 : Hid (R = Tj.firstE (Tj.stdE F.P.md) (List.range 3)) := Lh (by rw [HR.out]; exact met_std (by have h := of_decide_eq_false (wz HW0.out HG0.out (by decide)); omega) (Tj.namedE_zero HZ.out.2))
   obtain ⟨w4, hw4⟩ : ∃ z : World, z = wr := ⟨_, rfl⟩
   subst hw4
   go_wp2_with fail
   go_loopw [47] (fun q wr => ∃ k : Nat, k ≤ 3 ∧ q = .int .i64 k ∧ Hid (Ext w4 wr ∧ ∀ j, j < k → Tj.stdE F.P.md j = 0)) (fun q _ => 3 - (intOf q).toNat)
   case atStart => exact ⟨0, Nat.zero_le _, rfl, Lh ⟨grows, by intro j hj; omega⟩⟩
   case round =>
    obtain ⟨k, hk, rfl, HZ2⟩ := hrel
    have sx : Step w4 wr := ⟨HZ2.out.1⟩
    by_cases hlt3 : k < 3
    ·rcases (show k = 0 ∨ k = 1 ∨ k = 2 by omega) with rfl | rfl | rfl
     ·rw [show ((0 : Nat) : Int) = 0 from rfl]
      have hix := index_std0
      have bx := aH wr (.cells #[.string ⟨#[105, 110]⟩, .int .i64 8] 94)
      have c0 := alw (cQ 0 bx)
      have c1 := alw (cQ 1 bx)
      clear bx
      by_cases ho : F.P.md.length ≤ 0
      ·have d5 : decide ((F.P.md.length : Int) ≤ 0) = true := dTt (by omega)
       have m0 : F.P.md = [] := List.eq_nil_of_length_eq_zero (by omega)
       have d6 : decide (F.P.md.length = 0) = true := dTt (by omega)
       have d7 : decide (F.P.md = []) = true := dTt m0
       clear m0
       have HSE : Hid (Tj.stdE F.P.md 0 = 5) := Lh (std_out ho)
       go_wp2_with fail
       refine wp_region_later_tail (W := wr.alloc (.cells #[.string ⟨#[105, 110]⟩, .int .i64 8] 94)) 16 (by kernel_rfl) (by kernel_rfl) grows ?_
       simp only [tkS, tkZ, dpS, dpZ]
       repeat (go_big_quiet_step (first | (go_at_call 77; exact Rets.later_at (when_any _ _ _)) | fail))
       refine wpQuiet_nil ?_
       intro w9 hx9
       have s9 := Sm hx9
       go_wp2_with fail
       refine (require_any _ _ _ _ _).mono ?_
       rintro e w10 ⟨x10, hz | hz⟩
       ·exact absurd hz.1 (by decide)
       ·obtain ⟨hz, a, b, c, rfl⟩ := hz
        have s10 := Sm x10
        exact ⟨rfl, thr_bad (by rw [HR2.out, rangeE_at (by decide) HZ2.out.2 (by rw [HSE.out]; decide), HSE.out]) grows hz⟩
      ·have d5 : decide ((F.P.md.length : Int) ≤ 0) = false := dF (by omega)
       have d6 : decide (F.P.md.length = 0) = false := dF (by omega)
       have d7 : decide (F.P.md = []) = false := dF (by intro e; apply ho; rw [e]; exact Nat.le_refl _)
       obtain ⟨⟨hn, fw⟩, hx⟩ : ∃ x, F.P.md[0]? = some x := ⟨_, gE (by omega)⟩
       obtain ⟨b2, o2, rfl, _, _⟩ := Rows.at HH.out (by omega)
       obtain ⟨u0, u1, _⟩ := flds_at HH.out 0 hn fw hx rfl
       rw [Nat.zero_mul, Nat.add_zero] at u0 u1
       have hse := std_in hx (show Tj.std[0]? = some (⟨#[105, 110]⟩, 8) from rfl)
       dsimp only at hse
       clear hx
       by_cases h1 : Hd.same hn ⟨#[105, 110]⟩ = true
       ·have e1 : (hn.toList == [105, 110]) = true := by rw [← h1]; unfold Hd.same; rw [show ((⟨#[105, 110]⟩ : ByteArray)).toList = [105, 110] by first | (rw [ByteArray.toList_eq]; done) | (rw [ByteArray.toList_eq]; rfl)]
        by_cases h2 : fw = 8
        ·subst h2
         have HSE : Hid (Tj.stdE F.P.md 0 = 0) := Lh (by rw [hse, h1]; rfl)
         clear h1 hse
         go_wp2_with fail
         refine wp_region_later_tail (W := wr.alloc (.cells #[.string ⟨#[105, 110]⟩, .int .i64 8] 94)) 16 (by kernel_rfl) (by kernel_rfl) grows ?_
         simp only [tkS, tkZ, dpS, dpZ]
         repeat (go_big_quiet_step (first | (go_at_call 77; exact Rets.later_at (when_any _ _ _)) | fail))
         refine wpQuiet_nil ?_
         intro w9 hx9
         have s9 := Sm hx9
         go_wp2_with fail
         refine (require_any _ _ _ _ _).mono ?_
         rintro e w10 ⟨x10, hz | hz⟩
         rotate_left
         ·exact absurd rfl hz.1
         obtain ⟨_, rfl⟩ := hz
         have s10 := Sm x10
         go_wp2_with fail
         go_roundw
         case rel =>
          refine ⟨1, by omega, by go_num, Lh ⟨grows, fun j hj => ?_⟩⟩
          rcases Nat.lt_or_ge j 0 with h1 | h1
          ·exact HZ2.out.2 j h1
          ·obtain rfl : j = 0 := by omega
           exact HSE.out
         case measure => simp [intOf]
        ·have e2 : (fw == 8) = false := bF h2
         have HSE : Hid (Tj.stdE F.P.md 0 = 5) := Lh (by rw [hse, e2, Bool.and_false]; rfl)
         clear h1 h2 hse
         go_wp2_with fail
         refine wp_region_later_tail (W := wr.alloc (.cells #[.string ⟨#[105, 110]⟩, .int .i64 8] 94)) 16 (by kernel_rfl) (by kernel_rfl) grows ?_
         simp only [tkS, tkZ, dpS, dpZ]
         repeat (go_big_quiet_step (first | (go_at_call 77; exact Rets.later_at (when_any _ _ _)) | fail))
         refine wpQuiet_nil ?_
         intro w9 hx9
         have s9 := Sm hx9
         go_wp2_with fail
         refine (require_any _ _ _ _ _).mono ?_
         rintro e w10 ⟨x10, hz | hz⟩
         ·exact absurd hz.1 (by decide)
         ·obtain ⟨hz, a, b, c, rfl⟩ := hz
          have s10 := Sm x10
          exact ⟨rfl, thr_bad (by rw [HR2.out, rangeE_at (by decide) HZ2.out.2 (by rw [HSE.out]; decide), HSE.out]) grows hz⟩
       ·have h1' : Hd.same hn ⟨#[105, 110]⟩ = false := by simpa using h1
        have e1 : (hn.toList == [105, 110]) = false := by rw [← h1']; unfold Hd.same; rw [show ((⟨#[105, 110]⟩ : ByteArray)).toList = [105, 110] by first | (rw [ByteArray.toList_eq]; done) | (rw [ByteArray.toList_eq]; rfl)]
        have HSE : Hid (Tj.stdE F.P.md 0 = 5) := Lh (by rw [hse, h1', Bool.false_and]; rfl)
        clear h1 h1' hse
        go_wp2_with fail
        refine wp_region_later_tail (W := wr.alloc (.cells #[.string ⟨#[105, 110]⟩, .int .i64 8] 94)) 16 (by kernel_rfl) (by kernel_rfl) grows ?_
        simp only [tkS, tkZ, dpS, dpZ]
        repeat (go_big_quiet_step (first | (go_at_call 77; exact Rets.later_at (when_any _ _ _)) | fail))
        refine wpQuiet_nil ?_
        intro w9 hx9
        have s9 := Sm hx9
        go_wp2_with fail
        refine (require_any _ _ _ _ _).mono ?_
        rintro e w10 ⟨x10, hz | hz⟩
        ·exact absurd hz.1 (by decide)
        ·obtain ⟨hz, a, b, c, rfl⟩ := hz
         have s10 := Sm x10
         exact ⟨rfl, thr_bad (by rw [HR2.out, rangeE_at (by decide) HZ2.out.2 (by rw [HSE.out]; decide), HSE.out]) grows hz⟩
     ·have hix := index_std1
      have bx := aH wr (.cells #[.string ⟨#[111, 117, 116]⟩, .int .i64 8] 94)
      have c0 := alw (cQ 0 bx)
      have c1 := alw (cQ 1 bx)
      clear bx
      by_cases ho : F.P.md.length ≤ 1
      ·have d5 : decide ((F.P.md.length : Int) ≤ 1) = true := dTt (by omega)
       have HSE : Hid (Tj.stdE F.P.md 1 = 5) := Lh (std_out ho)
       go_wp2_with fail
       refine wp_region_later_tail (W := wr.alloc (.cells #[.string ⟨#[111, 117, 116]⟩, .int .i64 8] 94)) 16 (by kernel_rfl) (by kernel_rfl) grows ?_
       simp only [tkS, tkZ, dpS, dpZ]
       repeat (go_big_quiet_step (first | (go_at_call 77; exact Rets.later_at (when_any _ _ _)) | fail))
       refine wpQuiet_nil ?_
       intro w9 hx9
       have s9 := Sm hx9
       go_wp2_with fail
       refine (require_any _ _ _ _ _).mono ?_
       rintro e w10 ⟨x10, hz | hz⟩
       ·exact absurd hz.1 (by decide)
       ·obtain ⟨hz, a, b, c, rfl⟩ := hz
        have s10 := Sm x10
        exact ⟨rfl, thr_bad (by rw [HR2.out, rangeE_at (by decide) HZ2.out.2 (by rw [HSE.out]; decide), HSE.out]) grows hz⟩
      ·have d5 : decide ((F.P.md.length : Int) ≤ 1) = false := dF (by omega)
       obtain ⟨⟨hn, fw⟩, hx⟩ : ∃ x, F.P.md[1]? = some x := ⟨_, gE (by omega)⟩
       obtain ⟨b2, o2, rfl, _, _⟩ := Rows.at HH.out (by omega)
       obtain ⟨u0, u1, _⟩ := flds_at HH.out 1 hn fw hx rfl
       skip
       have hse := std_in hx (show Tj.std[1]? = some (⟨#[111, 117, 116]⟩, 8) from rfl)
       dsimp only at hse
       clear hx
       by_cases h1 : Hd.same hn ⟨#[111, 117, 116]⟩ = true
       ·have e1 : (hn.toList == [111, 117, 116]) = true := by rw [← h1]; unfold Hd.same; rw [show ((⟨#[111, 117, 116]⟩ : ByteArray)).toList = [111, 117, 116] by first | (rw [ByteArray.toList_eq]; done) | (rw [ByteArray.toList_eq]; rfl)]
        by_cases h2 : fw = 8
        ·subst h2
         have HSE : Hid (Tj.stdE F.P.md 1 = 0) := Lh (by rw [hse, h1]; rfl)
         clear h1 hse
         go_wp2_with fail
         refine wp_region_later_tail (W := wr.alloc (.cells #[.string ⟨#[111, 117, 116]⟩, .int .i64 8] 94)) 16 (by kernel_rfl) (by kernel_rfl) grows ?_
         simp only [tkS, tkZ, dpS, dpZ]
         repeat (go_big_quiet_step (first | (go_at_call 77; exact Rets.later_at (when_any _ _ _)) | fail))
         refine wpQuiet_nil ?_
         intro w9 hx9
         have s9 := Sm hx9
         go_wp2_with fail
         refine (require_any _ _ _ _ _).mono ?_
         rintro e w10 ⟨x10, hz | hz⟩
         rotate_left
         ·exact absurd rfl hz.1
         obtain ⟨_, rfl⟩ := hz
         have s10 := Sm x10
         go_wp2_with fail
         go_roundw
         case rel =>
          refine ⟨2, by omega, by go_num, Lh ⟨grows, fun j hj => ?_⟩⟩
          rcases Nat.lt_or_ge j 1 with h1 | h1
          ·exact HZ2.out.2 j h1
          ·obtain rfl : j = 1 := by omega
           exact HSE.out
         case measure => simp [intOf]
        ·have e2 : (fw == 8) = false := bF h2
         have HSE : Hid (Tj.stdE F.P.md 1 = 5) := Lh (by rw [hse, e2, Bool.and_false]; rfl)
         clear h1 h2 hse
         go_wp2_with fail
         refine wp_region_later_tail (W := wr.alloc (.cells #[.string ⟨#[111, 117, 116]⟩, .int .i64 8] 94)) 16 (by kernel_rfl) (by kernel_rfl) grows ?_
         simp only [tkS, tkZ, dpS, dpZ]
         repeat (go_big_quiet_step (first | (go_at_call 77; exact Rets.later_at (when_any _ _ _)) | fail))
         refine wpQuiet_nil ?_
         intro w9 hx9
         have s9 := Sm hx9
         go_wp2_with fail
         refine (require_any _ _ _ _ _).mono ?_
         rintro e w10 ⟨x10, hz | hz⟩
         ·exact absurd hz.1 (by decide)
         ·obtain ⟨hz, a, b, c, rfl⟩ := hz
          have s10 := Sm x10
          exact ⟨rfl, thr_bad (by rw [HR2.out, rangeE_at (by decide) HZ2.out.2 (by rw [HSE.out]; decide), HSE.out]) grows hz⟩
       ·have h1' : Hd.same hn ⟨#[111, 117, 116]⟩ = false := by simpa using h1
        have e1 : (hn.toList == [111, 117, 116]) = false := by rw [← h1']; unfold Hd.same; rw [show ((⟨#[111, 117, 116]⟩ : ByteArray)).toList = [111, 117, 116] by first | (rw [ByteArray.toList_eq]; done) | (rw [ByteArray.toList_eq]; rfl)]
        have HSE : Hid (Tj.stdE F.P.md 1 = 5) := Lh (by rw [hse, h1', Bool.false_and]; rfl)
        clear h1 h1' hse
        go_wp2_with fail
        refine wp_region_later_tail (W := wr.alloc (.cells #[.string ⟨#[111, 117, 116]⟩, .int .i64 8] 94)) 16 (by kernel_rfl) (by kernel_rfl) grows ?_
        simp only [tkS, tkZ, dpS, dpZ]
        repeat (go_big_quiet_step (first | (go_at_call 77; exact Rets.later_at (when_any _ _ _)) | fail))
        refine wpQuiet_nil ?_
        intro w9 hx9
        have s9 := Sm hx9
        go_wp2_with fail
        refine (require_any _ _ _ _ _).mono ?_
        rintro e w10 ⟨x10, hz | hz⟩
        ·exact absurd hz.1 (by decide)
        ·obtain ⟨hz, a, b, c, rfl⟩ := hz
         have s10 := Sm x10
         exact ⟨rfl, thr_bad (by rw [HR2.out, rangeE_at (by decide) HZ2.out.2 (by rw [HSE.out]; decide), HSE.out]) grows hz⟩
     ·have hix := index_std2
      have bx := aH wr (.cells #[.string ⟨#[100, 114, 111, 112]⟩, .int .i64 1] 94)
      have c0 := alw (cQ 0 bx)
      have c1 := alw (cQ 1 bx)
      clear bx
      by_cases ho : F.P.md.length ≤ 2
      ·have d5 : decide ((F.P.md.length : Int) ≤ 2) = true := dTt (by omega)
       have HSE : Hid (Tj.stdE F.P.md 2 = 5) := Lh (std_out ho)
       go_wp2_with fail
       refine wp_region_later_tail (W := wr.alloc (.cells #[.string ⟨#[100, 114, 111, 112]⟩, .int .i64 1] 94)) 16 (by kernel_rfl) (by kernel_rfl) grows ?_
       simp only [tkS, tkZ, dpS, dpZ]
       repeat (go_big_quiet_step (first | (go_at_call 77; exact Rets.later_at (when_any _ _ _)) | fail))
       refine wpQuiet_nil ?_
       intro w9 hx9
       have s9 := Sm hx9
       go_wp2_with fail
       refine (require_any _ _ _ _ _).mono ?_
       rintro e w10 ⟨x10, hz | hz⟩
       ·exact absurd hz.1 (by decide)
       ·obtain ⟨hz, a, b, c, rfl⟩ := hz
        have s10 := Sm x10
        exact ⟨rfl, thr_bad (by rw [HR2.out, rangeE_at (by decide) HZ2.out.2 (by rw [HSE.out]; decide), HSE.out]) grows hz⟩
      ·have d5 : decide ((F.P.md.length : Int) ≤ 2) = false := dF (by omega)
       obtain ⟨⟨hn, fw⟩, hx⟩ : ∃ x, F.P.md[2]? = some x := ⟨_, gE (by omega)⟩
       obtain ⟨b2, o2, rfl, _, _⟩ := Rows.at HH.out (by omega)
       obtain ⟨u0, u1, _⟩ := flds_at HH.out 2 hn fw hx rfl
       skip
       have hse := std_in hx (show Tj.std[2]? = some (⟨#[100, 114, 111, 112]⟩, 1) from rfl)
       dsimp only at hse
       clear hx
       by_cases h1 : Hd.same hn ⟨#[100, 114, 111, 112]⟩ = true
       ·have e1 : (hn.toList == [100, 114, 111, 112]) = true := by rw [← h1]; unfold Hd.same; rw [show ((⟨#[100, 114, 111, 112]⟩ : ByteArray)).toList = [100, 114, 111, 112] by first | (rw [ByteArray.toList_eq]; done) | (rw [ByteArray.toList_eq]; rfl)]
        by_cases h2 : fw = 1
        ·subst h2
         have HSE : Hid (Tj.stdE F.P.md 2 = 0) := Lh (by rw [hse, h1]; rfl)
         clear h1 hse
         go_wp2_with fail
         refine wp_region_later_tail (W := wr.alloc (.cells #[.string ⟨#[100, 114, 111, 112]⟩, .int .i64 1] 94)) 16 (by kernel_rfl) (by kernel_rfl) grows ?_
         simp only [tkS, tkZ, dpS, dpZ]
         repeat (go_big_quiet_step (first | (go_at_call 77; exact Rets.later_at (when_any _ _ _)) | fail))
         refine wpQuiet_nil ?_
         intro w9 hx9
         have s9 := Sm hx9
         go_wp2_with fail
         refine (require_any _ _ _ _ _).mono ?_
         rintro e w10 ⟨x10, hz | hz⟩
         rotate_left
         ·exact absurd rfl hz.1
         obtain ⟨_, rfl⟩ := hz
         have s10 := Sm x10
         go_wp2_with fail
         go_roundw
         case rel =>
          refine ⟨3, by omega, by go_num, Lh ⟨grows, fun j hj => ?_⟩⟩
          rcases Nat.lt_or_ge j 2 with h1 | h1
          ·exact HZ2.out.2 j h1
          ·obtain rfl : j = 2 := by omega
           exact HSE.out
         case measure => simp [intOf]
        ·have e2 : (fw == 1) = false := bF h2
         have HSE : Hid (Tj.stdE F.P.md 2 = 5) := Lh (by rw [hse, e2, Bool.and_false]; rfl)
         clear h1 h2 hse
         go_wp2_with fail
         refine wp_region_later_tail (W := wr.alloc (.cells #[.string ⟨#[100, 114, 111, 112]⟩, .int .i64 1] 94)) 16 (by kernel_rfl) (by kernel_rfl) grows ?_
         simp only [tkS, tkZ, dpS, dpZ]
         repeat (go_big_quiet_step (first | (go_at_call 77; exact Rets.later_at (when_any _ _ _)) | fail))
         refine wpQuiet_nil ?_
         intro w9 hx9
         have s9 := Sm hx9
         go_wp2_with fail
         refine (require_any _ _ _ _ _).mono ?_
         rintro e w10 ⟨x10, hz | hz⟩
         ·exact absurd hz.1 (by decide)
         ·obtain ⟨hz, a, b, c, rfl⟩ := hz
          have s10 := Sm x10
          exact ⟨rfl, thr_bad (by rw [HR2.out, rangeE_at (by decide) HZ2.out.2 (by rw [HSE.out]; decide), HSE.out]) grows hz⟩
       ·have h1' : Hd.same hn ⟨#[100, 114, 111, 112]⟩ = false := by simpa using h1
        have e1 : (hn.toList == [100, 114, 111, 112]) = false := by rw [← h1']; unfold Hd.same; rw [show ((⟨#[100, 114, 111, 112]⟩ : ByteArray)).toList = [100, 114, 111, 112] by first | (rw [ByteArray.toList_eq]; done) | (rw [ByteArray.toList_eq]; rfl)]
        have HSE : Hid (Tj.stdE F.P.md 2 = 5) := Lh (by rw [hse, h1', Bool.false_and]; rfl)
        clear h1 h1' hse
        go_wp2_with fail
        refine wp_region_later_tail (W := wr.alloc (.cells #[.string ⟨#[100, 114, 111, 112]⟩, .int .i64 1] 94)) 16 (by kernel_rfl) (by kernel_rfl) grows ?_
        simp only [tkS, tkZ, dpS, dpZ]
        repeat (go_big_quiet_step (first | (go_at_call 77; exact Rets.later_at (when_any _ _ _)) | fail))
        refine wpQuiet_nil ?_
        intro w9 hx9
        have s9 := Sm hx9
        go_wp2_with fail
        refine (require_any _ _ _ _ _).mono ?_
        rintro e w10 ⟨x10, hz | hz⟩
        ·exact absurd hz.1 (by decide)
        ·obtain ⟨hz, a, b, c, rfl⟩ := hz
         have s10 := Sm x10
         exact ⟨rfl, thr_bad (by rw [HR2.out, rangeE_at (by decide) HZ2.out.2 (by rw [HSE.out]; decide), HSE.out]) grows hz⟩
    ·obtain rfl : k = 3 := by omega
     go_wp2_with fail
     first | go_end0 | skip
     exact thr_ok (by rw [HR2.out]; exact rangeE_zero HZ2.out.2) grows (by first | rfl | trivial)
end Go.Proofs.YthmokhkkdgnbhaaGreat
