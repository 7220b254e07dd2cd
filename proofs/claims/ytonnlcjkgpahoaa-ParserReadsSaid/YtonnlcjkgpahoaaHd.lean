/- Headers: their data, and the small functions of package header and of its reference, walked. No condition. -/
import Derived.Test.YtonnlcjkgpahoaaId
import Derived.Test.YtonnlcjkgpahoaaAlw
import Derived.Test.YtonnlcjkgpahoaaIoL3
namespace Go.Proofs.Ytonnlcjkgpahoaa
open Go.RowKit

theorem ret_int {k : IntKind} {a b : Int} (h : a = b) : Ending.returned (.int k a) = .returned (.int k b) := by rw [h]
theorem ret_bool {a b : Bool} (h : a = b) : Ending.returned (.bool a) = .returned (.bool b) := by rw [h]

namespace Hd
abbrev Fld := ByteArray × Int
abbrev Hdr := ByteArray × List Fld
def same (a b : ByteArray) : Bool := a.toList == b.toList
theorem same_iff (a b : ByteArray) : same a b = true ↔ a = b := by
  unfold same
  rw [beq_iff_eq]
  constructor
  · intro h; rw [ByteArray.toList_eq, ByteArray.toList_eq] at h
    cases a; cases b; congr 1; exact Array.ext' h
  · intro h; rw [h]
def FieldR (_w : World) (cs : List Value) (d : Fld) : Prop := cs = [.string d.1, .int .i64 d.2] ∧ d.1.size ≤ maxLen ∧ -9223372036854775808 ≤ d.2 ∧ d.2 ≤ 9223372036854775807
/-- the fields of a header: a slice of them -/
abbrev Flds (w : World) (v : Value) (fs : List Fld) : Prop := Rows w 2 FieldR v fs
theorem Flds.ext {w w' : World} {v : Value} {fs : List Fld} (h : Flds w v fs) (hx : Ext w w') : Flds w' v fs := Rows.ext h (fun _ _ h => h) hx
def HdrR (w : World) (cs : List Value) (d : Hdr) : Prop := ∃ v, cs = [.string d.1, v] ∧ d.1.size ≤ maxLen ∧ Flds w v d.2
theorem HdrR.ext {w w' : World} {cs : List Value} {d : Hdr} (h : HdrR w cs d) (hx : Ext w w') : HdrR w' cs d := by
  obtain ⟨v, h1, h2, h3⟩ := h; exact ⟨v, h1, h2, h3.ext hx⟩
def fE : List Fld → List Fld → Int
  | _, [] => 0
  | pre, f :: fs => if Id.ok f.1 then (if f.2 < 1 ∨ 32 < f.2 then 10 else if pre.any (fun g => same g.1 f.1) then 7 else fE (pre ++ [f]) fs) else 6
def tot (ns : List Int) : Int := ns.sum
def wds (fs : List Fld) : List Int := fs.map (·.2)
def chk (h : Hdr) : Int := if Id.ok h.1 then (if h.2.length = 0 then 8 else if 12 < h.2.length then 12 else if fE [] h.2 = 0 then (if tot (wds h.2) % 8 = 0 then 0 else 10) else fE [] h.2) else 6
def bts (h : Hdr) : Int := if chk h = 0 then tot (wds h.2) else 0
def fidx (nm : ByteArray) : List Fld → Option Nat
  | [] => none
  | f :: fs => if same f.1 nm then some 0 else (fidx nm fs).map (· + 1)
def fiN (h : Hdr) (nm : ByteArray) : Int := ((fidx nm h.2).getD 0 : Nat)
def fiB (h : Hdr) (nm : ByteArray) : Bool := (fidx nm h.2).isSome
def Wd (ns : List Int) : Prop := ∀ n ∈ ns, 1 ≤ n ∧ n ≤ 32
theorem tot_snoc (ns : List Int) (n : Int) : tot (ns ++ [n]) = tot ns + n := by simp [tot]
theorem tot_bd {ns : List Int} (h : Wd ns) : 0 ≤ tot ns ∧ tot ns ≤ 32 * ns.length := by
  induction ns with
  | nil => simp [tot]
  | cons n ns ih =>
    have h1 := h n (by simp)
    have h2 := ih (fun m hm => h m (by simp [hm]))
    simp only [tot, List.sum_cons, List.length_cons] at *
    omega
theorem fE_ok : ∀ (fs pre : List Fld), fE pre fs = 0 → Wd (wds fs)
  | [], _, _ => by intro n hn; simp [wds] at hn
  | f :: fs, pre, h => by
    unfold fE at h
    by_cases h1 : Id.ok f.1 = true
    · rw [if_pos h1] at h
      by_cases h2 : f.2 < 1 ∨ 32 < f.2
      · rw [if_pos h2] at h; simp at h
      · rw [if_neg h2] at h
        by_cases h3 : pre.any (fun g => same g.1 f.1) = true
        · rw [if_pos h3] at h; simp at h
        · rw [if_neg h3] at h
          have ih := fE_ok fs _ h
          intro n hn
          simp only [wds, List.map_cons, List.mem_cons] at hn
          rcases hn with rfl | hn
          · omega
          · exact ih n hn
    · rw [if_neg h1] at h; simp at h
theorem chk_ok {h : Hdr} (hc : chk h = 0) : Id.ok h.1 = true ∧ 1 ≤ h.2.length ∧ h.2.length ≤ 12 ∧ Wd (wds h.2) ∧ tot (wds h.2) % 8 = 0 := by
  unfold chk at hc
  by_cases h1 : Id.ok h.1 = true
  · rw [if_pos h1] at hc
    by_cases h2 : h.2.length = 0
    · rw [if_pos h2] at hc; simp at hc
    · rw [if_neg h2] at hc
      by_cases h3 : 12 < h.2.length
      · rw [if_pos h3] at hc; simp at hc
      · rw [if_neg h3] at hc
        by_cases h4 : fE [] h.2 = 0
        · rw [if_pos h4] at hc
          by_cases h5 : tot (wds h.2) % 8 = 0
          · exact ⟨h1, by omega, by omega, fE_ok _ _ h4, h5⟩
          · rw [if_neg h5] at hc; simp at hc
        · rw [if_neg h4] at hc; exact absurd hc h4
  · rw [if_neg h1] at hc; simp at hc
theorem wds_len (fs : List Fld) : (wds fs).length = fs.length := by simp [wds]
end Hd

/-- the place of an element, in the walk's spelling -/
theorem flds_at {w : World} {b o n c : Nat} {fs : List Hd.Fld} {oa : Option Addr} (h : Hd.Flds w (.slice oa n c) fs) (k : Nat) (nm : ByteArray) (x : Int) (hk : fs[k]? = some (nm, x)) (hoa : oa = some ⟨b, o, none⟩) :
    (∀ w' [Grows w w'], w'.cell? ⟨b, o + k * 2, none⟩ = some (.string nm)) ∧ (∀ w' [Grows w w'], w'.cell? ⟨b, o + k * 2 + 1, none⟩ = some (.int .i64 x)) ∧ nm.size ≤ maxLen ∧ -9223372036854775808 ≤ x ∧ x ≤ 9223372036854775807 := by
  have hlt := (List.getElem?_eq_some_iff.1 hk).1
  obtain ⟨b', o', hb, hn, hc⟩ := Rows.at h (by omega)
  rw [hb] at hoa
  simp only [Option.some.injEq, Addr.mk.injEq, and_true] at hoa
  obtain ⟨rfl, rfl⟩ := hoa
  obtain ⟨cs, _, ⟨rfl, h1, h2, h3⟩, hcs⟩ := hc k _ hk
  exact ⟨alw (hcs 0 _ rfl), alw (hcs 1 _ rfl), h1, h2, h3⟩

theorem sum_any {v : Value} {W : World} (ns : List Int) (hs : Src W v 1 ns.length (i64s ns)) (hn : Hd.Wd ns) (hl : ns.length ≤ 1000) :
    Calls Try.prog 95 #[v] W fun e W' => e = .returned (.int .i64 (Hd.tot ns)) ∧ W = W' := by
  obtain ⟨oa, c, rfl, hna⟩ := hs.slice
  have HS := Lib.hid hs
  have HN := Lib.hid hn
  have HNA := Lib.hid hna
  clear hs hn hna
  go_enter Try.func95, Try.ntmps95
  go_wp2
  go_loop [3, 8] (fun t i => ∃ k : Nat, k ≤ ns.length ∧ i = .int .i64 k ∧ t = .int .i64 (Hd.tot (ns.take k))) (fun _ i => ns.length - (intOf i).toNat)
  case atStart => exact ⟨0, Nat.zero_le _, rfl, rfl⟩
  case round =>
    obtain ⟨k, hk, rfl, rfl⟩ := hrel
    by_cases hlt : k < ns.length
    · obtain ⟨x, hx⟩ : ∃ x, ns[k]? = some x := ⟨_, List.getElem?_eq_getElem hlt⟩
      have hxb := HN.out x (List.mem_of_getElem? hx)
      have htb := Hd.tot_bd (ns := ns.take k) (fun n hn => HN.out n (List.mem_of_mem_take hn))
      have hlen : (ns.take k).length = k := by rw [List.length_take]; omega
      rw [hlen] at htb
      have hsn : Hd.tot (ns.take (k + 1)) = Hd.tot (ns.take k) + x := by
        rw [← Hd.tot_snoc]; congr 1; rw [List.take_add_one, hx]; rfl
      have HSN := Lib.hid hsn
      cases oa with
      | none => have := HNA.out rfl; omega
      | some ad =>
      obtain ⟨ea, _, ca⟩ := HS.out.at (by omega)
      obtain ⟨ab, ao, asp⟩ := ad
      simp only [Addr.mk.injEq, true_and] at ea
      subst ea
      dsimp only at ca
      have f1 := ca k _ (i64s_get hx)
      clear ca hx hlen hsn
      go_wp2
      go_round
      case rel => exact ⟨k + 1, by omega, by go_num, by rw [HSN.out]⟩
      case measure => simp [intOf]; omega
    · obtain rfl : k = ns.length := by omega
      rw [List.take_length]
      go_wp2
      go_ret
      exact ⟨rfl, rfl⟩

theorem widths_any {W : World} (nm : ByteArray) {v : Value} (fs : List Hd.Fld) (hs : Hd.Flds W v fs) (hl : fs.length ≤ 1000) :
    Calls Try.prog 71 #[.agg #[.string nm, v]] W fun e W' => ∃ u, e = .returned u ∧ Ext W W' ∧ W'.ownsRow W.heap.size 3 1 u (Hd.wds fs).length (i64s (Hd.wds fs)) := by
  obtain ⟨oa, c, rfl, hlc, hcm⟩ := hs.slice
  unfold maxLen at hcm
  have HS := Lib.hid hs
  clear hs
  have b0 := alloc_heap W (.cells #[.string nm, .slice oa fs.length c] 72)
  have c1 := alw (cell_of (o := 1) b0)
  clear b0
  go_enter Try.func71, Try.ntmps71
  go_wp2_with fail
  go_loopw [3, 9] (fun o i wr => ∃ k : Nat, k ≤ fs.length ∧ i = .int .i64 k ∧ Ext (W.alloc (.cells #[.string nm, .slice oa fs.length c] 72)) wr ∧ wr.ownsRow W.heap.size 3 1 o k (i64s (Hd.wds (fs.take k)))) (fun _ i _ => fs.length - (intOf i).toNat)
  case atStart => exact ⟨0, Nat.zero_le _, rfl, Ext.refl _, World.ownsRow_nil _ _ _ _⟩
  case round =>
    obtain ⟨k, hk, rfl, hx, ho⟩ := hrel
    obtain ⟨oo, co, rfl⟩ := own_slice ho
    have sx : Step (W.alloc (.cells #[.string nm, .slice oa fs.length c] 72)) wr := ⟨hx⟩
    have HO := Lib.hid ho
    clear ho hx
    by_cases hlt : k < fs.length
    · obtain ⟨⟨nk, x⟩, hxk⟩ : ∃ x, fs[k]? = some x := ⟨_, List.getElem?_eq_getElem hlt⟩
      obtain ⟨b, o, hoa, _, _⟩ := Rows.at HS.out (by omega)
      subst hoa
      obtain ⟨f0, f1, hns, hx1, hx2⟩ := flds_at HS.out k nk x hxk rfl
      have hsn : Hd.wds (fs.take (k + 1)) = Hd.wds (fs.take k) ++ [x] := by
        unfold Hd.wds; rw [List.take_add_one, hxk]; simp
      have HSN := Lib.hid hsn
      have hle : W.heap.size ≤ wr.heap.size := grows_le
      have hs1 := src_one (wr.alloc (.cells #[.string nk, .int .i64 x] 84)) (.int .i64 x) 3 rfl
      rw [World.size_alloc] at hs1
      have HS1 := Lib.hid hs1
      have HO1 := Lib.hid (own_now HO.out (w := (wr.alloc (.cells #[.string nk, .int .i64 x] 84)).alloc (.cells #[.int .i64 x] 3)))
      clear hxk hsn hs1
      go_wp2_with (at_builtin; refine wpList_append_fresh rfl (.tmp 13) (.tmp 16) 29 rfl W.heap.size 3 (.int .i64 0) 1 8 Try.underlying29 info_i64 rfl (by decide) _ k (i64s (Hd.wds (fs.take k))) rfl HO1.out _ 1 [.int .i64 x] rfl HS1.out ?d1 ?d2 ?d3 ?_)
      case d1 => unfold maxLen; omega
      case d2 => omega
      case d3 => (try simp); omega
      intro v' w' hown hgr _
      have hx3 : Ext (W.alloc (.cells #[.string nm, .slice (some ⟨b, o, none⟩) fs.length c] 72)) w' := by
        have h1 : Ext (W.alloc (.cells #[.string nm, .slice (some ⟨b, o, none⟩) fs.length c] 72)) ((wr.alloc (.cells #[.string nk, .int .i64 x] 84)).alloc (.cells #[.int .i64 x] 3)) := grows
        refine h1.mod (grown_mod hgr) (fun q hq => ?_)
        obtain ⟨cur, hc⟩ := own_type HO1.out hq.symm
        have h2 := (HO1.out.lt q hq.symm).1
        rcases Nat.lt_or_ge q (W.heap.size + 1) with h3 | h3
        · obtain rfl : q = W.heap.size := by omega
          have h4 := h1.heap (alloc_heap W (.cells #[.string nm, .slice (some ⟨b, o, none⟩) fs.length c] 72))
          exact absurd rfl (ne_of_type hc h4 (by decide))
        · simpa using h3
      have HX3 := Lib.hid hx3
      have HA3 := Lib.hid hown
      clear hgr hown hx3
      go_wp2
      go_roundw
      case rel => exact ⟨k + 1, by omega, by go_num, HX3.out, by rw [HSN.out]; simpa [i64s] using HA3.out⟩
      case measure => simp [intOf]; omega
    · obtain rfl : k = fs.length := by omega
      go_wp2
      go_ret
      refine ⟨_, rfl, grows, ?_⟩
      have := HO.out
      rw [List.take_length] at this
      rw [Hd.wds_len]
      exact this
end Go.Proofs.Ytonnlcjkgpahoaa
