/- Headers: FieldIndex of the package and of its reference, and Small, walked. No condition. -/
import Derived.Test.YtonnlcjkgpahoaaHd
namespace Go.Proofs.Ytonnlcjkgpahoaa
open Go.RowKit

namespace Hd
theorem fidx_skip {nm : ByteArray} {fs : List Fld} {k : Nat} {f : Fld} (hk : fs[k]? = some f) (hf : same f.1 nm = false) (h : fidx nm fs = (fidx nm (fs.drop k)).map (· + k)) : fidx nm fs = (fidx nm (fs.drop (k + 1))).map (· + (k + 1)) := by
  rw [h, drop_cons hk]
  simp only [fidx, hf]
  cases fidx nm (fs.drop (k + 1)) <;> simp <;> omega
theorem fidx_hit {nm : ByteArray} {fs : List Fld} {k : Nat} {f : Fld} (hk : fs[k]? = some f) (hf : same f.1 nm = true) (h : fidx nm fs = (fidx nm (fs.drop k)).map (· + k)) : fidx nm fs = some k := by
  rw [h, drop_cons hk]
  simp [fidx, hf]
end Hd
theorem rfieldIndex_any {W : World} (h : Hd.Hdr) {v : Value} (nm : ByteArray) (hs : Hd.Flds W v h.2) :
    Calls Try.prog 62 #[.agg #[.string h.1, v], .string nm] W (Rets W (.tuple #[.int .i64 (Hd.fiN h nm), .bool (Hd.fiB h nm)])) := by
  obtain ⟨hn, fs⟩ := h
  dsimp only at hs ⊢
  obtain ⟨oa, c, rfl, hlc, hcm⟩ := hs.slice
  unfold maxLen at hcm
  have HS := Lib.hid hs
  clear hs
  have c1 := alw (cell_of (o := 1) (alloc_heap W (.cells #[.string hn, .slice oa fs.length c] 72)))
  go_enter Try.func62, Try.ntmps62
  go_wp2_with fail
  go_loop [6] (fun i => ∃ k : Nat, k ≤ fs.length ∧ i = .int .i64 k ∧ Hid (Hd.fidx nm fs = (Hd.fidx nm (fs.drop k)).map (· + k))) (fun i => fs.length - (intOf i).toNat)
  case atStart => exact ⟨0, Nat.zero_le _, rfl, Lib.hid (by simp)⟩
  case round =>
    obtain ⟨k, hk, rfl, HI⟩ := hrel
    by_cases hlt : k < fs.length
    · obtain ⟨⟨nk, x⟩, hxk⟩ : ∃ x, fs[k]? = some x := ⟨_, List.getElem?_eq_getElem hlt⟩
      obtain ⟨b, o, hoa, _, _⟩ := Rows.at HS.out (by omega)
      subst hoa
      obtain ⟨f0, f1, hns, hx1, hx2⟩ := flds_at HS.out k nk x hxk rfl
      have HK := Lib.hid hxk
      clear hxk
      cases hsm : Hd.same nk nm
      · have hne : (nk.toList == nm.toList) = false := hsm
        have HN := Lib.hid hsm
        clear hsm
        go_wp2_with fail
        go_round
        case rel => exact ⟨k + 1, by omega, by go_num, Lib.hid (Hd.fidx_skip HK.out HN.out HI.out)⟩
        case measure => simp [intOf]; omega
      · have hne : (nk.toList == nm.toList) = true := hsm
        have HN := Lib.hid hsm
        clear hsm
        go_wp2_with fail
        go_ret2
        have e1 := Hd.fidx_hit HK.out HN.out HI.out
        exact ⟨by simp [Hd.fiN, Hd.fiB, e1], (Ext.refl W).alloc _⟩
    · obtain rfl : k = fs.length := by omega
      go_wp2_with fail
      go_ret2
      have e1 := HI.out
      rw [List.drop_length] at e1
      exact ⟨by simp [Hd.fiN, Hd.fiB, e1, Hd.fidx], (Ext.refl W).alloc _⟩

namespace Hd
def small (h : Hdr) : Bool := decide (h.1.size ≤ 30) && decide (h.2.length ≤ 20) && h.2.all (fun f => decide (f.1.size ≤ 30))
end Hd
theorem rsmall_any {W : World} (h : Hd.Hdr) {v : Value} (hs : Hd.Flds W v h.2) (hn : h.1.size ≤ maxLen) :
    Calls Try.prog 49 #[.agg #[.string h.1, v]] W (Rets W (.bool (Hd.small h))) := by
  obtain ⟨nm, fs⟩ := h
  dsimp only at hs hn ⊢
  obtain ⟨oa, c, rfl, hlc, hcm⟩ := hs.slice
  unfold maxLen at hcm hn
  have HS := Lib.hid hs
  clear hs
  have bb := alloc_heap W (.cells #[.string nm, .slice oa fs.length c] 72)
  have c0 := alw (cell_of (o := 0) bb)
  have c1 := alw (cell_of (o := 1) bb)
  clear bb
  by_cases h1 : nm.size ≤ 30
  · by_cases h2 : fs.length ≤ 20
    · have e : Hd.small (nm, fs) = fs.all (fun f => decide (f.1.size ≤ 30)) := by simp [Hd.small, h1, h2]
      rw [e]
      clear e
      go_enter Try.func49, Try.ntmps49
      go_wp2_with fail
      go_loop [3] (fun i => ∃ k : Nat, k ≤ fs.length ∧ i = .int .i64 k ∧ Hid (fs.all (fun f => decide (f.1.size ≤ 30)) = (fs.drop k).all (fun f => decide (f.1.size ≤ 30)))) (fun i => fs.length - (intOf i).toNat)
      case atStart => exact ⟨0, Nat.zero_le _, rfl, Lib.hid (by simp)⟩
      case round =>
        obtain ⟨k, hk, rfl, HI⟩ := hrel
        by_cases hlt : k < fs.length
        · obtain ⟨⟨nk, x⟩, hxk⟩ : ∃ x, fs[k]? = some x := ⟨_, List.getElem?_eq_getElem hlt⟩
          obtain ⟨b, o, hoa, _, _⟩ := Rows.at HS.out (by omega)
          subst hoa
          obtain ⟨f0, f1, hns, hx1, hx2⟩ := flds_at HS.out k nk x hxk rfl
          unfold maxLen at hns
          have HD := Lib.hid (drop_cons hxk)
          clear hxk
          by_cases hsz : nk.size ≤ 30
          · go_wp2_with fail
            go_round
            case rel => exact ⟨k + 1, by omega, by go_num, Lib.hid (by rw [HI.out, HD.out]; simp [hsz])⟩
            case measure => simp [intOf]; omega
          · have hsz2 : 30 < nk.size := by omega
            go_wp2_with fail
            go_ret
            exact ⟨by rw [HI.out, HD.out]; simp [hsz], (Ext.refl W).alloc _⟩
        · obtain rfl : k = fs.length := by omega
          go_wp2_with fail
          go_ret
          exact ⟨by rw [HI.out, List.drop_length]; rfl, (Ext.refl W).alloc _⟩
    · have e : Hd.small (nm, fs) = false := by simp [Hd.small, h2]
      rw [e]
      have h3 : 20 < fs.length := by omega
      go_enter Try.func49, Try.ntmps49
      go_wp2_with fail
      go_ret
      exact ⟨rfl, (Ext.refl W).alloc _⟩
  · have e : Hd.small (nm, fs) = false := by simp [Hd.small, h1]
    rw [e]
    have h3 : 30 < nm.size := by omega
    go_enter Try.func49, Try.ntmps49
    go_wp2_with fail
    go_ret
    exact ⟨rfl, (Ext.refl W).alloc _⟩
end Go.Proofs.Ytonnlcjkgpahoaa
