/- Headers: the law of writes, walked. No condition. -/
import Derived.Test.YtonnlcjkgpahoaaHdL
namespace Go.Proofs.Ytonnlcjkgpahoaa
open Go.RowKit

namespace Hd
theorem putAll_bits : ∀ (vs ns L : List Int), Io.Bits L → Io.Bits (Io.putAll vs ns L).2
  | [], _, L, h => by simpa [Io.putAll] using h
  | _ :: _, [], L, h => by simpa [Io.putAll] using h
  | v :: vs, n :: ns, L, h => by
    unfold Io.putAll
    split
    · exact putAll_bits vs ns _ (Io.wrL_bits h v n)
    · intro b hb; cases hb
theorem wL_bits (h : Hdr) (vs L : List Int) (hb : Io.Bits L) : Io.Bits (wL h vs L) := by
  unfold wL; split
  · exact putAll_bits _ _ _ hb
  · exact hb
theorem wL_len (h : Hdr) (vs L : List Int) : (wL h vs L).length ≤ L.length + 384 := by
  unfold wL
  by_cases he : wE h vs = 0
  · rw [if_pos he]
    unfold wE at he
    by_cases hc : chk h = 0
    · rw [if_pos hc] at he
      by_cases hl : vs.length = h.2.length
      · rw [if_pos hl] at he
        obtain ⟨_, _, h3, h4, _⟩ := chk_ok hc
        have h5 := putAll_len vs (wds h.2) L (by rw [wds_len]; exact hl) h4 (by rw [putAll_err _ _ L []]; exact he)
        have h6 := tot_bd h4
        rw [wds_len] at h6
        omega
      · rw [if_neg hl] at he; simp at he
    · rw [if_neg hc] at he; exact absurd he hc
  · rw [if_neg he]; omega
end Hd
theorem byte_ok {x : Int} (h0 : 0 ≤ x) (h1 : x ≤ 255) : Io.wrE x 8 = 0 := by
  unfold Io.wrE
  rw [if_pos (Bv.ok_of (by decide) (by decide)), if_pos]
  unfold Bv.fits
  have h2 : Bv.pw 8 = 256 := by decide +kernel
  simp [Bv.ok_of (show (1 : Int) ≤ 8 by decide) (show (8 : Int) ≤ 32 by decide)]
  rw [h2]; omega

end Go.Proofs.Ytonnlcjkgpahoaa
