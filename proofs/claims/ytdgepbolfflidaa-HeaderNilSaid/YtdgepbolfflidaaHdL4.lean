/- Headers: the law of readers and writers that were not made, walked. No condition. -/
import Derived.Test.YtdgepbolfflidaaHdL
import Derived.Test.YtdgepbolfflidaaIoN
namespace Go.Proofs.Ytdgepbolfflidaa
open Go.RowKit

namespace Hd
def nE (h : Hdr) : Int := if chk h = 0 then 1 else chk h
end Hd
set_option maxRecDepth 8000 in
theorem hread_dead {w : World} {q : Value} (hd : ∀ w', Ext w w' → Dead w' q) (h : Hd.Hdr) {v : Value} (hs : Hd.Flds w v h.2) (hn : h.1.size ≤ maxLen) :
    Calls Try.prog 26 #[.agg #[.string h.1, v], q] w (Rets w (.tuple #[.slice none 0 0, .int .i64 (Hd.nE h)])) := by
  obtain ⟨nm, fs⟩ := h
  dsimp only at hs hn ⊢
  obtain ⟨fa, fc, rfl, hlc, hcm⟩ := hs.slice
  unfold maxLen at hcm
  have HS := Lib.hid hs
  have HD := Lib.hid hd
  clear hs hd
  have bb := alloc_heap w (.cells #[.string nm, .slice fa fs.length fc] 24)
  have c0 := alw (cell_of (o := 0) bb)
  have c1 := alw (cell_of (o := 1) bb)
  clear bb
  by_cases hc : Hd.chk (nm, fs) = 0
  · have e1 : Hd.nE (nm, fs) = 1 := by unfold Hd.nE; rw [if_pos hc]
    have HC := Lib.hid hc
    rw [e1]
    clear e1 hc
    go_enter Try.func26, Try.ntmps26
    go_wp2_with fail
    refine (hcheck_any (nm, fs) (Hd.Flds.ext HS.out grows) hn).mono ?_
    rintro e w1 ⟨rfl, y1⟩
    rw [HC.out]
    have s1 : Step (w.alloc (.cells #[.string nm, .slice fa fs.length fc] 24)) w1 := ⟨y1⟩
    go_wp2_with fail
    refine (rest_dead (HD.out w1 grows)).mono ?_
    rintro e w2 ⟨rfl, rfl⟩
    go_wp2_with fail
    go_ret2
    exact ⟨rfl, grows⟩
  · have e1 : Hd.nE (nm, fs) = Hd.chk (nm, fs) := by unfold Hd.nE; rw [if_neg hc]
    have hcb : (Hd.chk (nm, fs) != 0) = true := by simpa using hc
    rw [e1]
    clear e1 hc
    go_enter Try.func26, Try.ntmps26
    go_wp2_with fail
    refine (hcheck_any (nm, fs) (Hd.Flds.ext HS.out grows) hn).mono ?_
    rintro e w1 ⟨rfl, y1⟩
    have s1 : Step (w.alloc (.cells #[.string nm, .slice fa fs.length fc] 24)) w1 := ⟨y1⟩
    go_wp2_with fail
    go_ret2
    exact ⟨rfl, grows⟩
set_option maxRecDepth 8000 in
theorem hwrite_dead {w : World} {q u : Value} (hd : ∀ w', Ext w w' → Dead w' q) (h : Hd.Hdr) {v : Value} (hs : Hd.Flds w v h.2) (hn : h.1.size ≤ maxLen) :
    Calls Try.prog 56 #[.agg #[.string h.1, v], u, q] w (Rets w (.int .i64 (Hd.nE h))) := by
  obtain ⟨nm, fs⟩ := h
  dsimp only at hs hn ⊢
  obtain ⟨fa, fc, rfl, hlc, hcm⟩ := hs.slice
  unfold maxLen at hcm
  have HS := Lib.hid hs
  have HD := Lib.hid hd
  clear hs hd
  have bb := alloc_heap w (.cells #[.string nm, .slice fa fs.length fc] 24)
  have c0 := alw (cell_of (o := 0) bb)
  have c1 := alw (cell_of (o := 1) bb)
  clear bb
  by_cases hc : Hd.chk (nm, fs) = 0
  · have e1 : Hd.nE (nm, fs) = 1 := by unfold Hd.nE; rw [if_pos hc]
    have HC := Lib.hid hc
    rw [e1]
    clear e1 hc
    go_enter Try.func56, Try.ntmps56
    go_wp2_with fail
    refine (hcheck_any (nm, fs) (Hd.Flds.ext HS.out grows) hn).mono ?_
    rintro e w1 ⟨rfl, y1⟩
    rw [HC.out]
    have s1 : Step (w.alloc (.cells #[.string nm, .slice fa fs.length fc] 24)) w1 := ⟨y1⟩
    go_wp2_with fail
    refine (bytes_dead (HD.out w1 grows)).mono ?_
    rintro e w2 ⟨rfl, rfl⟩
    go_wp2_with fail
    go_ret
    exact ⟨rfl, grows⟩
  · have e1 : Hd.nE (nm, fs) = Hd.chk (nm, fs) := by unfold Hd.nE; rw [if_neg hc]
    have hcb : (Hd.chk (nm, fs) != 0) = true := by simpa using hc
    rw [e1]
    clear e1 hc
    go_enter Try.func56, Try.ntmps56
    go_wp2_with fail
    refine (hcheck_any (nm, fs) (Hd.Flds.ext HS.out grows) hn).mono ?_
    rintro e w1 ⟨rfl, y1⟩
    have s1 : Step (w.alloc (.cells #[.string nm, .slice fa fs.length fc] 24)) w1 := ⟨y1⟩
    go_wp2_with fail
    go_ret
    exact ⟨rfl, grows⟩

set_option maxRecDepth 8000 in
set_option maxHeartbeats 1000000 in
theorem headerNil_walk (v0 : Value) (a1 : Option Addr) (n1 c1 : Nat) (z1 : List Int) (W : World) {b0 : Nat} {r0 : Reach} {H : Type} {enc : TypeId × Value → H} {d0 : DataW H} {p0 : List MemPlace}
    (ok0 : Value.okWide Try.prog W r0 b0 24 v0) (h0 : DataW.Trod enc Try.prog W 0 (fun _ => true) true 24 v0 d0 p0)
    (r1 : IsRow .u32 W a1 n1 c1 z1) :
    Calls Try.prog 12 #[v0, .slice a1 n1 c1] W (Rets W (.bool true)) := by
  obtain ⟨⟨nm, fs⟩, u, rfl, hnm, hfl⟩ := hdr_take ok0 h0
  obtain ⟨vs, rfl, hl, sl, _⟩ := row_take r1
  clear ok0 h0 r1 sl
  dsimp only at hnm hfl ⊢
  obtain ⟨fa, fc, rfl, hlc, hcm⟩ := hfl.slice
  unfold maxLen at hcm hl
  have HF := Lib.hid hfl
  clear hfl
  have hbb := alloc_heap W (.cells #[.string nm, .slice fa fs.length fc] 24)
  have c0 := alw (cell_of (o := 0) hbb)
  have c1' := alw (cell_of (o := 1) hbb)
  clear hbb
  have hdn : ∀ w' : World, Dead w' (.pointer none) := fun _ => .inl rfl
  have HDN := Lib.hid hdn
  clear hdn
  obtain ⟨sm, hsm⟩ : ∃ sm, sm = Hd.small (nm, fs) := ⟨_, rfl⟩
  have HSM := Lib.hid hsm
  clear hsm
  cases sm
  · go_enter Try.func12, Try.ntmps12
    go_wp2_with fail
    refine (rsmall_any (nm, fs) (Hd.Flds.ext HF.out grows) hnm).mono ?_
    rintro e w1 ⟨rfl, x1⟩
    rw [← HSM.out]
    have s1 : Step (W.alloc (.cells #[.string nm, .slice fa fs.length fc] 24)) w1 := ⟨x1⟩
    go_wp2_with (go_at_call 15; refine (hworks_any _).mono ?_; rintro e w2 ⟨rfl, x2⟩; have s2 : Step w1 w2 := ⟨x2⟩)
    go_ret
    exact ⟨rfl, grows⟩
  · by_cases h30 : vs.length ≤ 30
    · by_cases hc : Hd.chk (nm, fs) = 0
      · have hne : Hd.nE (nm, fs) = 1 := by unfold Hd.nE; rw [if_pos hc]
        have HNE := Lib.hid hne
        have HC := Lib.hid hc
        clear hne hc
        go_enter Try.func12, Try.ntmps12
        go_wp2_with fail
        refine (rsmall_any (nm, fs) (Hd.Flds.ext HF.out grows) hnm).mono ?_
        rintro e w1 ⟨rfl, x1⟩
        rw [← HSM.out]
        have s1 : Step (W.alloc (.cells #[.string nm, .slice fa fs.length fc] 24)) w1 := ⟨x1⟩
        go_wp2_with fail
        refine (rhcheck_any (nm, fs) (Hd.Flds.ext HF.out grows) hnm).mono ?_
        rintro e w2 ⟨rfl, x2⟩
        rw [HC.out]
        have s2 : Step w1 w2 := ⟨x2⟩
        go_wp2_with fail
        refine (hread_dead (fun w' _ => HDN.out w') (nm, fs) (Hd.Flds.ext HF.out grows) hnm).mono ?_
        rintro e w3 ⟨rfl, x3⟩
        rw [HNE.out]
        have s3 : Step w2 w3 := ⟨x3⟩
        go_wp2_with fail
        refine (hread_dead (fun w' hx => .inr ⟨_, rfl, hx.cell (alloc_cell w3 _ rfl _ _ _ 2 _ rfl)⟩) (nm, fs) (Hd.Flds.ext HF.out grows) hnm).mono ?_
        rintro e w4 ⟨rfl, x4⟩
        rw [HNE.out]
        have s4 := Step.mk x4
        go_wp2_with fail
        refine (hwrite_dead (fun w' _ => HDN.out w') (nm, fs) (Hd.Flds.ext HF.out grows) hnm).mono ?_
        rintro e w5 ⟨rfl, x5⟩
        rw [HNE.out]
        have s5 : Step w4 w5 := ⟨x5⟩
        go_wp2_with fail
        refine (hwrite_dead (fun w' hx => .inr ⟨_, rfl, hx.cell (alloc_cell w5 _ rfl _ _ _ 2 _ rfl)⟩) (nm, fs) (Hd.Flds.ext HF.out grows) hnm).mono ?_
        rintro e w6 ⟨rfl, x6⟩
        rw [HNE.out]
        have s6 := Step.mk x6
        go_wp2_with (go_at_call 15; refine (hworks_any _).mono ?_; rintro e w7 ⟨rfl, x7⟩; have s7 : Step w6 w7 := ⟨x7⟩)
        go_ret
        exact ⟨rfl, grows⟩
      · have hne : Hd.nE (nm, fs) = Hd.chk (nm, fs) := by unfold Hd.nE; rw [if_neg hc]
        have hcb : (Hd.chk (nm, fs) == 0) = false := by simpa using hc
        have HNE := Lib.hid hne
        clear hne hc
        go_enter Try.func12, Try.ntmps12
        go_wp2_with fail
        refine (rsmall_any (nm, fs) (Hd.Flds.ext HF.out grows) hnm).mono ?_
        rintro e w1 ⟨rfl, x1⟩
        rw [← HSM.out]
        have s1 : Step (W.alloc (.cells #[.string nm, .slice fa fs.length fc] 24)) w1 := ⟨x1⟩
        go_wp2_with fail
        refine (rhcheck_any (nm, fs) (Hd.Flds.ext HF.out grows) hnm).mono ?_
        rintro e w2 ⟨rfl, x2⟩
        have s2 : Step w1 w2 := ⟨x2⟩
        go_wp2_with fail
        refine (hread_dead (fun w' _ => HDN.out w') (nm, fs) (Hd.Flds.ext HF.out grows) hnm).mono ?_
        rintro e w3 ⟨rfl, x3⟩
        rw [HNE.out]
        have s3 : Step w2 w3 := ⟨x3⟩
        go_wp2_with fail
        refine (hread_dead (fun w' hx => .inr ⟨_, rfl, hx.cell (alloc_cell w3 _ rfl _ _ _ 2 _ rfl)⟩) (nm, fs) (Hd.Flds.ext HF.out grows) hnm).mono ?_
        rintro e w4 ⟨rfl, x4⟩
        rw [HNE.out]
        have s4 := Step.mk x4
        go_wp2_with fail
        refine (hwrite_dead (fun w' _ => HDN.out w') (nm, fs) (Hd.Flds.ext HF.out grows) hnm).mono ?_
        rintro e w5 ⟨rfl, x5⟩
        rw [HNE.out]
        have s5 : Step w4 w5 := ⟨x5⟩
        go_wp2_with fail
        refine (hwrite_dead (fun w' hx => .inr ⟨_, rfl, hx.cell (alloc_cell w5 _ rfl _ _ _ 2 _ rfl)⟩) (nm, fs) (Hd.Flds.ext HF.out grows) hnm).mono ?_
        rintro e w6 ⟨rfl, x6⟩
        rw [HNE.out]
        have s6 := Step.mk x6
        go_wp2_with (go_at_call 15; refine (hworks_any _).mono ?_; rintro e w7 ⟨rfl, x7⟩; have s7 : Step w6 w7 := ⟨x7⟩)
        go_ret
        exact ⟨rfl, grows⟩
    · have h31 : 30 < vs.length := by omega
      go_enter Try.func12, Try.ntmps12
      go_wp2_with fail
      refine (rsmall_any (nm, fs) (Hd.Flds.ext HF.out grows) hnm).mono ?_
      rintro e w1 ⟨rfl, x1⟩
      rw [← HSM.out]
      have s1 : Step (W.alloc (.cells #[.string nm, .slice fa fs.length fc] 24)) w1 := ⟨x1⟩
      go_wp2_with (go_at_call 15; refine (hworks_any _).mono ?_; rintro e w2 ⟨rfl, x2⟩; have s2 : Step w1 w2 := ⟨x2⟩)
      go_ret
      exact ⟨rfl, grows⟩
end Go.Proofs.Ytdgepbolfflidaa
