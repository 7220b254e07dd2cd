/- What an action's expressions read: access.expression, walked. What an action reads or writes, sorted: access.sorted, walked. The statements of an action: body, walked; how long their expressions are. What an action reads: action.Reads, walked. No condition. -/
import Derived.Test.YtkiafiaodockbaaGreatKqAM
set_option maxRecDepth 8000
set_option maxHeartbeats 16000000
namespace Go.Proofs.YtkiafiaodockbaaGreat
open Go.RowKit
namespace Pl
/-- behind a call that adds to the box -/
def ExpP (w : World) (b : Nat) (a : Acc) (l : List Tj.EN) (n : Nat) (e : Ending) (w' : World) : Prop := e = .returned (.tuple #[]) ∧ ∃ vf vh vr a', AccB w' b vf vh vr a' ∧ SameA a' (a.app (exA l)) ∧ a'.le (n + l.length) ∧ Kx b w w'
theorem fE_all (l : List (Int × Int)) : ∀ u ∈ l.flatMap fE, u.oneCell' = true := fun u hu => by
 obtain ⟨x, _, h⟩ := List.mem_flatMap.1 hu; exact fE_one x u h
theorem i_all (l : List Int) : ∀ u ∈ l.map (Value.int .i64), u.oneCell' = true := fun u hu => by
 obtain ⟨x, _, rfl⟩ := List.mem_map.1 hu; rfl
end Pl
theorem aexpr_any {w0 w : World} {b n : Nat} {vf vh vr nv : Value} {a : Pl.Acc} {l : List Tj.EN} (hA : Pl.AccB w b vf vh vr a) (hn : a.le n) (hn2 : n ≤ 1000000) (hl : Tj.Exp w0 nv l) (hx : Ext w0 w) (hb : w0.heap.size ≤ b) (hll : l.length ≤ 1000) :
 Calls Tryz.prog 130 #[.pointer (some ⟨b, 0, none⟩), nv] w (Pl.ExpP w b a l n) := by
 have HEF := Lh (fun (w : World) (hx : Ext w0 w) => efields_any (hl.ext hx) (by omega))
 have HEH := Lh (fun (w : World) (hx : Ext w0 w) => eheaders_any (hl.ext hx) (by omega))
 obtain ⟨na, nc, rfl, _⟩ := hl.slice
 obtain ⟨va, vc, rfl⟩ := own_slice hA.rf
 obtain ⟨vha, vhc, rfl⟩ := own_slice hA.rh
 obtain ⟨hn0, hn1, hnr⟩ := hn
 have hblt := hA.lt
 have HAB := Lh hA
 have HLO0 := Lh hx
 have qq0 := alw (cQ 0 hA.box)
 clear hl hA hx
 go_enter Tryz.func130, Tryz.ntmps130
 go_wp2_with fail
 obtain ⟨CC0, hCC0⟩ : ∃ z : World → Prop, z = (fun w' => w'.cell? ⟨b, 0, none⟩ = some (.slice va a.f.length vc)) := ⟨_, rfl⟩
 have HCC0 := Lh hCC0
 clear hCC0
 refine RelD.region CC0 10 (by kernel_rfl) ?_
 have cq0 : ∀ y : Wh CC0, y.val.cell? ⟨b, 0, none⟩ = some (.slice va a.f.length vc) := fun y => by have h := Eq.mp (congrFun HCC0.out y.val) y.out; exact h
 have HA0 : Hid (CC0 w.drew) := Lh (by rw [HCC0.out]; exact qq0 _)
 have hNE0 : Nonempty (Wh CC0) := ⟨⟨_, HA0.out⟩⟩
 refine RelD.chunkL (k' := 6) 6 5 (by kernel_rfl) rfl (by kernel_rfl) HA0.out ?_
 simp only [dpZ, tkS, tkZ]
 repeat (go_big_quiet_step (fail))
 refine wpQuiet_nil ?_
 refine RelD.realL (k' := 7) 4 (by kernel_rfl) rfl (by kernel_rfl) ?_
 simp only [dpZ, dpS, tkS, tkZ]
 go_wp2_with fail
 refine (HEF.out _ (HLO0.out.trans grows)).mono ?_
 rintro e u0 ⟨w30, l0, rfl, hs0, hl0, ho0, hx0⟩
 obtain ⟨da0, dc0, rfl⟩ := own_slice ho0
 have su0 := Sm hx0
 have HX0 : Hid (Ext w u0) := Lh grows
 have HS0 := Lh hs0
 have HO0 := Lh ho0
 have hsz0 : w.heap.size ≤ u0.heap.size := HX0.out.size
 have HB0 : Hid (CC0 u0) := Lh (by rw [HCC0.out]; exact qq0 _)
 clear hs0 ho0 hx0
 go_wp2_with fail
 refine RelD.next_mk (fun _ => HB0.out) ?_
 refine RelD.realL (k' := 8) 3 (by kernel_rfl) rfl (by kernel_rfl) ?_
 simp only [dpZ, dpS, tkS, tkZ]
 go_wp2_with (at_builtin; refine wpList_append_fresh rfl (.tmp 8) (.tmp 10) 181 rfl (b + 1) 88 (.agg #[.int .i64 0, .int .i64 0]) 2 16 Tryz.underlying181 cinf_fref rfl (by decide) (.slice va a.f.length vc) a.f.length _ rfl (HAB.out.ext HX0.out).rf _ l0.length _ rfl (own_src HO0.out (Pl.fE_all l0)) ?d1 ?d2 ?d3 ?_)
 case d1 => unfold maxLen; omega
 case d2 => omega
 case d3 => omega
 intro v' g0 hown hgr hfr
 obtain ⟨ea0, ec0, rfl⟩ := own_slice hown
 have HP0 := Lh (HAB.out.putf HX0.out hown hgr)
 have HBX0 := Lh ((grown_mod hgr).heap (HAB.out.ext HX0.out).box (fun hk => by have := ((HAB.out.ext HX0.out).rf.lt b hk.symm).1; omega))
 have HC0 : Hid (CC0 g0) := Lh (by rw [HCC0.out]; exact cQ 0 HBX0.out)
 have y0 : g0.cell? ⟨b, 0, none⟩ = some (.slice va a.f.length vc) := cQ 0 HBX0.out
 have yf0 : g0.frozen? ⟨b, 0, none⟩ = false := free_of HBX0.out
 clear hown hgr hfr
 go_wp2_with fail
 refine RelD.next_mk (fun _ => HC0.out) ?_
 refine RelD.realL (k' := 9) 2 (by kernel_rfl) rfl (by kernel_rfl) ?_
 simp only [dpZ, dpS, tkS, tkZ]
 go_wp2_with fail
 refine RelD.next_mk (fun _ => HC0.out) ?_
 refine RelD.realL (k' := 10) 1 (by kernel_rfl) rfl (by kernel_rfl) ?_
 simp only [dpZ, dpS, tkS, tkZ]
 go_wp2_with fail
 refine RelD.next_mk (fun _ => HC0.out) ?_
 refine RelD.realL (k' := 11) 0 (by kernel_rfl) rfl (by kernel_rfl) ?_
 simp only [dpZ, dpS, tkS, tkZ]
 go_wp2_with (refine wpList_store_cellK rfl 181 (.tmp 13) (.tmp 11) rfl b 0 (.slice va a.f.length vc) (.slice ea0 (a.f.length + l0.length) ec0) rfl rfl (by kernel_rfl) rfl y0 yf0 ?_)
 intro z0 hz0
 rw [← hz0.out] at HP0
 clear hz0 y0 yf0 HBX0 HB0 HC0
 go_wp2_with fail
 refine RelD.next_mk (fun h => absurd h (by decide)) ?_
 refine RelD.doneL (by kernel_rfl) (by kernel_rfl) ?_
 have HAB1 := Lh HP0.out.1
 have hz0l : b < z0.heap.size := HP0.out.1.lt
 have HK0 := Lh HP0.out.2
 have HLO1 : Hid (Ext w0 z0) := Lh (Pl.Kx.low HLO0.out hb HP0.out.2)
 have qq1 := alw (cQ 1 HP0.out.1.box)
 clear HP0
 go_wp2_with fail
 obtain ⟨CC1, hCC1⟩ : ∃ z : World → Prop, z = (fun w' => w'.cell? ⟨b, 1, none⟩ = some (.slice vha a.h.length vhc)) := ⟨_, rfl⟩
 have HCC1 := Lh hCC1
 clear hCC1
 refine RelD.region CC1 10 (by kernel_rfl) ?_
 have cq1 : ∀ y : Wh CC1, y.val.cell? ⟨b, 1, none⟩ = some (.slice vha a.h.length vhc) := fun y => by have h := Eq.mp (congrFun HCC1.out y.val) y.out; exact h
 have HA1 : Hid (CC1 z0.drew) := Lh (by rw [HCC1.out]; exact qq1 _)
 have hNE1 : Nonempty (Wh CC1) := ⟨⟨_, HA1.out⟩⟩
 refine RelD.chunkL (k' := 6) 6 5 (by kernel_rfl) rfl (by kernel_rfl) HA1.out ?_
 simp only [dpZ, tkS, tkZ]
 repeat (go_big_quiet_step (fail))
 refine wpQuiet_nil ?_
 refine RelD.realL (k' := 7) 4 (by kernel_rfl) rfl (by kernel_rfl) ?_
 simp only [dpZ, dpS, tkS, tkZ]
 go_wp2_with fail
 refine (HEH.out _ (HLO1.out.trans grows)).mono ?_
 rintro e u1 ⟨w31, l1, rfl, hs1, hl1, ho1, hx1⟩
 obtain ⟨da1, dc1, rfl⟩ := own_slice ho1
 have su1 := Sm hx1
 have HX1 : Hid (Ext z0 u1) := Lh grows
 have HS1 := Lh hs1
 have HO1 := Lh ho1
 have hsz1 : z0.heap.size ≤ u1.heap.size := HX1.out.size
 have HB1 : Hid (CC1 u1) := Lh (by rw [HCC1.out]; exact qq1 _)
 clear hs1 ho1 hx1
 go_wp2_with fail
 refine RelD.next_mk (fun _ => HB1.out) ?_
 refine RelD.realL (k' := 8) 3 (by kernel_rfl) rfl (by kernel_rfl) ?_
 simp only [dpZ, dpS, tkS, tkZ]
 go_wp2_with (at_builtin; refine wpList_append_fresh rfl (.tmp 18) (.tmp 20) 29 rfl (b + 1) 3 (.int .i64 0) 1 8 Tryz.underlying29 info_i64 rfl (by decide) (.slice vha a.h.length vhc) a.h.length _ rfl (HAB1.out.ext HX1.out).rh _ l1.length _ rfl (own_src HO1.out (Pl.i_all l1)) ?d1 ?d2 ?d3 ?_)
 case d1 => unfold maxLen; omega
 case d2 => omega
 case d3 => omega
 intro v' g1 hown hgr hfr
 obtain ⟨ea1, ec1, rfl⟩ := own_slice hown
 have HP1 := Lh (HAB1.out.puth HX1.out hown hgr hfr)
 have HBX1 := Lh ((grown_mod hgr).heap (HAB1.out.ext HX1.out).box (fun hk => by have := ((HAB1.out.ext HX1.out).rh.lt b hk.symm).1; omega))
 have HC1 : Hid (CC1 g1) := Lh (by rw [HCC1.out]; exact cQ 1 HBX1.out)
 have y1 : g1.cell? ⟨b, 1, none⟩ = some (.slice vha a.h.length vhc) := cQ 1 HBX1.out
 have yf1 : g1.frozen? ⟨b, 1, none⟩ = false := free_of HBX1.out
 clear hown hgr hfr
 go_wp2_with fail
 refine RelD.next_mk (fun _ => HC1.out) ?_
 refine RelD.realL (k' := 9) 2 (by kernel_rfl) rfl (by kernel_rfl) ?_
 simp only [dpZ, dpS, tkS, tkZ]
 go_wp2_with fail
 refine RelD.next_mk (fun _ => HC1.out) ?_
 refine RelD.realL (k' := 10) 1 (by kernel_rfl) rfl (by kernel_rfl) ?_
 simp only [dpZ, dpS, tkS, tkZ]
 go_wp2_with fail
 refine RelD.next_mk (fun _ => HC1.out) ?_
 refine RelD.realL (k' := 11) 0 (by kernel_rfl) rfl (by kernel_rfl) ?_
 simp only [dpZ, dpS, tkS, tkZ]
 go_wp2_with (refine wpList_store_cellK rfl 29 (.tmp 23) (.tmp 21) rfl b 1 (.slice vha a.h.length vhc) (.slice ea1 (a.h.length + l1.length) ec1) rfl rfl (by kernel_rfl) rfl y1 yf1 ?_)
 intro z1 hz1
 rw [← hz1.out] at HP1
 clear hz1 y1 yf1 HBX1 HB1 HC1
 go_wp2_with fail
 refine RelD.next_mk (fun h => absurd h (by decide)) ?_
 refine RelD.doneL (by kernel_rfl) (by kernel_rfl) ?_
 have HF : Hid (Pl.ExpP w b a l n (.returned (.tuple #[])) z1) := Lh ⟨rfl, _, _, _, _, HP1.out.1, ⟨(Pl.Same.refl _).app HS0.out, (Pl.Same.refl _).app HS1.out, by show Pl.Same a.r (a.r ++ []); rw [List.append_nil]; exact Pl.Same.refl _⟩, ⟨by show (a.f ++ l0).length ≤ _; rw [List.length_append]; omega, by show (a.h ++ l1).length ≤ _; rw [List.length_append]; omega, by show a.r.length ≤ _; omega⟩, HK0.out.trans HP1.out.2⟩
 go_wp2_with fail
 first | go_end0 | skip
 exact HF.out
namespace Pl
theorem AccB.srtf {w w' : World} {b : Nat} {vf vh vr : Value} {a : Acc} {l : List (Int × Int)} (h : AccB w b vf vh vr a) (ho : w'.ownsRow (b + 1) 88 2 vf l.length (l.flatMap fE)) (hm : Mod (fun k => vf.ownBlock = some k) w w') : AccB w' b vf vh vr ⟨l, a.h, a.r⟩ ∧ Kx b w w' :=
 ⟨⟨hm.heap h.box (fun hk => by have := (h.rf.lt b hk).1; omega), ho, own_mod h.rh hm (fun k hk e => Pl.own_two h.rh h.rf (by decide) hk e), own_mod h.rr hm (fun k hk e => Pl.own_two h.rr h.rf (by decide) hk e), h.ap⟩, Kx.mod hm (Nat.le_of_lt h.lt) (fun k hk => ⟨by have := (h.rf.lt k hk).1; omega, row_kind h.rf (by decide) hk⟩)⟩
theorem AccB.srth {w w' : World} {b : Nat} {vf vh vr : Value} {a : Acc} {l : List Int} (h : AccB w b vf vh vr a) (ho : w'.ownsRow (b + 1) 3 1 vh l.length (l.map (Value.int .i64))) (hm : Mod (fun k => vh.ownBlock = some k) w w') : AccB w' b vf vh vr ⟨a.f, l, a.r⟩ ∧ Kx b w w' :=
 ⟨⟨hm.heap h.box (fun hk => by have := (h.rh.lt b hk).1; omega), own_mod h.rf hm (fun k hk e => Pl.own_two h.rf h.rh (by decide) hk e), ho, own_mod h.rr hm (fun k hk e => h.ap k e hk), h.ap⟩, Kx.mod hm (Nat.le_of_lt h.lt) (fun k hk => ⟨by have := (h.rh.lt k hk).1; omega, row_kind h.rh (by decide) hk⟩)⟩
theorem AccB.srtr {w w' : World} {b : Nat} {vf vh vr : Value} {a : Acc} {l : List Int} (h : AccB w b vf vh vr a) (ho : w'.ownsRow (b + 1) 3 1 vr l.length (l.map (Value.int .i64))) (hm : Mod (fun k => vr.ownBlock = some k) w w') : AccB w' b vf vh vr ⟨a.f, a.h, l⟩ ∧ Kx b w w' :=
 ⟨⟨hm.heap h.box (fun hk => by have := (h.rr.lt b hk).1; omega), own_mod h.rf hm (fun k hk e => Pl.own_two h.rf h.rr (by decide) hk e), own_mod h.rh hm (fun k hk e => h.ap k hk e), ho, h.ap⟩, Kx.mod hm (Nat.le_of_lt h.lt) (fun k hk => ⟨by have := (h.rr.lt k hk).1; omega, row_kind h.rr (by decide) hk⟩)⟩
/-- what sorted leaves -/
def SrtA (w : World) (b : Nat) (a : Acc) (n : Nat) (e : Ending) (w' : World) : Prop := ∃ v1 v2 v3 a', e = .returned (.tuple #[v1, v2, v3]) ∧ SameA a' a ∧ a'.le n ∧ w'.ownsRow (b + 1) 88 2 v1 a'.f.length (a'.f.flatMap fE) ∧ w'.ownsRow (b + 1) 3 1 v2 a'.h.length (a'.h.map (Value.int .i64)) ∧ w'.ownsRow (b + 1) 3 1 v3 a'.r.length (a'.r.map (Value.int .i64)) ∧ Kx b w w'
end Pl
theorem asorted_any {w : World} {b n : Nat} {vf vh vr : Value} {a : Pl.Acc} (hA : Pl.AccB w b vf vh vr a) (hn : a.le n) (hn2 : n ≤ 1000000) : Calls Tryz.prog 131 #[.pointer (some ⟨b, 0, none⟩)] w (Pl.SrtA w b a n) := by
 obtain ⟨va, vc, rfl⟩ := own_slice hA.rf
 obtain ⟨vha, vhc, rfl⟩ := own_slice hA.rh
 obtain ⟨vra, vrc, rfl⟩ := own_slice hA.rr
 obtain ⟨hn0, hn1, hnr⟩ := hn
 have HA0 := Lh hA
 clear hA
 go_enter Tryz.func131, Tryz.ntmps131
 have HL0 := Lh (sortF2_any HA0.out.rf (by show a.f.length < _; omega))
 have q0 := alw (cQ 0 HA0.out.box)
 go_wp2_with fail
 refine HL0.out.mono ?_
 rintro e w1 ⟨rfl, m0, hs0, hl0, ho0, hm0⟩
 have HP0 := Lh (HA0.out.srtf ho0 hm0)
 have HS0 := Lh hs0
 have HN0 := Lh hl0
 clear hs0 hl0 ho0 hm0 HL0 q0
 have HA1 := Lh HP0.out.1
 have HL1 := Lh (sortI_any HA1.out.rh (by show a.h.length < _; omega))
 have q1 := alw (cQ 1 HA1.out.box)
 go_wp2_with fail
 refine HL1.out.mono ?_
 rintro e w2 ⟨rfl, m1, hs1, hl1, ho1, hm1⟩
 have HP1 := Lh (HA1.out.srth ho1 hm1)
 have HS1 := Lh hs1
 have HN1 := Lh hl1
 clear hs1 hl1 ho1 hm1 HL1 q1
 have HA2 := Lh HP1.out.1
 have HL2 := Lh (sortI_any HA2.out.rr (by show a.r.length < _; omega))
 have q2 := alw (cQ 2 HA2.out.box)
 go_wp2_with fail
 refine HL2.out.mono ?_
 rintro e w3 ⟨rfl, m2, hs2, hl2, ho2, hm2⟩
 have HP2 := Lh (HA2.out.srtr ho2 hm2)
 have HS2 := Lh hs2
 have HN2 := Lh hl2
 clear hs2 hl2 ho2 hm2 HL2 q2
 have HA3 := Lh HP2.out.1
 have HK3 := Lh ((HP0.out.2.trans HP1.out.2).trans HP2.out.2)
 have qq0 := alw (cQ 0 HA3.out.box)
 have qq1 := alw (cQ 1 HA3.out.box)
 have qq2 := alw (cQ 2 HA3.out.box)
 clear HP0 HP1 HP2
 go_wp2_with fail
 obtain ⟨CC, hCC⟩ : ∃ z : World → Prop, z = (fun w' => w'.cell? ⟨b, 0, none⟩ = some (.slice va a.f.length vc) ∧ w'.cell? ⟨b, 1, none⟩ = some (.slice vha a.h.length vhc) ∧ w'.cell? ⟨b, 2, none⟩ = some (.slice vra a.r.length vrc)) := ⟨_, rfl⟩
 have HCC := Lh hCC
 clear hCC
 refine RelD.region CC 17 (by kernel_rfl) ?_
 have cq0 : ∀ y : Wh CC, y.val.cell? ⟨b, 0, none⟩ = some (.slice va a.f.length vc) := fun y => by have h := Eq.mp (congrFun HCC.out y.val) y.out; exact h.1
 have cq1 : ∀ y : Wh CC, y.val.cell? ⟨b, 1, none⟩ = some (.slice vha a.h.length vhc) := fun y => by have h := Eq.mp (congrFun HCC.out y.val) y.out; exact h.2.1
 have cq2 : ∀ y : Wh CC, y.val.cell? ⟨b, 2, none⟩ = some (.slice vra a.r.length vrc) := fun y => by have h := Eq.mp (congrFun HCC.out y.val) y.out; exact h.2.2
 have HC3 : Hid (CC w3.drew) := Lh (by rw [HCC.out]; exact ⟨qq0 _, qq1 _, qq2 _⟩)
 have hNE : Nonempty (Wh CC) := ⟨⟨_, HC3.out⟩⟩
 clear qq0 qq1 qq2
 refine RelD.oneL 0 17 rfl (by kernel_rfl) HC3.out ?_
 simp only [dpZ, tkS, tkZ]
 repeat (go_big_quiet_step (fail))
 refine wpQuiet_nil ?_
 refine RelD.oneL 1 16 rfl (by kernel_rfl) HC3.out ?_
 simp only [dpZ, dpS, tkS, tkZ]
 repeat (go_big_quiet_step (fail))
 refine wpQuiet_nil ?_
 refine RelD.oneL 2 15 rfl (by kernel_rfl) HC3.out ?_
 simp only [dpZ, dpS, tkS, tkZ]
 repeat (go_big_quiet_step (fail))
 refine wpQuiet_nil ?_
 refine RelD.oneL 3 14 rfl (by kernel_rfl) HC3.out ?_
 simp only [dpZ, dpS, tkS, tkZ]
 repeat (go_big_quiet_step (fail))
 refine wpQuiet_nil ?_
 refine RelD.oneL 5 13 rfl (by kernel_rfl) HC3.out ?_
 simp only [dpZ, dpS, tkS, tkZ]
 repeat (go_big_quiet_step (fail))
 refine wpQuiet_nil ?_
 refine RelD.oneL 6 12 rfl (by kernel_rfl) HC3.out ?_
 simp only [dpZ, dpS, tkS, tkZ]
 repeat (go_big_quiet_step (fail))
 refine wpQuiet_nil ?_
 refine RelD.oneL 7 11 rfl (by kernel_rfl) HC3.out ?_
 simp only [dpZ, dpS, tkS, tkZ]
 repeat (go_big_quiet_step (fail))
 refine wpQuiet_nil ?_
 refine RelD.oneL 8 10 rfl (by kernel_rfl) HC3.out ?_
 simp only [dpZ, dpS, tkS, tkZ]
 repeat (go_big_quiet_step (fail))
 refine wpQuiet_nil ?_
 refine RelD.oneL 10 9 rfl (by kernel_rfl) HC3.out ?_
 simp only [dpZ, dpS, tkS, tkZ]
 repeat (go_big_quiet_step (fail))
 refine wpQuiet_nil ?_
 refine RelD.oneL 11 8 rfl (by kernel_rfl) HC3.out ?_
 simp only [dpZ, dpS, tkS, tkZ]
 repeat (go_big_quiet_step (fail))
 refine wpQuiet_nil ?_
 refine RelD.oneL 12 7 rfl (by kernel_rfl) HC3.out ?_
 simp only [dpZ, dpS, tkS, tkZ]
 repeat (go_big_quiet_step (fail))
 refine wpQuiet_nil ?_
 refine RelD.oneL 13 6 rfl (by kernel_rfl) HC3.out ?_
 simp only [dpZ, dpS, tkS, tkZ]
 repeat (go_big_quiet_step (fail))
 refine wpQuiet_nil ?_
 refine RelD.actL 4 5 rfl (by kernel_rfl) ?_
 simp only [dpZ, dpS, tkS, tkZ]
 have HD : Hid (Pl.AccB w3.drew b (.slice va a.f.length vc) (.slice vha a.h.length vhc) (.slice vra a.r.length vrc) ⟨m0, m1, m2⟩) := Lh (HA3.out.ext grows)
 have HQ0 := Lh (compactFv_any (W := w3.drew) (l := m0) (v := .slice va a.f.length vc) HD.out.rf)
 go_wp2_with fail
 refine HQ0.out.mono ?_
 rintro e w4 ⟨v4, l4, rfl, hs4, hl4, ho4, hb4, hm4⟩
 obtain ⟨d4, c4, rfl⟩ := own_slice ho4
 have HX4 : Hid (w4.heap[b]? = some (.cells #[.slice va a.f.length vc, .slice vha a.h.length vhc, .slice vra a.r.length vrc] 222 (0, 0))) := Lh (hm4.heap HD.out.box (fun hk => by have := (HD.out.rf.lt b hk).1; omega))
 have HH4 := Lh (own_mod HD.out.rh hm4 (fun k hk e => Pl.own_two HD.out.rh HD.out.rf (by decide) hk e))
 have HR4 := Lh (own_mod HD.out.rr hm4 (fun k hk e => Pl.own_two HD.out.rr HD.out.rf (by decide) hk e))
 have HK4 := Lh (HK3.out.trans ((Pl.Kx.ext (grows (a := w3) (b := w3.drew)) (Nat.le_of_lt HA3.out.lt)).trans (Pl.Kx.mod hm4 (Nat.le_of_lt HD.out.lt) (fun k hk => ⟨by have := (HD.out.rf.lt k hk).1; omega, Pl.row_kind HD.out.rf (by decide) hk⟩))))
 have HS4 := Lh hs4
 have HL4 := Lh hl4
 have HO4 := Lh ho4
 have hbl4 : b < w4.heap.size := lt_of_block HX4.out
 have HC4 : Hid (CC w4) := Lh (by rw [HCC.out]; exact ⟨cQ 0 HX4.out, cQ 1 HX4.out, cQ 2 HX4.out⟩)
 clear hs4 hl4 ho4 hm4 hb4
 go_wp2_with fail
 refine RelD.next_mk (fun _ => HC4.out) ?_
 refine RelD.actL 9 4 rfl (by kernel_rfl) ?_
 simp only [dpZ, dpS, tkS, tkZ]
 have HQ1 := Lh (compactI_any (W := w4) (l := m1) (v := .slice vha a.h.length vhc) HH4.out)
 go_wp2_with fail
 refine HQ1.out.mono ?_
 rintro e w5 ⟨v5, l5, rfl, hs5, hl5, ho5, hb5, hm5⟩
 obtain ⟨d5, c5, rfl⟩ := own_slice ho5
 have HX5 : Hid (w5.heap[b]? = some (.cells #[.slice va a.f.length vc, .slice vha a.h.length vhc, .slice vra a.r.length vrc] 222 (0, 0))) := Lh (hm5.heap HX4.out (fun hk => by have := (HH4.out.lt b hk).1; omega))
 have HF5 := Lh (own_mod HO4.out hm5 (fun k hk e => Pl.own_two HO4.out HH4.out (by decide) hk e))
 have HR5 := Lh (own_mod HR4.out hm5 (fun k hk e => HD.out.ap k e hk))
 have HK5 := Lh (HK4.out.trans (Pl.Kx.mod hm5 (Nat.le_of_lt hbl4) (fun k hk => ⟨by have := (HH4.out.lt k hk).1; omega, Pl.row_kind HH4.out (by decide) hk⟩)))
 have HS5 := Lh hs5
 have HL5 := Lh hl5
 have HO5 := Lh ho5
 have HB5 := Lh hb5
 have hbl5 : b < w5.heap.size := lt_of_block HX5.out
 have HC5 : Hid (CC w5) := Lh (by rw [HCC.out]; exact ⟨cQ 0 HX5.out, cQ 1 HX5.out, cQ 2 HX5.out⟩)
 clear hs5 hl5 ho5 hm5 hb5
 go_wp2_with fail
 refine RelD.next_mk (fun _ => HC5.out) ?_
 refine RelD.actL 14 3 rfl (by kernel_rfl) ?_
 simp only [dpZ, dpS, tkS, tkZ]
 have HQ2 := Lh (compactI_any (W := w5) (l := m2) (v := .slice vra a.r.length vrc) HR5.out)
 go_wp2_with fail
 refine HQ2.out.mono ?_
 rintro e w6 ⟨v6, l6, rfl, hs6, hl6, ho6, hb6, hm6⟩
 obtain ⟨d6, c6, rfl⟩ := own_slice ho6
 have HX6 : Hid (w6.heap[b]? = some (.cells #[.slice va a.f.length vc, .slice vha a.h.length vhc, .slice vra a.r.length vrc] 222 (0, 0))) := Lh (hm6.heap HX5.out (fun hk => by have := (HR5.out.lt b hk).1; omega))
 have HF : Hid (Pl.SrtA w b a n (.returned (.tuple #[.slice d4 l4.length c4, .slice d5 l5.length c5, .slice d6 l6.length c6])) w6) := Lh ⟨_, _, _, ⟨l4, l5, l6⟩, rfl, ⟨HS4.out.trans HS0.out, HS5.out.trans HS1.out, hs6.trans HS2.out⟩, ⟨by have := HL4.out; have := HN0.out; show l4.length ≤ n; omega, by have := HL5.out; have := HN1.out; show l5.length ≤ n; omega, by have := HN2.out; show l6.length ≤ n; omega⟩, own_mod HF5.out hm6 (fun k hk e => Pl.own_two HF5.out HR5.out (by decide) hk e), own_mod HO5.out hm6 (fun k hk e => HD.out.ap k (by rw [← HB5.out]; exact hk) e), ho6,
  HK5.out.trans (Pl.Kx.mod hm6 (Nat.le_of_lt hbl5) (fun k hk => ⟨by have := (HR5.out.lt k hk).1; omega, Pl.row_kind HR5.out (by decide) hk⟩))⟩
 have HC6 : Hid (CC w6) := Lh (by rw [HCC.out]; exact ⟨cQ 0 HX6.out, cQ 1 HX6.out, cQ 2 HX6.out⟩)
 clear hs6 hl6 ho6 hm6 hb6
 go_wp2_with fail
 refine RelD.next_mk (fun _ => HC6.out) ?_
 refine RelD.actL 15 2 rfl (by kernel_rfl) ?_
 simp only [dpZ, dpS, tkS, tkZ]
 go_wp2_with fail
 refine RelD.next_mk (fun _ => HC6.out) ?_
 refine RelD.actL 16 1 rfl (by kernel_rfl) ?_
 simp only [dpZ, dpS, tkS, tkZ]
 go_wp2_with fail
 refine RelD.next_mk (fun _ => HC6.out) ?_
 refine RelD.actL 17 0 rfl (by kernel_rfl) ?_
 simp only [dpZ, dpS, tkS, tkZ]
 go_wp2_with fail
 refine RelD.next_mk (fun h => absurd h (by decide)) ?_
 refine RelD.endL (by kernel_rfl) ?_
 go_wp2_with fail
 exact bodyPost_ret (v := .tuple #[.slice d4 l4.length c4, .slice d5 l5.length c5, .slice d6 l6.length c6]) (by simp [results, Tryz.results131, go_sem]) rfl HF.out
namespace Pl
open Tj
theorem xchk_len {P : Pg.Prog} {ps : List Hd.Fld} {l : List EN} (h : (xchk P ps l).2 = 0) : l.length ≤ 24 := by
 unfold xchk at h
 split at h
 ·cases h
 ·omega
theorem valE_len {P : Pg.Prog} {ps : List Hd.Fld} {l : List EN} {w : Int} (h : valE P ps l w = 0) : l.length ≤ 24 := by
 unfold valE at h
 split at h
 ·cases h
 ·exact xchk_len h
theorem stm_len {F : FP} {ps : List Hd.Fld} {s : Stm} (h : stmE F ps s = 0) : (s.k = 1 → s.va.length ≤ 24) ∧ (s.k = 4 ∨ s.k = 5 → s.ix.length ≤ 24) ∧ (s.k = 5 → s.va.length ≤ 24) ∧ (s.k = 2 ∨ s.k = 3 → 0 ≤ s.hd ∧ s.hd < F.P.hs.length) := by
 unfold stmE at h
 refine ⟨fun hk => ?_, fun hk => ?_, fun hk => ?_, fun hk => ?_⟩
 ·rw [if_pos hk] at h
  split at h
  ·exact valE_len h
  ·cases h
 ·rw [if_neg (by omega), if_neg (by omega)] at h
  by_cases h4 : s.k = 4
  ·rw [if_pos h4] at h
   split at h
   ·split at h
    ·rename_i hx; exact absurd h hx
    ·rename_i hx; exact xchk_len (by simpa using hx)
   ·cases h
  ·rw [if_neg h4, if_pos (by omega)] at h
   split at h
   ·split at h
    ·rename_i hx; exact absurd h hx
    ·rename_i hx; exact xchk_len (by simpa using hx)
   ·cases h
 ·rw [if_neg (by omega), if_neg (by omega), if_neg (by omega), if_pos hk] at h
  split at h
  ·split at h
   ·rename_i hx; exact absurd h hx
   ·exact valE_len h
  ·cases h
 ·rw [if_neg (by omega), if_pos hk] at h
  split at h
  ·cases h
  ·omega
theorem acB_len {F : FP} (i : Int) : (acB F i).length ≤ 12 := by
 unfold acB
 split
 ·rename_i a _
  split
  ·rename_i h
   unfold actE at h
   split at h
   ·rename_i hd; exact absurd h hd
   ·rename_i hd
    have hd : declE a = 0 := by simpa using hd
    unfold declE at hd
    split at hd
    ·split at hd
     ·cases hd
     ·omega
    ·cases hd
  ·exact Nat.zero_le _
 ·exact Nat.zero_le _
theorem acB_stm {F : FP} {i : Int} {s : Stm} (h : s ∈ acB F i) : ∃ ps, stmE F ps s = 0 := by
 unfold acB at h
 split at h
 ·rename_i a _
  split at h
  ·rename_i h1
   unfold actE at h1
   split at h1
   ·rename_i hd; exact absurd h1 hd
   ·exact ⟨a.ps, firstE_ok h1 s h⟩
  ·cases h
 ·cases h
theorem app_assoc (a b c : Acc) : a.app (b.app c) = (a.app b).app c := by simp [Acc.app]
theorem app_nil (a : Acc) : a.app ⟨[], [], []⟩ = a := by simp [Acc.app]
theorem accs_add {α : Type} {g : α → Acc} {l : List α} {k : Nat} {x : α} (h : l[k]? = some x) : accs g (l.take (k + 1)) = (accs g (l.take k)).app (g x) := by
 unfold accs
 rw [List.take_add_one, h, List.foldl_append]; rfl
theorem SameA.pf {a x : Acc} (h : SameA a x) (l : List (Int × Int)) : SameA ⟨a.f ++ l, a.h, a.r⟩ (x.app ⟨l, [], []⟩) := by
 have := h.app (SameA.refl ⟨l, [], []⟩)
 simpa [Acc.app] using this
theorem SameA.ph {a x : Acc} (h : SameA a x) (l : List Int) : SameA ⟨a.f, a.h ++ l, a.r⟩ (x.app ⟨[], l, []⟩) := by
 have := h.app (SameA.refl ⟨[], l, []⟩)
 simpa [Acc.app] using this
theorem SameA.pr {a x : Acc} (h : SameA a x) (l : List Int) : SameA ⟨a.f, a.h, a.r ++ l⟩ (x.app ⟨[], [], l⟩) := by
 have := h.app (SameA.refl ⟨[], [], l⟩)
 simpa [Acc.app] using this
theorem Acc.le.pf {a : Acc} {n : Nat} (h : a.le n) (x : Int × Int) : Acc.le ⟨a.f ++ [x], a.h, a.r⟩ (n + 1) := by
 obtain ⟨h1, h2, h3⟩ := h
 exact ⟨by show (a.f ++ [x]).length ≤ _; rw [List.length_append]; show a.f.length + 1 ≤ _; omega, by show a.h.length ≤ _; omega, by show a.r.length ≤ _; omega⟩
theorem Acc.le.ph {a : Acc} {n : Nat} (h : a.le n) (x : Int) : Acc.le ⟨a.f, a.h ++ [x], a.r⟩ (n + 1) := by
 obtain ⟨h1, h2, h3⟩ := h
 exact ⟨by show a.f.length ≤ _; omega, by show (a.h ++ [x]).length ≤ _; rw [List.length_append]; show a.h.length + 1 ≤ _; omega, by show a.r.length ≤ _; omega⟩
theorem Acc.le.pr {a : Acc} {n : Nat} (h : a.le n) (x : Int) : Acc.le ⟨a.f, a.h, a.r ++ [x]⟩ (n + 1) := by
 obtain ⟨h1, h2, h3⟩ := h
 exact ⟨by show a.f.length ≤ _; omega, by show a.h.length ≤ _; omega, by show (a.r ++ [x]).length ≤ _; rw [List.length_append]; show a.r.length + 1 ≤ _; omega⟩
theorem Acc.le.mono {a : Acc} {n m : Nat} (h : a.le n) (hm : n ≤ m) : a.le m := ⟨Nat.le_trans h.1 hm, Nat.le_trans h.2.1 hm, Nat.le_trans h.2.2 hm⟩
/-- what body returns -/
def BodyP (W0 W : World) (F : FP) (i : Int) (e : Ending) (w' : World) : Prop := ∃ oa c, e = .returned (.slice oa (acB F i).length c) ∧ Ext W w' ∧ Stms W0 (.slice oa (acB F i).length c) (acB F i) ∧ (acB F i).length ≤ c ∧ c ≤ maxLen
end Pl
theorem abody_any {W0 W : World} {p : Pg.PV} {F : Tj.FP} (hF : Tj.IsF W0 p F) (hx0 : Ext W0 W) (i : Int) : Calls Tryz.prog 129 #[p.val, .int .i64 i] W (Pl.BodyP W0 W F i) := by
 have HC := Lh (fun (w : World) (hx : Ext W w) => acheck_any (hF.ext (hx0.trans hx)) i)
 obtain ⟨a1, a2, a3, a4, a5, a6, a7, a8, m1, m2, m3, m4, m5, m6, n7, m7, m8, hf⟩ := hF.form
 obtain ⟨rfl, hnm, hhs, hmd, hrs, has, hts, hss, hct, hdp, l1, l2, l3, l4, l5, l6, l7, l8⟩ := hf
 dsimp only [Pg.PV.val] at HC ⊢
 have bx := aH W (.cells (Yq0 F a1 m1 a2 m2 a3 m3 a4 m4 a5 m5 a6 m6 a7 m7 n7 a8 m8) 31)
 have k0 := alw (cQ 0 bx)
 have k1 := alw (cQ 1 bx)
 have k2 := alw (cQ 2 bx)
 have k3 := alw (cQ 3 bx)
 have k4 := alw (cQ 4 bx)
 have k5 := alw (cQ 5 bx)
 have k6 := alw (cQ 6 bx)
 have k7 := alw (cQ 7 bx)
 have k8 := alw (cQ 8 bx)
 clear bx
 clear hF hnm hhs hmd hrs hts hss hct hdp
 by_cases h0 : Tj.actI F i = 0
 ·obtain ⟨a, hat, ha0⟩ : ∃ a, Tj.at? F.ac i = some a ∧ Tj.actE F a = 0 := by
   unfold Tj.actI at h0
   cases h : Tj.at? F.ac i with
   | none => rw [h] at h0; cases h0
   | some a => rw [h] at h0; exact ⟨a, rfl, h0⟩
  obtain ⟨ht0, ht1, hq⟩ := Tj.at_get hat
  obtain ⟨q, rfl⟩ := Int.eq_ofNat_of_zero_le ht0
  rw [Int.toNat_natCast] at hq
  obtain ⟨ab, ao, rfl, _, _⟩ := Rows.at has (by omega)
  obtain ⟨pa, pc, ba, bc, _, _, hbd, _, hbc, g0, g1, g2⟩ := acts_at has q a hq rfl
  have y0 := alw (hx0.cell g0)
  have y1 := alw (hx0.cell g1)
  have y2 := alw (hx0.cell g2)
  have hB : Pl.acB F (q : Int) = a.bd := by unfold Pl.acB; rw [hat]; exact if_pos ha0
  have HR : Hid (∀ w, Ext W w → Pl.BodyP W0 W F (q : Int) (.returned (.slice ba a.bd.length bc)) w) := Lh (fun w hx => by
   unfold Pl.BodyP
   rw [hB]
   exact ⟨ba, bc, rfl, hx, hbd, hbc.1, hbc.2⟩)
  rw [h0] at HC
  clear h0 hat has ht0 hx0 hq hbd hbc g0 g1 g2 hB
  go_enter Tryz.func129, Tryz.ntmps129
  go_wp2_with fail
  refine (HC.out _ grows).mono ?_
  rintro e w3 ⟨i3, rfl, x3⟩
  have s3 := Sm x3
  go_wp2_with fail
  go_ret
  exact HR.out _ grows
 ·have hB : Pl.acB F i = [] := by
   unfold Pl.acB
   unfold Tj.actI at h0
   cases h : Tj.at? F.ac i with
   | none => rfl
   | some a => rw [h] at h0; exact if_neg h0
  have HR : Hid (∀ w, Ext W w → Pl.BodyP W0 W F i (.returned (.slice none 0 0)) w) := Lh (fun w hx => by
   unfold Pl.BodyP
   rw [hB]
   exact ⟨none, 0, rfl, hx, .inl ⟨rfl, rfl⟩, Nat.le_refl _, Nat.zero_le _⟩)
  obtain ⟨z, hz⟩ : ∃ z, z = Tj.actI F i := ⟨_, rfl⟩
  rw [← hz] at HC h0
  have z1 : (z != 0) = true := nT h0
  clear hz h0 has hB hx0
  go_enter Tryz.func129, Tryz.ntmps129
  go_wp2_with fail
  refine (HC.out _ grows).mono ?_
  rintro e w3 ⟨i3, rfl, x3⟩
  have s3 := Sm x3
  go_wp2_with fail
  go_ret
  exact HR.out _ grows
namespace Pl
/-- what Reads and Writes return: three lists, which are a as sets -/
def AccR (W : World) (a : Acc) (e : Ending) (w' : World) : Prop := ∃ v1 v2 v3 a', e = .returned (.tuple #[v1, v2, v3]) ∧ SameA a' a ∧ a'.le 10000 ∧ w'.ownsRow W.heap.size 88 2 v1 a'.f.length (a'.f.flatMap fE) ∧ w'.ownsRow W.heap.size 3 1 v2 a'.h.length (a'.h.map (Value.int .i64)) ∧ w'.ownsRow W.heap.size 3 1 v3 a'.r.length (a'.r.map (Value.int .i64)) ∧ Ext W w'
end Pl
abbrev Yq9 (sh : Int) (sf : Int) (sr : Int) (sd : Int) (xa : Option Addr) (xc : Nat) (ix_length : Nat) (va : Option Addr) (vc : Nat) (vl_length : Nat) : Array Value := #[.int .i64 4, .int .i64 sh, .int .i64 sf, .int .i64 sr, .int .i64 sd, .slice xa ix_length xc, .slice va vl_length vc]
abbrev Yq10 (sh : Int) (sf : Int) (sr : Int) (sd : Int) (xa : Option Addr) (xc : Nat) (ix_length : Nat) (va : Option Addr) (vc : Nat) (vl_length : Nat) : Array Value := #[.int .i64 1, .int .i64 sh, .int .i64 sf, .int .i64 sr, .int .i64 sd, .slice xa ix_length xc, .slice va vl_length vc]
abbrev Yq11 (sh : Int) (sf : Int) (sr : Int) (sd : Int) (xa : Option Addr) (xc : Nat) (ix_length : Nat) (va : Option Addr) (vc : Nat) (vl_length : Nat) : Array Value := #[.int .i64 5, .int .i64 sh, .int .i64 sf, .int .i64 sr, .int .i64 sd, .slice xa ix_length xc, .slice va vl_length vc]
abbrev Yq13 (sh : Int) (sf : Int) (sr : Int) (sd : Int) (xa : Option Addr) (xc : Nat) (ix_length : Nat) (va : Option Addr) (vc : Nat) (vl_length : Nat) : Array Value := #[.int .i64 2, .int .i64 sh, .int .i64 sf, .int .i64 sr, .int .i64 sd, .slice xa ix_length xc, .slice va vl_length vc]
theorem areads_any {W : World} {p : Pg.PV} {F : Tj.FP} (hF : Tj.IsF W p F) (i : Int) : Calls Tryz.prog 91 #[p.val, .int .i64 i] W (Pl.AccR W (Pl.acR F i)) := by
 have HBD := Lh (fun (w : World) (hx : Ext W w) => abody_any hF hx i)
 have hlb := Pl.acB_len (F := F) i
 have HSM : Hid (∀ s ∈ Pl.acB F i, ∃ ps, Tj.stmE F ps s = 0) := Lh (fun s hs => Pl.acB_stm hs)
 obtain ⟨a1, a2, a3, a4, a5, a6, a7, a8, m1, m2, m3, m4, m5, m6, n7, m7, m8, hf⟩ := hF.form
 obtain ⟨rfl, hnm, hhs, hmd, hrs, has, hts, hss, hct, hdp, l1, l2, l3, l4, l5, l6, l7, l8⟩ := hf
 dsimp only [Pg.PV.val] at HBD ⊢
 unfold Pl.acR
 unfold Pl.BodyP at HBD
 obtain ⟨Lb, hLb⟩ : ∃ z, z = Pl.acB F i := ⟨_, rfl⟩
 rw [← hLb] at HBD hlb HSM ⊢
 have bx := aH W (.cells (Yq0 F a1 m1 a2 m2 a3 m3 a4 m4 a5 m5 a6 m6 a7 m7 n7 a8 m8) 31)
 have k0 := alw (cQ 0 bx)
 have k1 := alw (cQ 1 bx)
 have k2 := alw (cQ 2 bx)
 have k3 := alw (cQ 3 bx)
 have k4 := alw (cQ 4 bx)
 have k5 := alw (cQ 5 bx)
 have k6 := alw (cQ 6 bx)
 have k7 := alw (cQ 7 bx)
 have k8 := alw (cQ 8 bx)
 clear bx
 have hS := Pl.AccB.start (W.alloc (.cells (Yq0 F a1 m1 a2 m2 a3 m3 a4 m4 a5 m5 a6 m6 a7 m7 n7 a8 m8) 31))
 rw [szA] at hS
 have HS0 := Lh hS
 have HXW : Hid (Ext W ((W.alloc (.cells (Yq0 F a1 m1 a2 m2 a3 m3 a4 m4 a5 m5 a6 m6 a7 m7 n7 a8 m8) 31)).alloc (.cells #[.slice none 0 0, .slice none 0 0, .slice none 0 0] 222))) := Lh grows
 clear hF hnm hhs hmd hrs has hts hss hct hdp hLb hS
 go_enter Tryz.func91, Tryz.ntmps91
 go_wp2_with fail
 refine (HBD.out _ grows).mono ?_
 rintro e w3 ⟨ba, bc, rfl, x3, hst, hb1, hb2⟩
 unfold maxLen at hb2
 have s3 := Sm x3
 have HB0 : Hid (Tj.Stms W (.slice ba Lb.length bc) Lb) := Lh hst
 have HI0 : Hid (∃ vf vh vr a', Pl.AccB w3 (W.heap.size + 1) vf vh vr a' ∧ Pl.SameA a' (Pl.accs Pl.stR (Lb.take 0)) ∧ a'.le (100 * 0) ∧ Pl.Kx (W.heap.size + 1) ((W.alloc (.cells (Yq0 F a1 m1 a2 m2 a3 m3 a4 m4 a5 m5 a6 m6 a7 m7 n7 a8 m8) 31)).alloc (.cells #[.slice none 0 0, .slice none 0 0, .slice none 0 0] 222)) w3) := Lh ⟨_, _, _, _, HS0.out.ext x3, Pl.SameA.refl _, ⟨Nat.le_refl _, Nat.le_refl _, Nat.le_refl _⟩, Pl.Kx.ext x3 (by rw [szA, szA]; omega)⟩
 clear hst x3 HS0
 go_wp2_with fail
 go_loopw [14] (fun q wr => ∃ k : Nat, k ≤ Lb.length ∧ q = .int .i64 k ∧ Hid (∃ vf vh vr a', Pl.AccB wr (W.heap.size + 1) vf vh vr a' ∧ Pl.SameA a' (Pl.accs Pl.stR (Lb.take k)) ∧ a'.le (100 * k) ∧ Pl.Kx (W.heap.size + 1) ((W.alloc (.cells (Yq0 F a1 m1 a2 m2 a3 m3 a4 m4 a5 m5 a6 m6 a7 m7 n7 a8 m8) 31)).alloc (.cells #[.slice none 0 0, .slice none 0 0, .slice none 0 0] 222)) wr)) (fun q _ => Lb.length - (intOf q).toNat)
 case atStart => exact ⟨0, Nat.zero_le _, rfl, HI0⟩
 case round =>
  obtain ⟨k, hk, rfl, HZ⟩ := hrel
  obtain ⟨vfr, vhr, vrr, ac0, habr, hsr, hlr, hkr⟩ := HZ.out
  by_cases hlt : k < Lb.length
  ·have HXR : Hid (Ext W wr) := Lh (Pl.Kx.low HXW.out (by omega) hkr)
   obtain ⟨⟨sk, sh, sf, sr, sd, ix, vl⟩, hx⟩ : ∃ y, Lb[k]? = some y := ⟨_, gE hlt⟩
   obtain ⟨sb, so, rfl, _, _⟩ := Rows.at HB0.out (by omega)
   obtain ⟨xa, xc, va, vc, hix, hvl, g0, g1, g2, g3, g4, g5, g6⟩ := stms_at HB0.out k _ hx rfl
   dsimp only at hix hvl g0 g1 g2 g3 g4 g5 g6
   have y0 := alw (HXR.out.cell g0)
   have y1 := alw (HXR.out.cell g1)
   have y2 := alw (HXR.out.cell g2)
   have y3 := alw (HXR.out.cell g3)
   have y4 := alw (HXR.out.cell g4)
   have y5 := alw (HXR.out.cell g5)
   have y6 := alw (HXR.out.cell g6)
   obtain ⟨ps, hse⟩ := HSM.out _ (List.mem_of_getElem? hx)
   obtain ⟨ln1, ln2, ln3, _⟩ := Pl.stm_len hse
   dsimp only at ln1 ln2 ln3
   have HIX := Lh hix
   have HVL := Lh hvl
   have HXK := Lh hx
   clear hix hvl g0 g1 g2 g3 g4 g5 g6 hse hx HZ
   by_cases hk1 : sk = 1
   ·subst hk1
    have hln := ln1 rfl
    clear ln1 ln2 ln3
    have HST0 : Hid ((wr.alloc (.cells (Yq10 sh sf sr sd xa xc ix.length va vc vl.length) 90)).heap[wr.heap.size]? = some (.cells (Yq10 sh sf sr sd xa xc ix.length va vc vl.length) 90 (0, 0))) := Lh (aH _ _)
    have hkx0 := hkr.trans (Pl.Kx.ext (grows (a := wr) (b := wr.alloc (.cells (Yq10 sh sf sr sd xa xc ix.length va vc vl.length) 90))) (Nat.le_of_lt habr.lt))
    have hab0 := habr.ext (grows (a := wr) (b := wr.alloc (.cells (Yq10 sh sf sr sd xa xc ix.length va vc vl.length) 90)))
    have hsa0 := hsr
    have hle0 := hlr
    clear habr hsr hlr hkr
    obtain ⟨va0, vc0, rfl⟩ := own_slice hab0.rf
    obtain ⟨vha0, vhc0, rfl⟩ := own_slice hab0.rh
    obtain ⟨vra0, vrc0, rfl⟩ := own_slice hab0.rr
    have HAB0 := Lh hab0
    have HSA0 := Lh hsa0
    have HLE0 := Lh hle0
    have HKX0 := Lh hkx0
    obtain ⟨hl00, hl10, hl20⟩ := hle0
    have bc00 := alw (cQ 0 hab0.box)
    have bc10 := alw (cQ 1 hab0.box)
    have bc20 := alw (cQ 2 hab0.box)
    clear hab0 hsa0 hkx0
    have sc00 := alw (cQ 0 HST0.out)
    have sc10 := alw (cQ 1 HST0.out)
    have sc20 := alw (cQ 2 HST0.out)
    have sc30 := alw (cQ 3 HST0.out)
    have sc40 := alw (cQ 4 HST0.out)
    have sc50 := alw (cQ 5 HST0.out)
    have sc60 := alw (cQ 6 HST0.out)
    go_wp2_with fail
    refine (aexpr_any (w := (wr.alloc (.cells (Yq10 sh sf sr sd xa xc ix.length va vc vl.length) 90))) HAB0.out HLE0.out (by omega) HVL.out (Pl.Kx.low HXW.out (by omega) HKX0.out) (by omega) (by omega)).mono ?_
    rintro e u1 ⟨rfl, vf1, vh1, vr1, ac1, hab1, hsb1, hle1, hkb1⟩
    have hsa1 := hsb1.trans (HSA0.out.app (Pl.SameA.refl _))
    have hkx1 := HKX0.out.trans hkb1
    have HST1 : Hid (u1.heap[wr.heap.size]? = some (.cells (Yq10 sh sf sr sd xa xc ix.length va vc vl.length) 90 (0, 0))) := Lh (hkb1.2 _ _ _ HST0.out)
    clear hsb1 hkb1
    obtain ⟨va1, vc1, rfl⟩ := own_slice hab1.rf
    obtain ⟨vha1, vhc1, rfl⟩ := own_slice hab1.rh
    obtain ⟨vra1, vrc1, rfl⟩ := own_slice hab1.rr
    have HAB1 := Lh hab1
    have HSA1 := Lh hsa1
    have HLE1 := Lh hle1
    have HKX1 := Lh hkx1
    obtain ⟨hl01, hl11, hl21⟩ := hle1
    have bc01 := alw (cQ 0 hab1.box)
    have bc11 := alw (cQ 1 hab1.box)
    have bc21 := alw (cQ 2 hab1.box)
    clear hab1 hsa1 hkx1
    have sc01 := alw (cQ 0 HST1.out)
    have sc11 := alw (cQ 1 HST1.out)
    have sc21 := alw (cQ 2 HST1.out)
    have sc31 := alw (cQ 3 HST1.out)
    have sc41 := alw (cQ 4 HST1.out)
    have sc51 := alw (cQ 5 HST1.out)
    have sc61 := alw (cQ 6 HST1.out)
    by_cases hd : sh = -1
    ·subst hd
     have HR : Hid (Pl.SameA ac1 (Pl.accs Pl.stR (Lb.take (k + 1)))) := Lh (by
      have e : Pl.stR ⟨1, -1, sf, sr, sd, ix, vl⟩ = Pl.exA vl := by simp [Pl.stR, Pl.app_nil]
      rw [Pl.accs_add HXK.out, e]
      exact HSA1.out)
     go_wp2_with fail
     go_roundw
     case rel => exact ⟨k + 1, by omega, by go_num, Lh ⟨_, _, _, ac1, HAB1.out, HR.out, HLE1.out.mono (by omega), HKX1.out⟩⟩
     case measure => simp [intOf]; omega
    ·have zd : (sh != -1) = true := nT hd
     have HDN := Lh hd
     clear hd
     have HSR2 := Lh (src_one u1 (.int .i64 sh) 3 rfl)
     try rw [szA] at HSR2
     go_wp2_with (at_builtin; refine wpList_append_fresh rfl (.tmp 69) (.tmp 73) 29 rfl (W.heap.size + 1 + 1) 3 (.int .i64 0) 1 8 Tryz.underlying29 info_i64 rfl (by decide) (.slice vha1 ac1.h.length vhc1) ac1.h.length _ rfl (HAB1.out.ext (grows (a := u1) (b := (u1.alloc (.cells #[.int .i64 sh] 3))))).rh _ 1 _ rfl HSR2.out ?d1 ?d2 ?d3 ?_)
     case d1 => unfold maxLen; omega
     case d2 => omega
     case d3 => (have := HAB1.out.lt; (try simp only [szA] at *); omega)
     intro v' g2 hown hgr hfr
     obtain ⟨ea2, ec2, rfl⟩ := own_slice hown
     have HP2 := Lh (HAB1.out.puth (l := [sh]) (grows (a := u1) (b := (u1.alloc (.cells #[.int .i64 sh] 3)))) hown hgr (by rcases hfr with h | h; exact .inl h; exact .inr (fun k hk => by have := h k hk; (try rw [szA]); (try rw [szA]); omega)))
     have hbx2 := (grown_mod hgr).heap (HAB1.out.ext (grows (a := u1) (b := (u1.alloc (.cells #[.int .i64 sh] 3))))).box (fun hk => by have := ((HAB1.out.ext (grows (a := u1) (b := (u1.alloc (.cells #[.int .i64 sh] 3))))).rh.lt _ hk.symm).1; omega)
     have yy2 : g2.cell? ⟨W.heap.size + 1, 1, none⟩ = some (.slice vha1 ac1.h.length vhc1) := cQ 1 hbx2
     have yf2 : g2.frozen? ⟨W.heap.size + 1, 1, none⟩ = false := free_of hbx2
     clear hown hgr hfr hbx2
     go_wp2_with (refine wpList_store_cellK rfl 29 (.tmp 75) (.tmp 74) rfl (W.heap.size + 1) 1 (.slice vha1 ac1.h.length vhc1) (.slice ea2 (ac1.h.length + 1) ec2) rfl rfl (by kernel_rfl) rfl yy2 yf2 ?_)
     intro u2 hz2
     rw [← hz2.out] at HP2
     clear hz2 yy2 yf2
     have HST2 : Hid (u2.heap[wr.heap.size]? = some (.cells (Yq10 sh sf sr sd xa xc ix.length va vc vl.length) 90 (0, 0))) := Lh (HP2.out.2.2 _ _ _ HST1.out)
     have hkx2 := HKX1.out.trans HP2.out.2
     have hsa2 := HSA1.out.ph [sh]
     have hle2 := HLE1.out.ph sh
     obtain ⟨ac2, ha2⟩ : ∃ z : Pl.Acc, z = ⟨ac1.f, ac1.h ++ [sh], ac1.r⟩ := ⟨_, rfl⟩
     have hab2 := HP2.out.1
     rw [← ha2] at hsa2 hle2 hab2
     clear HP2 ha2
     obtain ⟨va2, vc2, hvf2⟩ := own_slice hab2.rf
     obtain ⟨vha2, vhc2, hvh2⟩ := own_slice hab2.rh
     obtain ⟨vra2, vrc2, hvr2⟩ := own_slice hab2.rr
     rw [hvf2] at hab2
     rw [hvh2] at hab2
     rw [hvr2] at hab2
     clear hvf2
     clear hvh2
     clear hvr2
     have HAB2 := Lh hab2
     have HSA2 := Lh hsa2
     have HLE2 := Lh hle2
     have HKX2 := Lh hkx2
     obtain ⟨hl02, hl12, hl22⟩ := hle2
     have bc02 := alw (cQ 0 hab2.box)
     have bc12 := alw (cQ 1 hab2.box)
     have bc22 := alw (cQ 2 hab2.box)
     clear hab2 hsa2 hkx2
     have sc02 := alw (cQ 0 HST2.out)
     have sc12 := alw (cQ 1 HST2.out)
     have sc22 := alw (cQ 2 HST2.out)
     have sc32 := alw (cQ 3 HST2.out)
     have sc42 := alw (cQ 4 HST2.out)
     have sc52 := alw (cQ 5 HST2.out)
     have sc62 := alw (cQ 6 HST2.out)
     have HR : Hid (Pl.SameA ac2 (Pl.accs Pl.stR (Lb.take (k + 1)))) := Lh (by
      have e : Pl.stR ⟨1, sh, sf, sr, sd, ix, vl⟩ = (Pl.exA vl).app ⟨[], [sh], []⟩ := by have := HDN.out; simp [Pl.stR, this]
      rw [Pl.accs_add HXK.out, e, Pl.app_assoc]
      exact HSA2.out)
     go_wp2_with fail
     go_roundw
     case rel => exact ⟨k + 1, by omega, by go_num, Lh ⟨_, _, _, ac2, HAB2.out, HR.out, HLE2.out.mono (by omega), HKX2.out⟩⟩
     case measure => simp [intOf]; omega
   ·by_cases hk2 : sk = 2
    ·subst hk2
     clear ln1 ln2 ln3
     have HST0 : Hid ((wr.alloc (.cells (Yq13 sh sf sr sd xa xc ix.length va vc vl.length) 90)).heap[wr.heap.size]? = some (.cells (Yq13 sh sf sr sd xa xc ix.length va vc vl.length) 90 (0, 0))) := Lh (aH _ _)
     have hkx0 := hkr.trans (Pl.Kx.ext (grows (a := wr) (b := wr.alloc (.cells (Yq13 sh sf sr sd xa xc ix.length va vc vl.length) 90))) (Nat.le_of_lt habr.lt))
     have hab0 := habr.ext (grows (a := wr) (b := wr.alloc (.cells (Yq13 sh sf sr sd xa xc ix.length va vc vl.length) 90)))
     have hsa0 := hsr
     have hle0 := hlr
     clear habr hsr hlr hkr
     obtain ⟨va0, vc0, rfl⟩ := own_slice hab0.rf
     obtain ⟨vha0, vhc0, rfl⟩ := own_slice hab0.rh
     obtain ⟨vra0, vrc0, rfl⟩ := own_slice hab0.rr
     have HAB0 := Lh hab0
     have HSA0 := Lh hsa0
     have HLE0 := Lh hle0
     have HKX0 := Lh hkx0
     obtain ⟨hl00, hl10, hl20⟩ := hle0
     have bc00 := alw (cQ 0 hab0.box)
     have bc10 := alw (cQ 1 hab0.box)
     have bc20 := alw (cQ 2 hab0.box)
     clear hab0 hsa0 hkx0
     have sc00 := alw (cQ 0 HST0.out)
     have sc10 := alw (cQ 1 HST0.out)
     have sc20 := alw (cQ 2 HST0.out)
     have sc30 := alw (cQ 3 HST0.out)
     have sc40 := alw (cQ 4 HST0.out)
     have sc50 := alw (cQ 5 HST0.out)
     have sc60 := alw (cQ 6 HST0.out)
     have HSR1 := Lh (src_one (wr.alloc (.cells (Yq13 sh sf sr sd xa xc ix.length va vc vl.length) 90)) (.int .i64 sd) 3 rfl)
     try rw [szA] at HSR1
     go_wp2_with (at_builtin; refine wpList_append_fresh rfl (.tmp 28) (.tmp 31) 29 rfl (W.heap.size + 1 + 1) 3 (.int .i64 0) 1 8 Tryz.underlying29 info_i64 rfl (by decide) (.slice vha0 ac0.h.length vhc0) ac0.h.length _ rfl (HAB0.out.ext (grows (a := (wr.alloc (.cells (Yq13 sh sf sr sd xa xc ix.length va vc vl.length) 90))) (b := ((wr.alloc (.cells (Yq13 sh sf sr sd xa xc ix.length va vc vl.length) 90)).alloc (.cells #[.int .i64 sd] 3))))).rh _ 1 _ rfl HSR1.out ?d1 ?d2 ?d3 ?_)
     case d1 => unfold maxLen; omega
     case d2 => omega
     case d3 => (have := HAB0.out.lt; (try simp only [szA] at *); omega)
     intro v' g1 hown hgr hfr
     obtain ⟨ea1, ec1, rfl⟩ := own_slice hown
     have HP1 := Lh (HAB0.out.puth (l := [sd]) (grows (a := (wr.alloc (.cells (Yq13 sh sf sr sd xa xc ix.length va vc vl.length) 90))) (b := ((wr.alloc (.cells (Yq13 sh sf sr sd xa xc ix.length va vc vl.length) 90)).alloc (.cells #[.int .i64 sd] 3)))) hown hgr (by rcases hfr with h | h; exact .inl h; exact .inr (fun k hk => by have := h k hk; (try rw [szA]); (try rw [szA]); omega)))
     have hbx1 := (grown_mod hgr).heap (HAB0.out.ext (grows (a := (wr.alloc (.cells (Yq13 sh sf sr sd xa xc ix.length va vc vl.length) 90))) (b := ((wr.alloc (.cells (Yq13 sh sf sr sd xa xc ix.length va vc vl.length) 90)).alloc (.cells #[.int .i64 sd] 3))))).box (fun hk => by have := ((HAB0.out.ext (grows (a := (wr.alloc (.cells (Yq13 sh sf sr sd xa xc ix.length va vc vl.length) 90))) (b := ((wr.alloc (.cells (Yq13 sh sf sr sd xa xc ix.length va vc vl.length) 90)).alloc (.cells #[.int .i64 sd] 3))))).rh.lt _ hk.symm).1; omega)
     have yy1 : g1.cell? ⟨W.heap.size + 1, 1, none⟩ = some (.slice vha0 ac0.h.length vhc0) := cQ 1 hbx1
     have yf1 : g1.frozen? ⟨W.heap.size + 1, 1, none⟩ = false := free_of hbx1
     clear hown hgr hfr hbx1
     go_wp2_with (refine wpList_store_cellK rfl 29 (.tmp 33) (.tmp 32) rfl (W.heap.size + 1) 1 (.slice vha0 ac0.h.length vhc0) (.slice ea1 (ac0.h.length + 1) ec1) rfl rfl (by kernel_rfl) rfl yy1 yf1 ?_)
     intro u1 hz1
     rw [← hz1.out] at HP1
     clear hz1 yy1 yf1
     have HST1 : Hid (u1.heap[wr.heap.size]? = some (.cells (Yq13 sh sf sr sd xa xc ix.length va vc vl.length) 90 (0, 0))) := Lh (HP1.out.2.2 _ _ _ HST0.out)
     have hkx1 := HKX0.out.trans HP1.out.2
     have hsa1 := HSA0.out.ph [sd]
     have hle1 := HLE0.out.ph sd
     obtain ⟨ac1, ha1⟩ : ∃ z : Pl.Acc, z = ⟨ac0.f, ac0.h ++ [sd], ac0.r⟩ := ⟨_, rfl⟩
     have hab1 := HP1.out.1
     rw [← ha1] at hsa1 hle1 hab1
     clear HP1 ha1
     obtain ⟨va1, vc1, hvf1⟩ := own_slice hab1.rf
     obtain ⟨vha1, vhc1, hvh1⟩ := own_slice hab1.rh
     obtain ⟨vra1, vrc1, hvr1⟩ := own_slice hab1.rr
     rw [hvf1] at hab1
     rw [hvh1] at hab1
     rw [hvr1] at hab1
     clear hvf1
     clear hvh1
     clear hvr1
     have HAB1 := Lh hab1
     have HSA1 := Lh hsa1
     have HLE1 := Lh hle1
     have HKX1 := Lh hkx1
     obtain ⟨hl01, hl11, hl21⟩ := hle1
     have bc01 := alw (cQ 0 hab1.box)
     have bc11 := alw (cQ 1 hab1.box)
     have bc21 := alw (cQ 2 hab1.box)
     clear hab1 hsa1 hkx1
     have sc01 := alw (cQ 0 HST1.out)
     have sc11 := alw (cQ 1 HST1.out)
     have sc21 := alw (cQ 2 HST1.out)
     have sc31 := alw (cQ 3 HST1.out)
     have sc41 := alw (cQ 4 HST1.out)
     have sc51 := alw (cQ 5 HST1.out)
     have sc61 := alw (cQ 6 HST1.out)
     have HR : Hid (Pl.SameA ac1 (Pl.accs Pl.stR (Lb.take (k + 1)))) := Lh (by
      have e : Pl.stR ⟨2, sh, sf, sr, sd, ix, vl⟩ = ⟨[], [sd], []⟩ := by simp [Pl.stR, Pl.app_nil]
      rw [Pl.accs_add HXK.out, e]
      exact HSA1.out)
     go_wp2_with fail
     go_roundw
     case rel => exact ⟨k + 1, by omega, by go_num, Lh ⟨_, _, _, ac1, HAB1.out, HR.out, HLE1.out.mono (by omega), HKX1.out⟩⟩
     case measure => simp [intOf]; omega
    ·by_cases hk4 : sk = 4
     ·subst hk4
      have hln := ln2 (.inl rfl)
      clear ln1 ln2 ln3
      have HST0 : Hid ((wr.alloc (.cells (Yq9 sh sf sr sd xa xc ix.length va vc vl.length) 90)).heap[wr.heap.size]? = some (.cells (Yq9 sh sf sr sd xa xc ix.length va vc vl.length) 90 (0, 0))) := Lh (aH _ _)
      have hkx0 := hkr.trans (Pl.Kx.ext (grows (a := wr) (b := wr.alloc (.cells (Yq9 sh sf sr sd xa xc ix.length va vc vl.length) 90))) (Nat.le_of_lt habr.lt))
      have hab0 := habr.ext (grows (a := wr) (b := wr.alloc (.cells (Yq9 sh sf sr sd xa xc ix.length va vc vl.length) 90)))
      have hsa0 := hsr
      have hle0 := hlr
      clear habr hsr hlr hkr
      obtain ⟨va0, vc0, rfl⟩ := own_slice hab0.rf
      obtain ⟨vha0, vhc0, rfl⟩ := own_slice hab0.rh
      obtain ⟨vra0, vrc0, rfl⟩ := own_slice hab0.rr
      have HAB0 := Lh hab0
      have HSA0 := Lh hsa0
      have HLE0 := Lh hle0
      have HKX0 := Lh hkx0
      obtain ⟨hl00, hl10, hl20⟩ := hle0
      have bc00 := alw (cQ 0 hab0.box)
      have bc10 := alw (cQ 1 hab0.box)
      have bc20 := alw (cQ 2 hab0.box)
      clear hab0 hsa0 hkx0
      have sc00 := alw (cQ 0 HST0.out)
      have sc10 := alw (cQ 1 HST0.out)
      have sc20 := alw (cQ 2 HST0.out)
      have sc30 := alw (cQ 3 HST0.out)
      have sc40 := alw (cQ 4 HST0.out)
      have sc50 := alw (cQ 5 HST0.out)
      have sc60 := alw (cQ 6 HST0.out)
      go_wp2_with fail
      refine (aexpr_any (w := (wr.alloc (.cells (Yq9 sh sf sr sd xa xc ix.length va vc vl.length) 90))) HAB0.out HLE0.out (by omega) HIX.out (Pl.Kx.low HXW.out (by omega) HKX0.out) (by omega) (by omega)).mono ?_
      rintro e u1 ⟨rfl, vf1, vh1, vr1, ac1, hab1, hsb1, hle1, hkb1⟩
      have hsa1 := hsb1.trans (HSA0.out.app (Pl.SameA.refl _))
      have hkx1 := HKX0.out.trans hkb1
      have HST1 : Hid (u1.heap[wr.heap.size]? = some (.cells (Yq9 sh sf sr sd xa xc ix.length va vc vl.length) 90 (0, 0))) := Lh (hkb1.2 _ _ _ HST0.out)
      clear hsb1 hkb1
      obtain ⟨va1, vc1, rfl⟩ := own_slice hab1.rf
      obtain ⟨vha1, vhc1, rfl⟩ := own_slice hab1.rh
      obtain ⟨vra1, vrc1, rfl⟩ := own_slice hab1.rr
      have HAB1 := Lh hab1
      have HSA1 := Lh hsa1
      have HLE1 := Lh hle1
      have HKX1 := Lh hkx1
      obtain ⟨hl01, hl11, hl21⟩ := hle1
      have bc01 := alw (cQ 0 hab1.box)
      have bc11 := alw (cQ 1 hab1.box)
      have bc21 := alw (cQ 2 hab1.box)
      clear hab1 hsa1 hkx1
      have sc01 := alw (cQ 0 HST1.out)
      have sc11 := alw (cQ 1 HST1.out)
      have sc21 := alw (cQ 2 HST1.out)
      have sc31 := alw (cQ 3 HST1.out)
      have sc41 := alw (cQ 4 HST1.out)
      have sc51 := alw (cQ 5 HST1.out)
      have sc61 := alw (cQ 6 HST1.out)
      have HSR2 := Lh (src_one u1 (.int .i64 sr) 3 rfl)
      try rw [szA] at HSR2
      go_wp2_with (at_builtin; refine wpList_append_fresh rfl (.tmp 40) (.tmp 43) 29 rfl (W.heap.size + 1 + 1) 3 (.int .i64 0) 1 8 Tryz.underlying29 info_i64 rfl (by decide) (.slice vra1 ac1.r.length vrc1) ac1.r.length _ rfl (HAB1.out.ext (grows (a := u1) (b := (u1.alloc (.cells #[.int .i64 sr] 3))))).rr _ 1 _ rfl HSR2.out ?d1 ?d2 ?d3 ?_)
      case d1 => unfold maxLen; omega
      case d2 => omega
      case d3 => (have := HAB1.out.lt; (try simp only [szA] at *); omega)
      intro v' g2 hown hgr hfr
      obtain ⟨ea2, ec2, rfl⟩ := own_slice hown
      have HP2 := Lh (HAB1.out.putr (l := [sr]) (grows (a := u1) (b := (u1.alloc (.cells #[.int .i64 sr] 3)))) hown hgr (by rcases hfr with h | h; exact .inl h; exact .inr (fun k hk => by have := h k hk; (try rw [szA]); (try rw [szA]); omega)))
      have hbx2 := (grown_mod hgr).heap (HAB1.out.ext (grows (a := u1) (b := (u1.alloc (.cells #[.int .i64 sr] 3))))).box (fun hk => by have := ((HAB1.out.ext (grows (a := u1) (b := (u1.alloc (.cells #[.int .i64 sr] 3))))).rr.lt _ hk.symm).1; omega)
      have yy2 : g2.cell? ⟨W.heap.size + 1, 2, none⟩ = some (.slice vra1 ac1.r.length vrc1) := cQ 2 hbx2
      have yf2 : g2.frozen? ⟨W.heap.size + 1, 2, none⟩ = false := free_of hbx2
      clear hown hgr hfr hbx2
      go_wp2_with (refine wpList_store_cellK rfl 29 (.tmp 45) (.tmp 44) rfl (W.heap.size + 1) 2 (.slice vra1 ac1.r.length vrc1) (.slice ea2 (ac1.r.length + 1) ec2) rfl rfl (by kernel_rfl) rfl yy2 yf2 ?_)
      intro u2 hz2
      rw [← hz2.out] at HP2
      clear hz2 yy2 yf2
      have HST2 : Hid (u2.heap[wr.heap.size]? = some (.cells (Yq9 sh sf sr sd xa xc ix.length va vc vl.length) 90 (0, 0))) := Lh (HP2.out.2.2 _ _ _ HST1.out)
      have hkx2 := HKX1.out.trans HP2.out.2
      have hsa2 := HSA1.out.pr [sr]
      have hle2 := HLE1.out.pr sr
      obtain ⟨ac2, ha2⟩ : ∃ z : Pl.Acc, z = ⟨ac1.f, ac1.h, ac1.r ++ [sr]⟩ := ⟨_, rfl⟩
      have hab2 := HP2.out.1
      rw [← ha2] at hsa2 hle2 hab2
      clear HP2 ha2
      obtain ⟨va2, vc2, hvf2⟩ := own_slice hab2.rf
      obtain ⟨vha2, vhc2, hvh2⟩ := own_slice hab2.rh
      obtain ⟨vra2, vrc2, hvr2⟩ := own_slice hab2.rr
      rw [hvf2] at hab2
      rw [hvh2] at hab2
      rw [hvr2] at hab2
      clear hvf2
      clear hvh2
      clear hvr2
      have HAB2 := Lh hab2
      have HSA2 := Lh hsa2
      have HLE2 := Lh hle2
      have HKX2 := Lh hkx2
      obtain ⟨hl02, hl12, hl22⟩ := hle2
      have bc02 := alw (cQ 0 hab2.box)
      have bc12 := alw (cQ 1 hab2.box)
      have bc22 := alw (cQ 2 hab2.box)
      clear hab2 hsa2 hkx2
      have sc02 := alw (cQ 0 HST2.out)
      have sc12 := alw (cQ 1 HST2.out)
      have sc22 := alw (cQ 2 HST2.out)
      have sc32 := alw (cQ 3 HST2.out)
      have sc42 := alw (cQ 4 HST2.out)
      have sc52 := alw (cQ 5 HST2.out)
      have sc62 := alw (cQ 6 HST2.out)
      by_cases hd : sh = -1
      ·subst hd
       have HR : Hid (Pl.SameA ac2 (Pl.accs Pl.stR (Lb.take (k + 1)))) := Lh (by
        have e : Pl.stR ⟨4, -1, sf, sr, sd, ix, vl⟩ = (Pl.exA ix).app ⟨[], [], [sr]⟩ := by simp [Pl.stR, Pl.app_nil]
        rw [Pl.accs_add HXK.out, e, Pl.app_assoc]
        exact HSA2.out)
       go_wp2_with fail
       go_roundw
       case rel => exact ⟨k + 1, by omega, by go_num, Lh ⟨_, _, _, ac2, HAB2.out, HR.out, HLE2.out.mono (by omega), HKX2.out⟩⟩
       case measure => simp [intOf]; omega
      ·have zd : (sh != -1) = true := nT hd
       have HDN := Lh hd
       clear hd
       have HSR3 := Lh (src_one u2 (.int .i64 sh) 3 rfl)
       try rw [szA] at HSR3
       go_wp2_with (at_builtin; refine wpList_append_fresh rfl (.tmp 69) (.tmp 73) 29 rfl (W.heap.size + 1 + 1) 3 (.int .i64 0) 1 8 Tryz.underlying29 info_i64 rfl (by decide) (.slice vha2 ac2.h.length vhc2) ac2.h.length _ rfl (HAB2.out.ext (grows (a := u2) (b := (u2.alloc (.cells #[.int .i64 sh] 3))))).rh _ 1 _ rfl HSR3.out ?d1 ?d2 ?d3 ?_)
       case d1 => unfold maxLen; omega
       case d2 => omega
       case d3 => (have := HAB2.out.lt; (try simp only [szA] at *); omega)
       intro v' g3 hown hgr hfr
       obtain ⟨ea3, ec3, rfl⟩ := own_slice hown
       have HP3 := Lh (HAB2.out.puth (l := [sh]) (grows (a := u2) (b := (u2.alloc (.cells #[.int .i64 sh] 3)))) hown hgr (by rcases hfr with h | h; exact .inl h; exact .inr (fun k hk => by have := h k hk; (try rw [szA]); (try rw [szA]); omega)))
       have hbx3 := (grown_mod hgr).heap (HAB2.out.ext (grows (a := u2) (b := (u2.alloc (.cells #[.int .i64 sh] 3))))).box (fun hk => by have := ((HAB2.out.ext (grows (a := u2) (b := (u2.alloc (.cells #[.int .i64 sh] 3))))).rh.lt _ hk.symm).1; omega)
       have yy3 : g3.cell? ⟨W.heap.size + 1, 1, none⟩ = some (.slice vha2 ac2.h.length vhc2) := cQ 1 hbx3
       have yf3 : g3.frozen? ⟨W.heap.size + 1, 1, none⟩ = false := free_of hbx3
       clear hown hgr hfr hbx3
       go_wp2_with (refine wpList_store_cellK rfl 29 (.tmp 75) (.tmp 74) rfl (W.heap.size + 1) 1 (.slice vha2 ac2.h.length vhc2) (.slice ea3 (ac2.h.length + 1) ec3) rfl rfl (by kernel_rfl) rfl yy3 yf3 ?_)
       intro u3 hz3
       rw [← hz3.out] at HP3
       clear hz3 yy3 yf3
       have HST3 : Hid (u3.heap[wr.heap.size]? = some (.cells (Yq9 sh sf sr sd xa xc ix.length va vc vl.length) 90 (0, 0))) := Lh (HP3.out.2.2 _ _ _ HST2.out)
       have hkx3 := HKX2.out.trans HP3.out.2
       have hsa3 := HSA2.out.ph [sh]
       have hle3 := HLE2.out.ph sh
       obtain ⟨ac3, ha3⟩ : ∃ z : Pl.Acc, z = ⟨ac2.f, ac2.h ++ [sh], ac2.r⟩ := ⟨_, rfl⟩
       have hab3 := HP3.out.1
       rw [← ha3] at hsa3 hle3 hab3
       clear HP3 ha3
       obtain ⟨va3, vc3, hvf3⟩ := own_slice hab3.rf
       obtain ⟨vha3, vhc3, hvh3⟩ := own_slice hab3.rh
       obtain ⟨vra3, vrc3, hvr3⟩ := own_slice hab3.rr
       rw [hvf3] at hab3
       rw [hvh3] at hab3
       rw [hvr3] at hab3
       clear hvf3
       clear hvh3
       clear hvr3
       have HAB3 := Lh hab3
       have HSA3 := Lh hsa3
       have HLE3 := Lh hle3
       have HKX3 := Lh hkx3
       obtain ⟨hl03, hl13, hl23⟩ := hle3
       have bc03 := alw (cQ 0 hab3.box)
       have bc13 := alw (cQ 1 hab3.box)
       have bc23 := alw (cQ 2 hab3.box)
       clear hab3 hsa3 hkx3
       have sc03 := alw (cQ 0 HST3.out)
       have sc13 := alw (cQ 1 HST3.out)
       have sc23 := alw (cQ 2 HST3.out)
       have sc33 := alw (cQ 3 HST3.out)
       have sc43 := alw (cQ 4 HST3.out)
       have sc53 := alw (cQ 5 HST3.out)
       have sc63 := alw (cQ 6 HST3.out)
       have HR : Hid (Pl.SameA ac3 (Pl.accs Pl.stR (Lb.take (k + 1)))) := Lh (by
        have e : Pl.stR ⟨4, sh, sf, sr, sd, ix, vl⟩ = ((Pl.exA ix).app ⟨[], [], [sr]⟩).app ⟨[], [sh], []⟩ := by have := HDN.out; simp [Pl.stR, this]
        rw [Pl.accs_add HXK.out, e, Pl.app_assoc, Pl.app_assoc]
        exact HSA3.out)
       go_wp2_with fail
       go_roundw
       case rel => exact ⟨k + 1, by omega, by go_num, Lh ⟨_, _, _, ac3, HAB3.out, HR.out, HLE3.out.mono (by omega), HKX3.out⟩⟩
       case measure => simp [intOf]; omega
     ·by_cases hk5 : sk = 5
      ·subst hk5
       have hln := ln2 (.inr rfl)
       have hln2 := ln3 rfl
       clear ln1 ln2 ln3
       have HST0 : Hid ((wr.alloc (.cells (Yq11 sh sf sr sd xa xc ix.length va vc vl.length) 90)).heap[wr.heap.size]? = some (.cells (Yq11 sh sf sr sd xa xc ix.length va vc vl.length) 90 (0, 0))) := Lh (aH _ _)
       have hkx0 := hkr.trans (Pl.Kx.ext (grows (a := wr) (b := wr.alloc (.cells (Yq11 sh sf sr sd xa xc ix.length va vc vl.length) 90))) (Nat.le_of_lt habr.lt))
       have hab0 := habr.ext (grows (a := wr) (b := wr.alloc (.cells (Yq11 sh sf sr sd xa xc ix.length va vc vl.length) 90)))
       have hsa0 := hsr
       have hle0 := hlr
       clear habr hsr hlr hkr
       obtain ⟨va0, vc0, rfl⟩ := own_slice hab0.rf
       obtain ⟨vha0, vhc0, rfl⟩ := own_slice hab0.rh
       obtain ⟨vra0, vrc0, rfl⟩ := own_slice hab0.rr
       have HAB0 := Lh hab0
       have HSA0 := Lh hsa0
       have HLE0 := Lh hle0
       have HKX0 := Lh hkx0
       obtain ⟨hl00, hl10, hl20⟩ := hle0
       have bc00 := alw (cQ 0 hab0.box)
       have bc10 := alw (cQ 1 hab0.box)
       have bc20 := alw (cQ 2 hab0.box)
       clear hab0 hsa0 hkx0
       have sc00 := alw (cQ 0 HST0.out)
       have sc10 := alw (cQ 1 HST0.out)
       have sc20 := alw (cQ 2 HST0.out)
       have sc30 := alw (cQ 3 HST0.out)
       have sc40 := alw (cQ 4 HST0.out)
       have sc50 := alw (cQ 5 HST0.out)
       have sc60 := alw (cQ 6 HST0.out)
       go_wp2_with fail
       refine (aexpr_any (w := (wr.alloc (.cells (Yq11 sh sf sr sd xa xc ix.length va vc vl.length) 90))) HAB0.out HLE0.out (by omega) HIX.out (Pl.Kx.low HXW.out (by omega) HKX0.out) (by omega) (by omega)).mono ?_
       rintro e u1 ⟨rfl, vf1, vh1, vr1, ac1, hab1, hsb1, hle1, hkb1⟩
       have hsa1 := hsb1.trans (HSA0.out.app (Pl.SameA.refl _))
       have hkx1 := HKX0.out.trans hkb1
       have HST1 : Hid (u1.heap[wr.heap.size]? = some (.cells (Yq11 sh sf sr sd xa xc ix.length va vc vl.length) 90 (0, 0))) := Lh (hkb1.2 _ _ _ HST0.out)
       clear hsb1 hkb1
       obtain ⟨va1, vc1, rfl⟩ := own_slice hab1.rf
       obtain ⟨vha1, vhc1, rfl⟩ := own_slice hab1.rh
       obtain ⟨vra1, vrc1, rfl⟩ := own_slice hab1.rr
       have HAB1 := Lh hab1
       have HSA1 := Lh hsa1
       have HLE1 := Lh hle1
       have HKX1 := Lh hkx1
       obtain ⟨hl01, hl11, hl21⟩ := hle1
       have bc01 := alw (cQ 0 hab1.box)
       have bc11 := alw (cQ 1 hab1.box)
       have bc21 := alw (cQ 2 hab1.box)
       clear hab1 hsa1 hkx1
       have sc01 := alw (cQ 0 HST1.out)
       have sc11 := alw (cQ 1 HST1.out)
       have sc21 := alw (cQ 2 HST1.out)
       have sc31 := alw (cQ 3 HST1.out)
       have sc41 := alw (cQ 4 HST1.out)
       have sc51 := alw (cQ 5 HST1.out)
       have sc61 := alw (cQ 6 HST1.out)
       go_wp2_with fail
       refine (aexpr_any (w := u1) HAB1.out HLE1.out (by omega) HVL.out (Pl.Kx.low HXW.out (by omega) HKX1.out) (by omega) (by omega)).mono ?_
       rintro e u2 ⟨rfl, vf2, vh2, vr2, ac2, hab2, hsb2, hle2, hkb2⟩
       have hsa2 := hsb2.trans (HSA1.out.app (Pl.SameA.refl _))
       have hkx2 := HKX1.out.trans hkb2
       have HST2 : Hid (u2.heap[wr.heap.size]? = some (.cells (Yq11 sh sf sr sd xa xc ix.length va vc vl.length) 90 (0, 0))) := Lh (hkb2.2 _ _ _ HST1.out)
       clear hsb2 hkb2
       obtain ⟨va2, vc2, rfl⟩ := own_slice hab2.rf
       obtain ⟨vha2, vhc2, rfl⟩ := own_slice hab2.rh
       obtain ⟨vra2, vrc2, rfl⟩ := own_slice hab2.rr
       have HAB2 := Lh hab2
       have HSA2 := Lh hsa2
       have HLE2 := Lh hle2
       have HKX2 := Lh hkx2
       obtain ⟨hl02, hl12, hl22⟩ := hle2
       have bc02 := alw (cQ 0 hab2.box)
       have bc12 := alw (cQ 1 hab2.box)
       have bc22 := alw (cQ 2 hab2.box)
       clear hab2 hsa2 hkx2
       have sc02 := alw (cQ 0 HST2.out)
       have sc12 := alw (cQ 1 HST2.out)
       have sc22 := alw (cQ 2 HST2.out)
       have sc32 := alw (cQ 3 HST2.out)
       have sc42 := alw (cQ 4 HST2.out)
       have sc52 := alw (cQ 5 HST2.out)
       have sc62 := alw (cQ 6 HST2.out)
       have HR : Hid (Pl.SameA ac2 (Pl.accs Pl.stR (Lb.take (k + 1)))) := Lh (by
        have e : Pl.stR ⟨5, sh, sf, sr, sd, ix, vl⟩ = (Pl.exA ix).app (Pl.exA vl) := by simp [Pl.stR, Pl.app_nil]
        rw [Pl.accs_add HXK.out, e, Pl.app_assoc]
        exact HSA2.out)
       go_wp2_with fail
       go_roundw
       case rel => exact ⟨k + 1, by omega, by go_num, Lh ⟨_, _, _, ac2, HAB2.out, HR.out, HLE2.out.mono (by omega), HKX2.out⟩⟩
       case measure => simp [intOf]; omega
      ·clear ln1 ln2 ln3
       have HST0 : Hid ((wr.alloc (.cells (Yq14 sk sh sf sr sd xa xc ix.length va vc vl.length) 90)).heap[wr.heap.size]? = some (.cells (Yq14 sk sh sf sr sd xa xc ix.length va vc vl.length) 90 (0, 0))) := Lh (aH _ _)
       have hkx0 := hkr.trans (Pl.Kx.ext (grows (a := wr) (b := wr.alloc (.cells (Yq14 sk sh sf sr sd xa xc ix.length va vc vl.length) 90))) (Nat.le_of_lt habr.lt))
       have hab0 := habr.ext (grows (a := wr) (b := wr.alloc (.cells (Yq14 sk sh sf sr sd xa xc ix.length va vc vl.length) 90)))
       have hsa0 := hsr
       have hle0 := hlr
       clear habr hsr hlr hkr
       obtain ⟨va0, vc0, rfl⟩ := own_slice hab0.rf
       obtain ⟨vha0, vhc0, rfl⟩ := own_slice hab0.rh
       obtain ⟨vra0, vrc0, rfl⟩ := own_slice hab0.rr
       have HAB0 := Lh hab0
       have HSA0 := Lh hsa0
       have HLE0 := Lh hle0
       have HKX0 := Lh hkx0
       obtain ⟨hl00, hl10, hl20⟩ := hle0
       have bc00 := alw (cQ 0 hab0.box)
       have bc10 := alw (cQ 1 hab0.box)
       have bc20 := alw (cQ 2 hab0.box)
       clear hab0 hsa0 hkx0
       have sc00 := alw (cQ 0 HST0.out)
       have sc10 := alw (cQ 1 HST0.out)
       have sc20 := alw (cQ 2 HST0.out)
       have sc30 := alw (cQ 3 HST0.out)
       have sc40 := alw (cQ 4 HST0.out)
       have sc50 := alw (cQ 5 HST0.out)
       have sc60 := alw (cQ 6 HST0.out)
       have e1 : (sk == 1) = false := bF hk1
       have e2 : (sk == 2) = false := bF hk2
       have e4 : (sk == 4) = false := bF hk4
       have e5 : (sk == 5) = false := bF hk5
       have HNN := Lh (show sk ≠ 1 ∧ sk ≠ 2 ∧ sk ≠ 4 ∧ sk ≠ 5 from ⟨hk1, hk2, hk4, hk5⟩)
       clear hk1 hk2 hk4 hk5
       have HR : Hid (Pl.SameA ac0 (Pl.accs Pl.stR (Lb.take (k + 1)))) := Lh (by
        have e : Pl.stR ⟨sk, sh, sf, sr, sd, ix, vl⟩ = ⟨[], [], []⟩ := by obtain ⟨a1, a2, a3, a4⟩ := HNN.out; simp [Pl.stR, Pl.app_nil, a1, a2, a3, a4]
        rw [Pl.accs_add HXK.out, e, Pl.app_nil]
        exact HSA0.out)
       go_wp2_with fail
       go_roundw
       case rel => exact ⟨k + 1, by omega, by go_num, Lh ⟨_, _, _, ac0, HAB0.out, HR.out, HLE0.out.mono (by omega), HKX0.out⟩⟩
       case measure => simp [intOf]; omega
  ·obtain rfl : k = Lb.length := by omega
   have HAB0 := Lh habr
   have HSA0 := Lh hsr
   have HLE0 := Lh hlr
   have HKX0 := Lh hkr
   clear habr hsr hlr hkr
   go_wp2_with fail
   refine (asorted_any HAB0.out HLE0.out (by omega)).mono ?_
   rintro e u9 ⟨v1, v2, v3, a9, rfl, hs9, hl9, o1, o2, o3, hk9⟩
   obtain ⟨d1, c1, rfl⟩ := own_slice o1
   obtain ⟨d2, c2, rfl⟩ := own_slice o2
   obtain ⟨d3, c3, rfl⟩ := own_slice o3
   have HF : Hid (Pl.AccR W (Pl.accs Pl.stR Lb) (.returned (.tuple #[.slice d1 a9.f.length c1, .slice d2 a9.h.length c2, .slice d3 a9.r.length c3])) u9) := Lh ⟨_, _, _, a9, rfl, hs9.trans (by have h := HSA0.out; rw [List.take_length] at h; exact h), hl9.mono (by omega), own_base o1 (by omega), own_base o2 (by omega), own_base o3 (by omega), Pl.Kx.low HXW.out (by omega) (HKX0.out.trans hk9)⟩
   clear hs9 hl9 o1 o2 o3 hk9
   go_wp2_with fail
   exact bodyPost_ret (v := .tuple #[.slice d1 a9.f.length c1, .slice d2 a9.h.length c2, .slice d3 a9.r.length c3]) (by simp [results, Tryz.results91, go_sem]) rfl HF.out
end Go.Proofs.YtkiafiaodockbaaGreat
