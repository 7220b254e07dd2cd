/- Parsers: the run, walked (the package). No condition. -/
import Derived.Test.YtonnlcjkgpahoaaPqG
import Derived.Test.YtonnlcjkgpahoaaPqD
import Derived.Test.YtonnlcjkgpahoaaIoL6
import Derived.Test.YtonnlcjkgpahoaaHd
namespace Go.Proofs.Ytonnlcjkgpahoaa
open Go.RowKit

/-- what a run leaves: the environment, the states entered, the error, all in new memory -/
def RunP (W : World) (R : Pg.Env × List Int × Int) (e : Ending) (w' : World) : Prop := ∃ (ev : Pg.EV) (vs : List Value) (sv : Value), e = .returned (.tuple #[ev.val, sv, .int .i64 R.2.2]) ∧ Ext W w' ∧ OwnE W.heap.size w' ev vs R.1 ∧ w'.ownsRow W.heap.size 3 1 sv R.2.1.length (i64s R.2.1)
theorem run_ret {W W' : World} {ev : Pg.EV} {vs : List Value} {sv : Value} {R : Pg.Env × List Int × Int} {E : Pg.Env} {ent : List Int} {er : Int} (hR : R = (E, ent, er)) (hx : Ext W W') (ho : OwnE W.heap.size W' ev vs E) (hs : W'.ownsRow W.heap.size 3 1 sv ent.length (i64s ent)) : RunP W R (.returned (.tuple #[ev.val, sv, .int .i64 er])) W' := by
  subst hR; exact ⟨ev, vs, sv, rfl, hx, ho, hs⟩
theorem own_side {w w' : World} {B C a b : Nat} {e f : TypeId} {v u : Value} {n m : Nat} {xs ys : List Value} (h : w.ownsRow B e a v n xs) (ho : w.ownsRow C f b u m ys) (hg : w.grownBy w' u.ownBlock) (hef : e ≠ f) : w'.ownsRow B e a v n xs :=
  own_keep h (fun k hk => hg.block k (own_lt h hk) (fun e1 => own_apart h ho hef hk e1.symm))
theorem OwnE.side {w w' : World} {B C b : Nat} {e : Pg.EV} {vs : List Value} {E : Pg.Env} {u : Value} {m : Nat} {ys : List Value} (h : OwnE B w e vs E) (ho : w.ownsRow C 3 b u m ys) (hg : w.grownBy w' u.ownBlock) : OwnE B w' e vs E :=
  ⟨own_side h.va ho hg (by decide), ⟨h.fi.1, own_side h.fi.2.1 ho hg (by decide), fun i u l hu hl => ⟨own_side (h.fi.2.2.1 i u l hu hl).1 ho hg (by decide), (h.fi.2.2.1 i u l hu hl).2⟩, h.fi.2.2.2⟩, own_side h.me ho hg (by decide), h.mu, own_side h.pl ho hg (by decide), h.pb, h.mr⟩
theorem RdrAt.side {w w' : World} {base p n c pos C b : Nat} {oa : Option Addr} {l : List Int} {u : Value} {m : Nat} {ys : List Value} (h : RdrAt w base p oa n c l pos) (ho : w.ownsRow C 3 b u m ys) (hg : w.grownBy w' u.ownBlock) : RdrAt w' base p oa n c l pos :=
  h.mod (grown_mod hg) (fun e1 => by obtain ⟨_, g1, _⟩ := own_heap ho e1.symm; exact ne_of_type g1 h.blk (by decide) rfl) (fun _ hk e1 => own_apart h.row ho (by decide) hk e1.symm)
/-- the run's measure -/
def Ps.left (n : Nat) (s : Int) : Nat := if s < 0 then 0 else n - s.toNat + 1
theorem Ps.left_lt {n k : Nat} {s : Int} (hk : k < n) (h : Ps.leads n k s = true) : Ps.left n s < Ps.left n k := by
  unfold Ps.left
  rcases Ps.leads_or h with e | e | e <;> split <;> split <;> omega
set_option maxRecDepth 8000 in
set_option maxHeartbeats 8000000 in
theorem prun_any {W : World} {p : Pg.PV} {P : Pg.Prog} {ss : List Ps.St} (hq : Ps.IsQ W p P ss) (hcp : En.CapP P) {da : Option Addr} {dc : Nat} {l : List Int} (hsrc : Src W (.slice da l.length dc) 1 l.length (u8s l)) (hby : Io.Bytes l) (hl : l.length ≤ 140737488355328) :
    Calls Try.prog 54 #[p.val, .slice da l.length dc] W (RunP W (Ps.parse P ss l)) := by
  obtain ⟨s, a1, a2, a3, a4, a5, a6, a7, a8, m1, m2, n3, m3, n4, m4, n5, m5, n6, m6, n7, m7, m8, hf⟩ := hq.1.form
  obtain ⟨rfl, hhs, hmd, _, hl1, hl2, _⟩ := hf
  have hss := hq.2
  dsimp only at hss
  obtain ⟨a6', m6', e6, hl6, hc6⟩ := hss.slice
  simp only [Value.slice.injEq] at e6
  obtain ⟨rfl, rfl, rfl⟩ := e6
  unfold maxLen at hc6
  obtain ⟨bd, hbd⟩ : ∃ z, z = Ps.bad P ss l.length := ⟨_, rfl⟩
  obtain ⟨E0, hE0⟩ : ∃ z, z = En.new P := ⟨_, rfl⟩
  obtain ⟨R, hR⟩ : ∃ z, z = Ps.parse P ss l := ⟨_, rfl⟩
  have HSH0 : Hid (Ps.Shp P E0) := Lib.hid (by rw [hE0]; exact Ps.Shp.new hcp)
  rw [← hR]
  have HNEW : Hid (∀ w, Ext W w → Calls Try.prog 82 #[.agg #[.string s, .slice a1 P.hs.length m1, .slice a2 P.md.length m2, .slice a3 n3 m3, .slice a4 n4 m4, .slice a5 n5 m5, .slice a6 ss.length m6, .slice a7 n7 m7, .slice a8 P.dp.length m8]] w (EnvP w E0)) := Lib.hid (fun w hx => by have h := enew_any (hq.1.ext hx) hcp; rw [← hE0] at h; exact h)
  have HREF : Hid (∀ w, Ext W w → Calls Try.prog 83 #[.agg #[.string s, .slice a1 P.hs.length m1, .slice a2 P.md.length m2, .slice a3 n3 m3, .slice a4 n4 m4, .slice a5 n5 m5, .slice a6 ss.length m6, .slice a7 n7 m7, .slice a8 P.dp.length m8], .slice da l.length dc] w (Rets w (.int .i64 bd))) := Lib.hid (fun w hx => by have h := refuse_any (hq.ext hx) da l.length dc (by omega); rw [← hbd] at h; exact h)
  have HNR : Hid (∀ w, Ext W w → Calls Try.prog 39 #[.slice da l.length dc] w (fun e W' => ∃ p oa n c, e = .returned (.pointer (some ⟨p, 0, none⟩)) ∧ Ext w W' ∧ RdrAt W' w.heap.size p oa n c l 0)) := Lib.hid (fun w hx => newReader_any _ l w (hsrc.ext hx) hby hl)
  have HQ := Lib.hid hq
  have HSS := Lib.hid hss
  have HBD := Lib.hid hbd
  have HE0 := Lib.hid hE0
  have HRR := Lib.hid hR
  have HBY := Lib.hid hby
  have bx := alloc_heap W (.cells #[.string s, .slice a1 P.hs.length m1, .slice a2 P.md.length m2, .slice a3 n3 m3, .slice a4 n4 m4, .slice a5 n5 m5, .slice a6 ss.length m6, .slice a7 n7 m7, .slice a8 P.dp.length m8] 31)
  have pc0 := alw (cell_of (o := 0) bx)
  have pc1 := alw (cell_of (o := 1) bx)
  have pc2 := alw (cell_of (o := 2) bx)
  have pc3 := alw (cell_of (o := 3) bx)
  have pc4 := alw (cell_of (o := 4) bx)
  have pc5 := alw (cell_of (o := 5) bx)
  have pc6 := alw (cell_of (o := 6) bx)
  have pc7 := alw (cell_of (o := 7) bx)
  have pc8 := alw (cell_of (o := 8) bx)
  have BX0 := Lib.hid (((Ext.refl _).alloc (.cells #[.slice none 0 0, .slice none 0 0, .slice none 0 0, .slice none 0 0] 37)).heap bx)
  clear bx
  have br := alloc_heap (W.alloc (.cells #[.string s, .slice a1 P.hs.length m1, .slice a2 P.md.length m2, .slice a3 n3 m3, .slice a4 n4 m4, .slice a5 n5 m5, .slice a6 ss.length m6, .slice a7 n7 m7, .slice a8 P.dp.length m8] 31)) (.cells #[.slice none 0 0, .slice none 0 0, .slice none 0 0, .slice none 0 0] 37)
  rw [World.size_alloc] at br
  have rc0 := alw (cell_of (o := 0) br)
  have rc1 := alw (cell_of (o := 1) br)
  have rc2 := alw (cell_of (o := 2) br)
  have rc3 := alw (cell_of (o := 3) br)
  have rf0 := alwF (o := 0) br
  have rf1 := alwF (o := 1) br
  have rf2 := alwF (o := 2) br
  have rf3 := alwF (o := 3) br
  have BRX := Lib.hid br
  have XW1 : Hid (Ext W ((W.alloc (.cells #[.string s, .slice a1 P.hs.length m1, .slice a2 P.md.length m2, .slice a3 n3 m3, .slice a4 n4 m4, .slice a5 n5 m5, .slice a6 ss.length m6, .slice a7 n7 m7, .slice a8 P.dp.length m8] 31)).alloc (.cells #[.slice none 0 0, .slice none 0 0, .slice none 0 0, .slice none 0 0] 37))) := Lib.hid grows
  clear br hq hcp hhs hmd hss hR hbd hE0 hsrc hby
  dsimp only [Pg.PV.val]
  go_enter Try.func54, Try.ntmps54
  go_wp2_with fail
  refine (HNEW.out _ grows).mono ?_
  rintro e w1 ⟨ev, vs, rfl, x1, o1⟩
  obtain ⟨b0, b1, b2, b3, d0, d1, d2, d3, hg⟩ := o1.isE.form
  obtain ⟨rfl, _, _, _, _, _, _, _, _⟩ := hg
  dsimp only [Pg.EV.val]
  have hle1 := x1.le
  simp only [World.size_alloc] at hle1
  have be := alloc_heap w1 (.cells #[.slice b0 E0.va.length d0, .slice b1 E0.fi.length d1, .slice b2 E0.me.length d2, .slice b3 E0.pl.length d3] 37)
  have s1 := Step.mk x1
  have qc0 := alw (cell_of (o := 0) be)
  have qc1 := alw (cell_of (o := 1) be)
  have qc2 := alw (cell_of (o := 2) be)
  have qc3 := alw (cell_of (o := 3) be)
  have O2 : Hid (OwnE W.heap.size (w1.alloc (.cells #[.slice b0 E0.va.length d0, .slice b1 E0.fi.length d1, .slice b2 E0.me.length d2, .slice b3 E0.pl.length d3] 37)) ⟨.slice b0 E0.va.length d0, .slice b1 E0.fi.length d1, .slice b2 E0.me.length d2, .slice b3 E0.pl.length d3⟩ vs E0) := Lib.hid ((o1.ext ((Ext.refl w1).alloc (.cells #[.slice b0 E0.va.length d0, .slice b1 E0.fi.length d1, .slice b2 E0.me.length d2, .slice b3 E0.pl.length d3] 37))).base (by simp only [World.size_alloc]; omega))
  have K2 := Lib.hid be
  clear be x1 o1
  go_wp2_with fail
  refine (HREF.out _ grows).mono ?_
  rintro e w3 ⟨rfl, x3⟩
  have s3 := Step.mk x3
  by_cases hb : bd = 0
  · subst hb
    obtain ⟨hgood, _⟩ := Ps.bad_ok HBD.out.symm
    obtain ⟨gp, gle, _, gst⟩ := hgood
    have GST := Lib.hid gst
    have HR1 : Hid (R = Ps.go P ss l (ss.length + 1) 0 E0 0 []) := Lib.hid (by rw [HRR.out, HE0.out]; unfold Ps.parse; rw [if_pos HBD.out.symm])
    obtain ⟨ab, ao, rfl, _, _⟩ := Rows.at HSS.out gp
    clear gst
    go_wp2_with fail
    refine (HNR.out _ grows).mono ?_
    rintro e w4 ⟨pr, ra, rn, rc', rfl, x4, rd⟩
    have s4 := Step.mk x4
    have hpr : W.heap.size ≤ pr := Nat.le_trans (by have h : Ext W w3 := grows; exact h.le) rd.le
    obtain ⟨base, hbase⟩ : ∃ z, z = w3.heap.size := ⟨_, rfl⟩
    rw [← hbase] at rd
    have RD := Lib.hid rd
    have HPR := Lib.hid hpr
    have A0 := Lib.hid (show w4.heap[W.heap.size]? = some (.cells #[.string s, .slice a1 P.hs.length m1, .slice a2 P.md.length m2, .slice a3 n3 m3, .slice a4 n4 m4, .slice a5 n5 m5, .slice (some ⟨ab, ao, none⟩) ss.length m6, .slice a7 n7 m7, .slice a8 P.dp.length m8] 31 (0, 0)) from alwB BX0.out _)
    have A1 := Lib.hid (show w4.heap[W.heap.size + 1]? = some (.cells #[.slice none 0 0, .slice none 0 0, .slice none 0 0, .slice none 0 0] 37 (0, 0)) from alwB BRX.out _)
    have A7 := Lib.hid (show w4.heap[w1.heap.size]? = some (.cells #[.slice b0 E0.va.length d0, .slice b1 E0.fi.length d1, .slice b2 E0.me.length d2, .slice b3 E0.pl.length d3] 37 (0, 0)) from alwB K2.out _)
    have X4 : Hid (Ext W w4) := Lib.hid grows
    have O4 := Lib.hid (O2.out.ext (show Ext (w1.alloc (.cells #[.slice b0 E0.va.length d0, .slice b1 E0.fi.length d1, .slice b2 E0.me.length d2, .slice b3 E0.pl.length d3] 37)) w4 from grows))
    clear rd hbase hpr x3 x4
    go_wp2_with fail
    go_loopw [10, 11] (fun sv z wr => ∃ t : Int, z = .int .i64 t ∧ (t = -1 ∨ t = -2 ∨ (0 ≤ t ∧ t < ss.length)) ∧ Hid (∃ (n : Nat) (E' : Pg.Env) (pos' : Nat) (vs' : List Value) (ent : List Int), Ext W wr ∧ wr.heap[W.heap.size]? = some (.cells #[.string s, .slice a1 P.hs.length m1, .slice a2 P.md.length m2, .slice a3 n3 m3, .slice a4 n4 m4, .slice a5 n5 m5, .slice (some ⟨ab, ao, none⟩) ss.length m6, .slice a7 n7 m7, .slice a8 P.dp.length m8] 31 (0, 0)) ∧ wr.heap[W.heap.size + 1]? = some (.cells #[.slice none 0 0, .slice none 0 0, .slice none 0 0, .slice none 0 0] 37 (0, 0)) ∧ wr.heap[w1.heap.size]? = some (.cells #[.slice b0 E0.va.length d0, .slice b1 E0.fi.length d1, .slice b2 E0.me.length d2, .slice b3 E0.pl.length d3] 37 (0, 0)) ∧ OwnE W.heap.size wr ⟨.slice b0 E0.va.length d0, .slice b1 E0.fi.length d1, .slice b2 E0.me.length d2, .slice b3 E0.pl.length d3⟩ vs' E' ∧ RdrAt wr base pr ra rn rc' l pos' ∧ wr.ownsRow W.heap.size 3 1 sv ent.length (i64s ent) ∧ Ps.Shp P E' ∧ pos' ≤ 8 * l.length ∧ pos' % 8 = 0 ∧ R = Ps.go P ss l n t E' pos' ent ∧ (0 ≤ t → (ss.length : Int) + 1 ≤ n + t) ∧ (t < 0 → 1 ≤ n) ∧ ent.length + n = ss.length + 1)) (fun _ z _ => Ps.left ss.length (intOf z))
    case atStart => exact ⟨0, rfl, .inr (.inr ⟨by omega, by omega⟩), Lib.hid ⟨ss.length + 1, E0, 0, vs, [], X4.out, A0.out, A1.out, A7.out, O4.out, RD.out, World.ownsRow_nil _ _ _ _, HSH0.out, by omega, rfl, HR1.out, by omega, by omega, by simp⟩⟩
    case round =>
      obtain ⟨t, rfl, hcs, HI⟩ := hrel
      obtain ⟨n, E', pos', vs', ent, hx, k0, k1, k7, ho, hrd, hso, hsp, hpl, h8, hres, hn1, hn2, hln⟩ := HI.out
      obtain ⟨wo, rfl⟩ : ∃ wo : World, wo = wr := ⟨_, rfl⟩
      have sx := Step.mk hx
      have pc0 := alw (cell_of (o := 0) k0)
      have pc1 := alw (cell_of (o := 1) k0)
      have pc2 := alw (cell_of (o := 2) k0)
      have pc3 := alw (cell_of (o := 3) k0)
      have pc4 := alw (cell_of (o := 4) k0)
      have pc5 := alw (cell_of (o := 5) k0)
      have pc6 := alw (cell_of (o := 6) k0)
      have pc7 := alw (cell_of (o := 7) k0)
      have pc8 := alw (cell_of (o := 8) k0)
      have rc0 := alw (cell_of (o := 0) k1)
      have rc1 := alw (cell_of (o := 1) k1)
      have rc2 := alw (cell_of (o := 2) k1)
      have rc3 := alw (cell_of (o := 3) k1)
      have rf0 := alwF (o := 0) k1
      have rf1 := alwF (o := 1) k1
      have rf2 := alwF (o := 2) k1
      have rf3 := alwF (o := 3) k1
      have qc0 := alw (cell_of (o := 0) k7)
      have qc1 := alw (cell_of (o := 1) k7)
      have qc2 := alw (cell_of (o := 2) k7)
      have qc3 := alw (cell_of (o := 3) k7)
      have qf0 := alwF (o := 0) k7
      have qf1 := alwF (o := 1) k7
      have qf2 := alwF (o := 2) k7
      have qf3 := alwF (o := 3) k7
      obtain ⟨oas, csv, rfl⟩ := own_slice hso
      have HX := Lib.hid hx
      have K0 := Lib.hid k0
      have K1 := Lib.hid k1
      have K7 := Lib.hid k7
      have HO := Lib.hid ho
      have HRD := Lib.hid hrd
      have HSO := Lib.hid hso
      have HSP := Lib.hid hsp
      have H8 := Lib.hid h8
      have HRES := Lib.hid hres
      have HPL := Lib.hid hpl
      have HLN := Lib.hid hln
      have HN1 := Lib.hid hn1
      have HN2 := Lib.hid hn2
      clear HI hx k0 k1 k7 ho hrd hso hsp h8 hres hpl
      by_cases hs : 0 ≤ t
      · obtain ⟨k, rfl⟩ := Int.eq_ofNat_of_zero_le hs
        have hk : k < ss.length := by omega
        obtain ⟨n, rfl⟩ : ∃ m, n = m + 1 := ⟨n - 1, by have := hn1 hs; omega⟩
        have hel : ent.length ≤ ss.length := by omega
        clear hn1 hn2 hln hcs hs
        obtain ⟨x, hxk⟩ : ∃ y, ss[k]? = some y := ⟨_, List.getElem?_eq_getElem hk⟩
        obtain ⟨ea, ec, ca, cc, hnm, hex, hcs, hcl, hcm, g0, g1, g2, g3, g4, g5, g6⟩ := st_at HSS.out k x hxk rfl
        have y0 := alw g0
        have y1 := alw g1
        have y2 := alw g2
        have y3 := alw g3
        have y4 := alw g4
        have y5 := alw g5
        have y6 := alw g6
        have so := GST.out k x hxk
        have SO := Lib.hid so
        have HEX := Lib.hid hex
        have HCS := Lib.hid hcs
        have HXK := Lib.hid hxk
        have hs1 := src_one wo (.int .i64 (k : Int)) 3 rfl
        have HS1 := Lib.hid hs1
        have HO1 := Lib.hid (own_now HSO.out (w := wo.alloc (.cells #[.int .i64 (k : Int)] 3)))
        clear g0 g1 g2 g3 g4 g5 g6 so hex hcs hxk hs1 hnm
        go_wp2_with (at_builtin; refine wpList_append_fresh rfl (.tmp 28) (.tmp 30) 29 rfl W.heap.size 3 (.int .i64 0) 1 8 Try.underlying29 info_i64 rfl (by decide) _ ent.length (i64s ent) rfl HO1.out _ 1 [.int .i64 (k : Int)] rfl HS1.out ?d1 ?d2 ?d3 ?_)
        case d1 => unfold maxLen; omega
        case d2 => omega
        case d3 => have := HX.out.le; (try simp); omega
        intro v' w5 hown hgr _
        obtain ⟨oa5, c5, rfl⟩ := own_slice hown
        have xa : Ext wo (wo.alloc (.cells #[.int .i64 (k : Int)] 3)) := grows
        have x5 : Ext W w5 := (HX.out.trans xa).mod (grown_mod hgr) (fun q hq => own_ge HO1.out hq.symm)
        have kb0 := grown_box hgr HO1.out (xa.heap K0.out) (by decide)
        have kb1 := grown_box hgr HO1.out (xa.heap K1.out) (by decide)
        have kb7 := grown_box hgr HO1.out (xa.heap K7.out) (by decide)
        have O5 := Lib.hid (OwnE.side (HO.out.ext xa) HO1.out hgr)
        have R5 := Lib.hid (RdrAt.side (HRD.out.ext xa) HO1.out hgr)
        have S5 : Hid (w5.ownsRow W.heap.size 3 1 (.slice oa5 (ent.length + 1) c5) (ent ++ [(k : Int)]).length (i64s (ent ++ [(k : Int)]))) := Lib.hid (by simpa [i64s] using hown)
        have s5 := Step.mk x5
        clear pc0 pc1 pc2 pc3 pc4 pc5 pc6 pc7 pc8 rc0 rc1 rc2 rc3 rf0 rf1 rf2 rf3 qc0 qc1 qc2 qc3 qf0 qf1 qf2 qf3
        have pc0 := alw (cell_of (o := 0) kb0)
        have pc1 := alw (cell_of (o := 1) kb0)
        have pc2 := alw (cell_of (o := 2) kb0)
        have pc3 := alw (cell_of (o := 3) kb0)
        have pc4 := alw (cell_of (o := 4) kb0)
        have pc5 := alw (cell_of (o := 5) kb0)
        have pc6 := alw (cell_of (o := 6) kb0)
        have pc7 := alw (cell_of (o := 7) kb0)
        have pc8 := alw (cell_of (o := 8) kb0)
        have qc0 := alw (cell_of (o := 0) kb7)
        have qc1 := alw (cell_of (o := 1) kb7)
        have qc2 := alw (cell_of (o := 2) kb7)
        have qc3 := alw (cell_of (o := 3) kb7)
        have X5 := Lib.hid x5
        have KB0 := Lib.hid kb0
        have KB1 := Lib.hid kb1
        have KB7 := Lib.hid kb7
        obtain ⟨⟨xe, xE, xp⟩, hxR⟩ : ∃ z, z = Ps.exAll P l x.ex E' pos' := ⟨_, rfl⟩
        have HXT : Hid (∀ w, Ext w5 w → Calls Try.prog 84 #[.agg #[.string s, .slice a1 P.hs.length m1, .slice a2 P.md.length m2, .slice a3 n3 m3, .slice a4 n4 m4, .slice a5 n5 m5, .slice (some ⟨ab, ao, none⟩) ss.length m6, .slice a7 n7 m7, .slice a8 P.dp.length m8], .agg #[.string x.nm, .slice ea x.ex.length ec, .bool x.sel, .int .i64 x.h, .int .i64 x.f, .slice ca x.cs.length cc, .int .i64 x.df], .agg #[.slice b0 E0.va.length d0, .slice b1 E0.fi.length d1, .slice b2 E0.me.length d2, .slice b3 E0.pl.length d3], .pointer (some ⟨pr, 0, none⟩)] w (fun u w' => u = .returned (.int .i64 xe) ∧ Mod (ES ⟨.slice b0 E0.va.length d0, .slice b1 E0.fi.length d1, .slice b2 E0.me.length d2, .slice b3 E0.pl.length d3⟩ pr) w w' ∧ (∃ vs', OwnE W.heap.size w' ⟨.slice b0 E0.va.length d0, .slice b1 E0.fi.length d1, .slice b2 E0.me.length d2, .slice b3 E0.pl.length d3⟩ vs' xE) ∧ RdrAt w' base pr ra rn rc' l xp)) := Lib.hid (fun w hx => by
          have h := extract_any (ca := ca) (cc := cc) HQ.out (X5.out.trans hx) x HEX.out SO.out.exl SO.out.ex (O5.out.ext hx) HSP.out (R5.out.ext hx) HPR.out hl
          rw [← hxR] at h; exact h)
        have HXR := Lib.hid hxR
        have HKEEP := Lib.hid (Ps.ex_keep (P := P) (l := l) x.ex E' pos' HSP.out HPL.out H8.out)
        clear hown hgr xa x5 kb0 kb1 kb7 hxR
        go_wp2_with fail
        refine wp_region_later_tail (W := w5) 8 (by kernel_rfl) (by kernel_rfl) (Ext.refl _) ?_
        simp only [List.take_succ_cons, List.take_zero, List.drop_succ_cons, List.drop_zero]
        repeat (go_big_quiet_step (fail))
        refine wpQuiet_nil ?_
        intro w6 x6
        go_wp2_with fail
        refine (HXT.out _ x6).mono ?_
        rintro e w7 ⟨rfl, m7, ⟨vs7, o7⟩, r7⟩
        have hne0 := OwnE.es_ne (O5.out.ext x6) (R5.out.ext x6) (x6.heap KB0.out) (by decide) (by decide) (by decide)
        have hne1 := OwnE.es_ne (O5.out.ext x6) (R5.out.ext x6) (x6.heap KB1.out) (by decide) (by decide) (by decide)
        have hne7 := OwnE.es_ne (O5.out.ext x6) (R5.out.ext x6) (x6.heap KB7.out) (by decide) (by decide) (by decide)
        have kc0 := m7.heap (x6.heap KB0.out) hne0
        have kc1 := m7.heap (x6.heap KB1.out) hne1
        have kc7 := m7.heap (x6.heap KB7.out) hne7
        have x7 : Ext W w7 := (X5.out.trans x6).mod m7 (fun q hq => OwnE.es_ge (O5.out.ext x6) HPR.out q hq)
        have S7 := Lib.hid (own_mod (own_ext S5.out x6) m7 (fun q hq => by
          obtain ⟨_, g1, _⟩ := own_heap (own_ext S5.out x6) hq
          exact OwnE.es_ne (O5.out.ext x6) (R5.out.ext x6) g1 (by decide) (by decide) (by decide)))
        have s7 := Step.mk x7
        clear pc0 pc1 pc2 pc3 pc4 pc5 pc6 pc7 pc8 qc0 qc1 qc2 qc3
        have pc0 := alw (cell_of (o := 0) kc0)
        have pc1 := alw (cell_of (o := 1) kc0)
        have pc2 := alw (cell_of (o := 2) kc0)
        have pc3 := alw (cell_of (o := 3) kc0)
        have pc4 := alw (cell_of (o := 4) kc0)
        have pc5 := alw (cell_of (o := 5) kc0)
        have pc6 := alw (cell_of (o := 6) kc0)
        have pc7 := alw (cell_of (o := 7) kc0)
        have pc8 := alw (cell_of (o := 8) kc0)
        have rc0 := alw (cell_of (o := 0) kc1)
        have rc1 := alw (cell_of (o := 1) kc1)
        have rc2 := alw (cell_of (o := 2) kc1)
        have rc3 := alw (cell_of (o := 3) kc1)
        have rf0 := alwF (o := 0) kc1
        have rf1 := alwF (o := 1) kc1
        have rf2 := alwF (o := 2) kc1
        have rf3 := alwF (o := 3) kc1
        have qc0 := alw (cell_of (o := 0) kc7)
        have qc1 := alw (cell_of (o := 1) kc7)
        have qc2 := alw (cell_of (o := 2) kc7)
        have qc3 := alw (cell_of (o := 3) kc7)
        have KC0 := Lib.hid kc0
        have KC1 := Lib.hid kc1
        have KC7 := Lib.hid kc7
        have X7 := Lib.hid x7
        have O7 := Lib.hid o7
        have R7 := Lib.hid r7
        clear hne0 hne1 hne7 kc0 kc1 kc7 m7 o7 r7 x7 x6
        by_cases hz : xe = 0
        · subst hz
          have hne := Ps.StOk.next SO.out (En.get xE x.h x.f)
          obtain ⟨s', hs'⟩ : ∃ z, z = Ps.nxt x (En.get xE x.h x.f) := ⟨_, rfl⟩
          rw [← hs'] at hne
          have HNX : Hid (∀ w, Ext w7 w → Calls Try.prog 85 #[.agg #[.string x.nm, .slice ea x.ex.length ec, .bool x.sel, .int .i64 x.h, .int .i64 x.f, .slice ca x.cs.length cc, .int .i64 x.df], .agg #[.slice b0 E0.va.length d0, .slice b1 E0.fi.length d1, .slice b2 E0.me.length d2, .slice b3 E0.pl.length d3]] w (Rets w (.int .i64 s'))) := Lib.hid (fun w hx => by
            have h := next_any (ea := ea) (ec := ec) (O7.out.isE.ext hx) x (Rows.ext HCS.out (fun _ _ h => h) (X7.out.trans hx)) (fun j c hc => (SO.out.cs j c hc).1)
            rw [← hs'] at h; exact h)
          have HNE := Lib.hid hne
          have HS' := Lib.hid hs'
          clear hne hs'
          go_wp2_with fail
          refine wp_region_later (W := w7) (by kernel_rfl) (by kernel_rfl) (Ext.refl _) ?_
          repeat (go_big_quiet_step (first | (go_at_call 85; exact Rets.later_at (HNX.out _ grows)) | fail))
          refine wpQuiet_nil ?_
          intro w8 x8
          go_wp2_with fail
          go_roundw
          case rel =>
            obtain ⟨j1, j2, j3⟩ := HKEEP.out
            rw [← HXR.out] at j1 j2 j3
            have hor := Ps.leads_or HNE.out
            have hln := HLN.out
            refine ⟨s', rfl, ?_, Lib.hid ⟨n, xE, xp, vs7, ent ++ [(k : Int)], X7.out.trans x8, x8.heap KC0.out, x8.heap KC1.out, x8.heap KC7.out, O7.out.ext x8, R7.out.ext x8, ?_, j1, j2, j3, ?_, ?_, ?_, ?_⟩⟩
            · rcases hor with e | e | e
              · exact .inl e
              · exact .inr (.inl e)
              · exact .inr (.inr (by omega))
            · exact own_ext S7.out x8
            · rw [HRES.out, Ps.go_read HXK.out (by rw [← HXR.out]), ← HXR.out, HS'.out]
            · have := HN1.out (by omega); rcases hor with e | e | e <;> omega
            · have := HN1.out (by omega); omega
            · simp; omega
          case measure => exact Ps.left_lt hk HNE.out
        · have z1 : (xe != 0) = true := bne_iff_ne.2 hz
          have HR2 : Hid (R = (E0, ent ++ [(k : Int)], xe)) := Lib.hid (by rw [HRES.out, Ps.go_err HXK.out (by rw [← HXR.out]; exact hz), ← HXR.out, HE0.out])
          clear hz
          go_wp2_with fail
          refine (HNEW.out _ grows).mono ?_
          rintro e w8 ⟨ev8, vs8, rfl, x8, o8⟩
          obtain ⟨y0, y1, y2, y3, z0, z1, z2, z3, hg⟩ := o8.isE.form
          obtain ⟨rfl, _, _, _, _, _, _, _, _⟩ := hg
          dsimp only [Pg.EV.val]
          have s8 := Step.mk x8
          have X8 := Lib.hid x8
          have O8 := Lib.hid (o8.base X7.out.le)
          clear x8 o8
          go_wp2_with fail
          obtain ⟨tz1, tz2⟩ := tower4 (.slice y0 E0.va.length z0) (.slice y1 E0.fi.length z1) (.slice y2 E0.me.length z2) (.slice y3 E0.pl.length z3) (X8.out.heap KC1.out)
          obtain ⟨wz, hwz⟩ : ∃ z, z = ((((w8.setCell ⟨W.heap.size + 1, 0, none⟩ (.slice y0 E0.va.length z0)).setCell ⟨W.heap.size + 1, 1, none⟩ (.slice y1 E0.fi.length z1)).setCell ⟨W.heap.size + 1, 2, none⟩ (.slice y2 E0.me.length z2)).setCell ⟨W.heap.size + 1, 3, none⟩ (.slice y3 E0.pl.length z3)) := ⟨_, rfl⟩
          rw [← hwz] at tz1 tz2 ⊢
          have c0 : wz.cell? ⟨W.heap.size + 1, 0, none⟩ = some (.slice y0 E0.va.length z0) := cell_of tz2
          have c1 : wz.cell? ⟨W.heap.size + 1, 1, none⟩ = some (.slice y1 E0.fi.length z1) := cell_of tz2
          have c2 : wz.cell? ⟨W.heap.size + 1, 2, none⟩ = some (.slice y2 E0.me.length z2) := cell_of tz2
          have c3 : wz.cell? ⟨W.heap.size + 1, 3, none⟩ = some (.slice y3 E0.pl.length z3) := cell_of tz2
          exact bodyPost_ret (v := .tuple #[.agg #[.slice y0 E0.va.length z0, .slice y1 E0.fi.length z1, .slice y2 E0.me.length z2, .slice y3 E0.pl.length z3], .slice oa5 (ent.length + 1) c5, .int .i64 xe]) (by simp [results, Try.results54, go_sem, c0, c1, c2, c3]) rfl (run_ret (ev := ⟨.slice y0 E0.va.length z0, .slice y1 E0.fi.length z1, .slice y2 E0.me.length z2, .slice y3 E0.pl.length z3⟩) (vs := vs8) HR2.out ((X7.out.trans X8.out).mod tz1 (fun q hq => by rw [hq]; omega)) (OwnE.box (O8.out) tz1 (X8.out.heap KC1.out)) (own_box (own_ext S7.out X8.out) tz1 (X8.out.heap KC1.out) (by decide)))
      · have hsn : t < 0 := by omega
        obtain ⟨n, rfl⟩ : ∃ m, n = m + 1 := ⟨n - 1, by have := hn2 hsn; omega⟩
        have hel : ent.length ≤ ss.length + 1 := by omega
        rcases hcs with rfl | rfl | hcs
        · obtain ⟨rl, hrl⟩ : ∃ z, z = l.drop (pos' / 8) := ⟨_, rfl⟩
          have HRL := Lib.hid hrl
          have HREST : Hid (∀ w, Ext wo w → Calls Try.prog 42 #[.pointer (some ⟨pr, 0, none⟩)] w (fun e w' => ∃ v, e = .returned (.tuple #[v, .int .i64 0]) ∧ Ext w w' ∧ w'.ownsRow w.heap.size 5 1 v rl.length (u8s rl))) := Lib.hid (fun w hx => by
            have h := rest_any (HRD.out.ext hx) hl
            unfold Io.rsE Io.rsL at h
            rw [if_pos H8.out, if_pos H8.out, ← HRL.out] at h; exact h)
          have HR2 : Hid (R = (⟨E'.va, E'.fi, E'.me, rl⟩, ent, 0)) := Lib.hid (by rw [HRES.out, Ps.go_acc, HRL.out])
          clear hn1 hn2 hln hs hsn hrl
          go_wp2_with fail
          refine (HREST.out _ grows).mono ?_
          rintro e w8 ⟨v, rfl, x8, o8⟩
          obtain ⟨oav, cv, rfl⟩ := own_slice o8
          have s8 := Step.mk x8
          have kd7 := x8.heap K7.out
          have md : Mod (· = w1.heap.size) w8 (w8.setCell ⟨w1.heap.size, 3, none⟩ (.slice oav rl.length cv)) := mod_set
          have kd8 := setCell_heap (o := 3) (v := .slice oav rl.length cv) kd7
          obtain ⟨w9, h9⟩ : ∃ z, z = w8.setCell ⟨w1.heap.size, 3, none⟩ (.slice oav rl.length cv) := ⟨_, rfl⟩
          rw [← h9] at md kd8
          have H9 := Lib.hid h9
          have hlt1 : W.heap.size + 1 < w1.heap.size := by omega
          have kd1 := md.heap (x8.heap K1.out) (by omega)
          have X9 : Hid (Ext W w9) := Lib.hid ((HX.out.trans x8).mod md (fun q hq => by rw [hq]; omega))
          have O9 := Lib.hid (OwnE.plNew (OwnE.box (HO.out.ext x8) md kd7) (own_base (own_box o8 md kd7 (by decide)) (HX.out.le)) (fun b hb => HBY.out b (List.mem_of_mem_drop (by rw [← HRL.out]; exact hb))))
          have S9 := Lib.hid (own_box (own_ext HSO.out x8) md kd7 (by decide))
          have KD1 := Lib.hid kd1
          have KD8 := Lib.hid kd8
          have s9 : Step W w9 := Step.mk X9.out
          clear x8 o8 md kd1 kd7 kd8 h9
          go_upto_region 20 with (fail)
          rw [← H9.out]
          clear pc0 pc1 pc2 pc3 pc4 pc5 pc6 pc7 pc8 rc0 rc1 rc2 rc3 rf0 rf1 rf2 rf3 qc0 qc1 qc2 qc3 qf0 qf1 qf2 qf3 s8
          have qc0 : w9.cell? ⟨w1.heap.size, 0, none⟩ = some (.slice b0 E0.va.length d0) := cell_of KD8.out
          have qc1 : w9.cell? ⟨w1.heap.size, 1, none⟩ = some (.slice b1 E0.fi.length d1) := cell_of KD8.out
          have qc2 : w9.cell? ⟨w1.heap.size, 2, none⟩ = some (.slice b2 E0.me.length d2) := cell_of KD8.out
          have qc3 : w9.cell? ⟨w1.heap.size, 3, none⟩ = some (.slice oav rl.length cv) := cell_of KD8.out
          have kd1 := KD1.out
          have rc0 := alw (cell_of (o := 0) kd1)
          have rc1 := alw (cell_of (o := 1) kd1)
          have rc2 := alw (cell_of (o := 2) kd1)
          have rc3 := alw (cell_of (o := 3) kd1)
          have rf0 := alwF (o := 0) kd1
          have rf1 := alwF (o := 1) kd1
          have rf2 := alwF (o := 2) kd1
          have rf3 := alwF (o := 3) kd1
          clear kd1
          go_wp2_with fail
          obtain ⟨tz1, tz2⟩ := tower4 (.slice b0 E0.va.length d0) (.slice b1 E0.fi.length d1) (.slice b2 E0.me.length d2) (.slice oav rl.length cv) (KD1.out)
          obtain ⟨wz, hwz⟩ : ∃ z, z = ((((w9.setCell ⟨W.heap.size + 1, 0, none⟩ (.slice b0 E0.va.length d0)).setCell ⟨W.heap.size + 1, 1, none⟩ (.slice b1 E0.fi.length d1)).setCell ⟨W.heap.size + 1, 2, none⟩ (.slice b2 E0.me.length d2)).setCell ⟨W.heap.size + 1, 3, none⟩ (.slice oav rl.length cv)) := ⟨_, rfl⟩
          rw [← hwz] at tz1 tz2 ⊢
          have c0 : wz.cell? ⟨W.heap.size + 1, 0, none⟩ = some (.slice b0 E0.va.length d0) := cell_of tz2
          have c1 : wz.cell? ⟨W.heap.size + 1, 1, none⟩ = some (.slice b1 E0.fi.length d1) := cell_of tz2
          have c2 : wz.cell? ⟨W.heap.size + 1, 2, none⟩ = some (.slice b2 E0.me.length d2) := cell_of tz2
          have c3 : wz.cell? ⟨W.heap.size + 1, 3, none⟩ = some (.slice oav rl.length cv) := cell_of tz2
          exact bodyPost_ret (v := .tuple #[.agg #[.slice b0 E0.va.length d0, .slice b1 E0.fi.length d1, .slice b2 E0.me.length d2, .slice oav rl.length cv], .slice oas ent.length csv, .int .i64 0]) (by simp [results, Try.results54, go_sem, c0, c1, c2, c3]) rfl (run_ret (ev := ⟨.slice b0 E0.va.length d0, .slice b1 E0.fi.length d1, .slice b2 E0.me.length d2, .slice oav rl.length cv⟩) (vs := vs') HR2.out ((X9.out).mod tz1 (fun q hq => by rw [hq]; omega)) (OwnE.box (O9.out) tz1 (KD1.out)) (own_box S9.out tz1 KD1.out (by decide)))
        · have HR2 : Hid (R = (E0, ent, 15)) := Lib.hid (by rw [HRES.out, Ps.go_rej, HE0.out])
          clear hn1 hn2 hln hs hsn
          go_wp2_with fail
          refine (HNEW.out _ grows).mono ?_
          rintro e w8 ⟨ev8, vs8, rfl, x8, o8⟩
          obtain ⟨y0, y1, y2, y3, z0, z1, z2, z3, hg⟩ := o8.isE.form
          obtain ⟨rfl, _, _, _, _, _, _, _, _⟩ := hg
          dsimp only [Pg.EV.val]
          have s8 := Step.mk x8
          have X8 := Lib.hid x8
          have O8 := Lib.hid (o8.base HX.out.le)
          clear x8 o8
          go_wp2_with fail
          obtain ⟨tz1, tz2⟩ := tower4 (.slice y0 E0.va.length z0) (.slice y1 E0.fi.length z1) (.slice y2 E0.me.length z2) (.slice y3 E0.pl.length z3) (X8.out.heap K1.out)
          obtain ⟨wz, hwz⟩ : ∃ z, z = ((((w8.setCell ⟨W.heap.size + 1, 0, none⟩ (.slice y0 E0.va.length z0)).setCell ⟨W.heap.size + 1, 1, none⟩ (.slice y1 E0.fi.length z1)).setCell ⟨W.heap.size + 1, 2, none⟩ (.slice y2 E0.me.length z2)).setCell ⟨W.heap.size + 1, 3, none⟩ (.slice y3 E0.pl.length z3)) := ⟨_, rfl⟩
          rw [← hwz] at tz1 tz2 ⊢
          have c0 : wz.cell? ⟨W.heap.size + 1, 0, none⟩ = some (.slice y0 E0.va.length z0) := cell_of tz2
          have c1 : wz.cell? ⟨W.heap.size + 1, 1, none⟩ = some (.slice y1 E0.fi.length z1) := cell_of tz2
          have c2 : wz.cell? ⟨W.heap.size + 1, 2, none⟩ = some (.slice y2 E0.me.length z2) := cell_of tz2
          have c3 : wz.cell? ⟨W.heap.size + 1, 3, none⟩ = some (.slice y3 E0.pl.length z3) := cell_of tz2
          exact bodyPost_ret (v := .tuple #[.agg #[.slice y0 E0.va.length z0, .slice y1 E0.fi.length z1, .slice y2 E0.me.length z2, .slice y3 E0.pl.length z3], .slice oas ent.length csv, .int .i64 15]) (by simp [results, Try.results54, go_sem, c0, c1, c2, c3]) rfl (run_ret (ev := ⟨.slice y0 E0.va.length z0, .slice y1 E0.fi.length z1, .slice y2 E0.me.length z2, .slice y3 E0.pl.length z3⟩) (vs := vs8) HR2.out ((HX.out.trans X8.out).mod tz1 (fun q hq => by rw [hq]; omega)) (OwnE.box (O8.out) tz1 (X8.out.heap K1.out)) (own_box (own_ext HSO.out X8.out) tz1 (X8.out.heap K1.out) (by decide)))
        · omega
  · have z1 : (bd != 0) = true := bne_iff_ne.2 hb
    have HR2 : Hid (R = (E0, [], bd)) := Lib.hid (by rw [HRR.out]; unfold Ps.parse; rw [← HBD.out, if_neg hb, HE0.out])
    have K3 := Lib.hid (show w3.heap[W.heap.size + 1]? = some (.cells #[.slice none 0 0, .slice none 0 0, .slice none 0 0, .slice none 0 0] 37 (0, 0)) from alwB BRX.out _)
    have X3 : Hid (Ext W w3) := Lib.hid grows
    have X23 : Hid (Ext (w1.alloc (.cells #[.slice b0 E0.va.length d0, .slice b1 E0.fi.length d1, .slice b2 E0.me.length d2, .slice b3 E0.pl.length d3] 37)) w3) := Lib.hid grows
    clear hb
    go_wp2_with fail
    obtain ⟨tz1, tz2⟩ := tower4 (.slice b0 E0.va.length d0) (.slice b1 E0.fi.length d1) (.slice b2 E0.me.length d2) (.slice b3 E0.pl.length d3) (K3.out)
    obtain ⟨wz, hwz⟩ : ∃ z, z = ((((w3.setCell ⟨W.heap.size + 1, 0, none⟩ (.slice b0 E0.va.length d0)).setCell ⟨W.heap.size + 1, 1, none⟩ (.slice b1 E0.fi.length d1)).setCell ⟨W.heap.size + 1, 2, none⟩ (.slice b2 E0.me.length d2)).setCell ⟨W.heap.size + 1, 3, none⟩ (.slice b3 E0.pl.length d3)) := ⟨_, rfl⟩
    rw [← hwz] at tz1 tz2 ⊢
    have c0 : wz.cell? ⟨W.heap.size + 1, 0, none⟩ = some (.slice b0 E0.va.length d0) := cell_of tz2
    have c1 : wz.cell? ⟨W.heap.size + 1, 1, none⟩ = some (.slice b1 E0.fi.length d1) := cell_of tz2
    have c2 : wz.cell? ⟨W.heap.size + 1, 2, none⟩ = some (.slice b2 E0.me.length d2) := cell_of tz2
    have c3 : wz.cell? ⟨W.heap.size + 1, 3, none⟩ = some (.slice b3 E0.pl.length d3) := cell_of tz2
    exact bodyPost_ret (v := .tuple #[.agg #[.slice b0 E0.va.length d0, .slice b1 E0.fi.length d1, .slice b2 E0.me.length d2, .slice b3 E0.pl.length d3], .slice none 0 0, .int .i64 bd]) (by simp [results, Try.results54, go_sem, c0, c1, c2, c3]) rfl (run_ret (ev := ⟨.slice b0 E0.va.length d0, .slice b1 E0.fi.length d1, .slice b2 E0.me.length d2, .slice b3 E0.pl.length d3⟩) (vs := vs) HR2.out ((X3.out).mod tz1 (fun q hq => by rw [hq]; omega)) (OwnE.box (O2.out.ext X23.out) tz1 (K3.out)) (World.ownsRow_nil _ _ _ _))
end Go.Proofs.Ytonnlcjkgpahoaa
