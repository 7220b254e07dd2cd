/- Parsers: the next state, the headers of a state, refusal, walked. No condition. -/
import Derived.Test.YtonnlcjkgpahoaaPqE
import Derived.Test.YtonnlcjkgpahoaaPqC
import Derived.Test.YtonnlcjkgpahoaaPqD
import Derived.Test.YtonnlcjkgpahoaaIoL6
import Derived.Test.YtonnlcjkgpahoaaHd5
import Derived.Test.YtonnlcjkgpahoaaPqF
import Derived.Test.YtonnlcjkgpahoaaHd4
namespace Go.Proofs.Ytonnlcjkgpahoaa
open Go.RowKit

theorem u32_getD {l : List Int} (h : ∀ x ∈ l, U32 x) (k : Nat) : U32 (l.getD k 0) := by
  rw [List.getD_eq_getElem?_getD]
  cases hk : l[k]? with
  | none => exact ⟨Int.le_refl _, by decide⟩
  | some x => exact h x (List.mem_of_getElem? hk)
theorem get_u32 {W : World} {e : Pg.EV} {E : Pg.Env} (he : Pg.IsE W e E) (h f : Int) : U32 (En.get E h f) := by
  have z : U32 0 := ⟨Int.le_refl _, by decide⟩
  unfold En.get
  split
  · unfold En.lst
    split
    · exact u32_getD he.2.2.1.2 _
    · unfold En.rowAt
      split
      · refine u32_getD (fun x hx => ?_) _
        rw [List.getD_eq_getElem?_getD] at hx
        cases hk : E.fi[h.toNat]? with
        | none => rw [hk] at hx; cases hx
        | some l =>
          rw [hk] at hx
          obtain ⟨b0, b1, b2, b3, d0, d1, d2, d3, hg⟩ := he.form
          obtain ⟨rfl, _, hfi, _, _, _, _, _, _⟩ := hg
          obtain ⟨b, o, _, _, h4⟩ := Rows.at hfi (by have := (List.getElem?_eq_some_iff.1 hk).1; omega)
          obtain ⟨cs, _, ⟨v, _, _, hu⟩, _⟩ := h4 _ l hk
          exact hu x hx
      · exact z
  · exact z
set_option maxRecDepth 8000 in
set_option maxHeartbeats 4000000 in
theorem next_any {W : World} {e : Pg.EV} {E : Pg.Env} (he : Pg.IsE W e E) (x : Ps.St) {ea ca : Option Addr} {ec cc : Nat} (hcs : Ps.Cases W (.slice ca x.cs.length cc) x.cs) (hok : ∀ (j : Nat) (c : Ps.Case), x.cs[j]? = some c → bits BinOp.and IntKind.u32 c.v c.m = c.v) : Calls Try.prog 85 #[.agg #[.string x.nm, .slice ea x.ex.length ec, .bool x.sel, .int .i64 x.h, .int .i64 x.f, .slice ca x.cs.length cc, .int .i64 x.df], e.val] W (Rets W (.int .i64 (Ps.nxt x (En.get E x.h x.f)))) := by
  obtain ⟨g, hgg⟩ : ∃ z, z = En.get E x.h x.f := ⟨_, rfl⟩
  have hgu : U32 g := by rw [hgg]; exact get_u32 he x.h x.f
  have HG : Hid (∀ w, Ext W w → Calls Try.prog 104 #[e.val, .agg #[.int .i64 x.h, .int .i64 x.f]] w (Rets w (.int .u32 g))) := Lib.hid (fun w hx => by have h := get_any (he.ext hx) x.h x.f; rw [← hgg] at h; exact h)
  obtain ⟨b0, b1, b2, b3, d0, d1, d2, d3, hg⟩ := he.form
  obtain ⟨rfl, _, _, _, _, _, _, _, _⟩ := hg
  dsimp only [Pg.EV.val] at HG ⊢
  rw [← hgg]
  obtain ⟨_, _, e0, hcl, hcm⟩ := hcs.slice
  simp only [Value.slice.injEq, true_and] at e0
  obtain ⟨rfl, rfl⟩ := e0
  have HCS := Lib.hid hcs
  have HOK := Lib.hid hok
  have HU := Lib.hid hgu
  obtain ⟨sl, hsl⟩ : ∃ z, z = x.sel := ⟨_, rfl⟩
  rw [← hsl]
  unfold maxLen at hcm
  clear he hcs hok hgu hgg
  cases sl with
  | false =>
    have HR : Hid (Ps.nxt x g = x.df) := Lib.hid (Ps.nxt_off hsl.symm)
    have bx := alloc_heap W (.cells #[.string x.nm, .slice ea x.ex.length ec, .bool false, .int .i64 x.h, .int .i64 x.f, .slice ca x.cs.length cc, .int .i64 x.df] 61)
    have xc0 := alw (cell_of (o := 0) bx)
    have xc1 := alw (cell_of (o := 1) bx)
    have xc2 := alw (cell_of (o := 2) bx)
    have xc3 := alw (cell_of (o := 3) bx)
    have xc4 := alw (cell_of (o := 4) bx)
    have xc5 := alw (cell_of (o := 5) bx)
    have xc6 := alw (cell_of (o := 6) bx)
    clear bx
    have bx := alloc_heap (W.alloc (.cells #[.string x.nm, .slice ea x.ex.length ec, .bool false, .int .i64 x.h, .int .i64 x.f, .slice ca x.cs.length cc, .int .i64 x.df] 61)) (.cells #[.slice b0 E.va.length d0, .slice b1 E.fi.length d1, .slice b2 E.me.length d2, .slice b3 E.pl.length d3] 37)
    rw [World.size_alloc] at bx
    have ec0 := alw (cell_of (o := 0) bx)
    have ec1 := alw (cell_of (o := 1) bx)
    have ec2 := alw (cell_of (o := 2) bx)
    have ec3 := alw (cell_of (o := 3) bx)
    clear bx
    clear hsl
    go_enter Try.func85, Try.ntmps85
    go_wp2_with fail
    go_ret
    exact ⟨ret_int (by rw [HR.out]), grows⟩
  | true =>
    have HSL := Lib.hid hsl.symm
    have bx := alloc_heap W (.cells #[.string x.nm, .slice ea x.ex.length ec, .bool true, .int .i64 x.h, .int .i64 x.f, .slice ca x.cs.length cc, .int .i64 x.df] 61)
    have xc0 := alw (cell_of (o := 0) bx)
    have xc1 := alw (cell_of (o := 1) bx)
    have xc2 := alw (cell_of (o := 2) bx)
    have xc3 := alw (cell_of (o := 3) bx)
    have xc4 := alw (cell_of (o := 4) bx)
    have xc5 := alw (cell_of (o := 5) bx)
    have xc6 := alw (cell_of (o := 6) bx)
    clear bx
    have bx := alloc_heap (W.alloc (.cells #[.string x.nm, .slice ea x.ex.length ec, .bool true, .int .i64 x.h, .int .i64 x.f, .slice ca x.cs.length cc, .int .i64 x.df] 61)) (.cells #[.slice b0 E.va.length d0, .slice b1 E.fi.length d1, .slice b2 E.me.length d2, .slice b3 E.pl.length d3] 37)
    rw [World.size_alloc] at bx
    have ec0 := alw (cell_of (o := 0) bx)
    have ec1 := alw (cell_of (o := 1) bx)
    have ec2 := alw (cell_of (o := 2) bx)
    have ec3 := alw (cell_of (o := 3) bx)
    clear bx
    clear hsl
    go_enter Try.func85, Try.ntmps85
    go_wp2_with fail
    refine (HG.out _ grows).mono ?_
    rintro e w3 ⟨rfl, xw3⟩
    have sw3 := Step.mk xw3
    go_wp2_with fail
    go_loopw [17] (fun q wr => ∃ i : Nat, i ≤ x.cs.length ∧ q = .int .i64 i ∧ Ext w3 wr ∧ Hid (∀ (j : Nat) (d : Ps.Case), j < i → x.cs[j]? = some d → Ps.hit g d = false)) (fun q _ => x.cs.length - (intOf q).toNat)
    case atStart => exact ⟨0, Nat.zero_le _, rfl, grows, Lib.hid (by intro j d hj; omega)⟩
    case round =>
      obtain ⟨i, hi, rfl, hx, HZ⟩ := hrel
      have sx := Step.mk hx
      by_cases hlt : i < x.cs.length
      · obtain ⟨⟨c1, c2, c3⟩, hci⟩ : ∃ c, x.cs[i]? = some c := ⟨_, List.getElem?_eq_getElem (by omega)⟩
        obtain ⟨cb, co, rfl, _, _⟩ := Rows.at HCS.out (by omega)
        obtain ⟨hv, hm, u0, u1, u2⟩ := case_at HCS.out i _ hci rfl
        have t0 := alw u0
        have t1 := alw u1
        have t2 := alw u2
        have HGC := Lib.hid (show x.cs.getD i Ps.c0 = ⟨c1, c2, c3⟩ by rw [List.getD_eq_getElem?_getD, hci]; rfl)
        have HCI := Lib.hid hci
        dsimp only at hv hm t0 t1 t2
        clear u0 u1 u2 hci
        have HHX : Hid ((bits BinOp.and IntKind.u32 (bits BinOp.xor IntKind.u32 g c1) c2 == 0) = Ps.hit g ⟨c1, c2, c3⟩) := Lib.hid (Ps.hit_xor (c := ⟨c1, c2, c3⟩) HU.out hv hm (HOK.out i _ HCI.out))
        have bx := alloc_heap wr (.cells #[.int .u32 c1, .int .u32 c2, .int .i64 c3] 115)
        have dc0 := alw (cell_of (o := 0) bx)
        have dc1 := alw (cell_of (o := 1) bx)
        have dc2 := alw (cell_of (o := 2) bx)
        clear bx
        clear hv hm HGC
        cases hh : Ps.hit g ⟨c1, c2, c3⟩ with
        | true =>
          have hxx : (bits BinOp.and IntKind.u32 (bits BinOp.xor IntKind.u32 g c1) c2 == 0) = true := HHX.out.trans hh
          have HH := Lib.hid hh
          clear hh
          go_wp2_with fail
          go_ret
          exact ⟨ret_int (by rw [Ps.nxt_hit HSL.out HZ.out HCI.out HH.out]), grows⟩
        | false =>
          have hxx : (bits BinOp.and IntKind.u32 (bits BinOp.xor IntKind.u32 g c1) c2 == 0) = false := HHX.out.trans hh
          have HH := Lib.hid hh
          clear hh
          go_wp2_with fail
          go_roundw
          case rel =>
            refine ⟨i + 1, by omega, by go_num, grows, Lib.hid (fun j d hj hd => ?_)⟩
            rcases Nat.lt_or_ge j i with h1 | h1
            · exact HZ.out j d h1 hd
            · obtain rfl : j = i := by omega
              rw [HCI.out] at hd
              obtain rfl := Option.some.inj hd
              exact HH.out
          case measure => simp [intOf]; omega
      · obtain rfl : i = x.cs.length := by omega
        go_wp2_with fail
        go_ret
        exact ⟨ret_int (by rw [Ps.nxt_none HSL.out HZ.out]), grows⟩
set_option maxRecDepth 8000 in
set_option maxHeartbeats 4000000 in
theorem rtrans_any {W : World} {e : Pg.EV} {E : Pg.Env} (he : Pg.IsE W e E) (x : Ps.St) {ea ca : Option Addr} {ec cc : Nat} (hcs : Ps.Cases W (.slice ca x.cs.length cc) x.cs) : Calls Try.prog 89 #[.agg #[.string x.nm, .slice ea x.ex.length ec, .bool x.sel, .int .i64 x.h, .int .i64 x.f, .slice ca x.cs.length cc, .int .i64 x.df], e.val] W (Rets W (.int .i64 (Ps.nxt x (En.get E x.h x.f)))) := by
  obtain ⟨g, hgg⟩ : ∃ z, z = En.get E x.h x.f := ⟨_, rfl⟩
  have HG : Hid (∀ w, Ext W w → Calls Try.prog 106 #[e.val, .agg #[.int .i64 x.h, .int .i64 x.f]] w (Rets w (.int .u32 g))) := Lib.hid (fun w hx => by have h := refget_any (he.ext hx) x.h x.f; rw [← hgg] at h; exact h)
  obtain ⟨b0, b1, b2, b3, d0, d1, d2, d3, hg⟩ := he.form
  obtain ⟨rfl, _, _, _, _, _, _, _, _⟩ := hg
  dsimp only [Pg.EV.val] at HG ⊢
  rw [← hgg]
  obtain ⟨_, _, e0, hcl, hcm⟩ := hcs.slice
  simp only [Value.slice.injEq, true_and] at e0
  obtain ⟨rfl, rfl⟩ := e0
  have HCS := Lib.hid hcs
  obtain ⟨sl, hsl⟩ : ∃ z, z = x.sel := ⟨_, rfl⟩
  rw [← hsl]
  unfold maxLen at hcm
  clear he hcs hgg
  cases sl with
  | false =>
    have HR : Hid (Ps.nxt x g = x.df) := Lib.hid (Ps.nxt_off hsl.symm)
    have bx := alloc_heap W (.cells #[.string x.nm, .slice ea x.ex.length ec, .bool false, .int .i64 x.h, .int .i64 x.f, .slice ca x.cs.length cc, .int .i64 x.df] 61)
    have xc0 := alw (cell_of (o := 0) bx)
    have xc1 := alw (cell_of (o := 1) bx)
    have xc2 := alw (cell_of (o := 2) bx)
    have xc3 := alw (cell_of (o := 3) bx)
    have xc4 := alw (cell_of (o := 4) bx)
    have xc5 := alw (cell_of (o := 5) bx)
    have xc6 := alw (cell_of (o := 6) bx)
    clear bx
    have bx := alloc_heap (W.alloc (.cells #[.string x.nm, .slice ea x.ex.length ec, .bool false, .int .i64 x.h, .int .i64 x.f, .slice ca x.cs.length cc, .int .i64 x.df] 61)) (.cells #[.slice b0 E.va.length d0, .slice b1 E.fi.length d1, .slice b2 E.me.length d2, .slice b3 E.pl.length d3] 37)
    rw [World.size_alloc] at bx
    have ec0 := alw (cell_of (o := 0) bx)
    have ec1 := alw (cell_of (o := 1) bx)
    have ec2 := alw (cell_of (o := 2) bx)
    have ec3 := alw (cell_of (o := 3) bx)
    clear bx
    clear hsl
    go_enter Try.func89, Try.ntmps89
    go_wp2_with fail
    go_loopw [5] (fun q wr => q = .int .i64 0 ∧ Ext ((W.alloc (.cells #[.string x.nm, .slice ea x.ex.length ec, .bool false, .int .i64 x.h, .int .i64 x.f, .slice ca x.cs.length cc, .int .i64 x.df] 61)).alloc (.cells #[.slice b0 E.va.length d0, .slice b1 E.fi.length d1, .slice b2 E.me.length d2, .slice b3 E.pl.length d3] 37)) wr) (fun _ _ => 0)
    case atStart => exact ⟨rfl, grows⟩
    case round =>
      obtain ⟨rfl, hx⟩ := hrel
      have sx := Step.mk hx
      by_cases h0 : 0 < x.cs.length
      · have e0 : decide ((0 : Int) < (x.cs.length : Int)) = true := decide_eq_true (by omega)
        go_wp2_with fail
        go_ret
        exact ⟨ret_int (by rw [HR.out]), grows⟩
      · have e0 : decide ((0 : Int) < (x.cs.length : Int)) = false := decide_eq_false (by omega)
        go_wp2_with fail
        go_ret
        exact ⟨ret_int (by rw [HR.out]), grows⟩
  | true =>
    have HSL := Lib.hid hsl.symm
    have bx := alloc_heap W (.cells #[.string x.nm, .slice ea x.ex.length ec, .bool true, .int .i64 x.h, .int .i64 x.f, .slice ca x.cs.length cc, .int .i64 x.df] 61)
    have xc0 := alw (cell_of (o := 0) bx)
    have xc1 := alw (cell_of (o := 1) bx)
    have xc2 := alw (cell_of (o := 2) bx)
    have xc3 := alw (cell_of (o := 3) bx)
    have xc4 := alw (cell_of (o := 4) bx)
    have xc5 := alw (cell_of (o := 5) bx)
    have xc6 := alw (cell_of (o := 6) bx)
    clear bx
    have bx := alloc_heap (W.alloc (.cells #[.string x.nm, .slice ea x.ex.length ec, .bool true, .int .i64 x.h, .int .i64 x.f, .slice ca x.cs.length cc, .int .i64 x.df] 61)) (.cells #[.slice b0 E.va.length d0, .slice b1 E.fi.length d1, .slice b2 E.me.length d2, .slice b3 E.pl.length d3] 37)
    rw [World.size_alloc] at bx
    have ec0 := alw (cell_of (o := 0) bx)
    have ec1 := alw (cell_of (o := 1) bx)
    have ec2 := alw (cell_of (o := 2) bx)
    have ec3 := alw (cell_of (o := 3) bx)
    clear bx
    clear hsl
    go_enter Try.func89, Try.ntmps89
    go_wp2_with fail
    go_loopw [5] (fun q wr => ∃ i : Nat, i ≤ x.cs.length ∧ q = .int .i64 i ∧ Ext ((W.alloc (.cells #[.string x.nm, .slice ea x.ex.length ec, .bool true, .int .i64 x.h, .int .i64 x.f, .slice ca x.cs.length cc, .int .i64 x.df] 61)).alloc (.cells #[.slice b0 E.va.length d0, .slice b1 E.fi.length d1, .slice b2 E.me.length d2, .slice b3 E.pl.length d3] 37)) wr ∧ Hid (∀ (j : Nat) (d : Ps.Case), j < i → x.cs[j]? = some d → Ps.hit g d = false)) (fun q _ => x.cs.length - (intOf q).toNat)
    case atStart => exact ⟨0, Nat.zero_le _, rfl, grows, Lib.hid (by intro j d hj; omega)⟩
    case round =>
      obtain ⟨i, hi, rfl, hx, HZ⟩ := hrel
      have sx := Step.mk hx
      by_cases hlt : i < x.cs.length
      · have e1 : decide ((i : Int) < (x.cs.length : Int)) = true := decide_eq_true (by omega)
        obtain ⟨⟨c1, c2, c3⟩, hci⟩ : ∃ c, x.cs[i]? = some c := ⟨_, List.getElem?_eq_getElem (by omega)⟩
        obtain ⟨cb, co, rfl, _, _⟩ := Rows.at HCS.out (by omega)
        obtain ⟨hv, hm, u0, u1, u2⟩ := case_at HCS.out i _ hci rfl
        have t0 := alw u0
        have t1 := alw u1
        have t2 := alw u2
        have HGC := Lib.hid (show x.cs.getD i Ps.c0 = ⟨c1, c2, c3⟩ by rw [List.getD_eq_getElem?_getD, hci]; rfl)
        have HCI := Lib.hid hci
        dsimp only at hv hm t0 t1 t2
        clear u0 u1 u2 hci
        have HHX : Hid ((bits BinOp.and IntKind.u32 g c2 == c1) = Ps.hit g ⟨c1, c2, c3⟩) := Lib.hid rfl
        clear hv hm HGC
        cases hh : Ps.hit g ⟨c1, c2, c3⟩ with
        | true =>
          have hxx : (bits BinOp.and IntKind.u32 g c2 == c1) = true := HHX.out.trans hh
          have HH := Lib.hid hh
          clear hh
          go_wp2_with fail
          refine wp_region_later (W := _) (by kernel_rfl) (by kernel_rfl) (Ext.refl _) ?_
          repeat (go_big_quiet_step (first | (go_at_call 106; exact Rets.later_at (HG.out _ grows)) | fail))
          refine wpQuiet_nil ?_
          intro w4 xw4
          have sw4 := Step.mk xw4
          go_wp2_with fail
          go_ret
          exact ⟨ret_int (by rw [Ps.nxt_hit HSL.out HZ.out HCI.out HH.out]), grows⟩
        | false =>
          have hxx : (bits BinOp.and IntKind.u32 g c2 == c1) = false := HHX.out.trans hh
          have HH := Lib.hid hh
          clear hh
          go_wp2_with fail
          refine wp_region_later (W := _) (by kernel_rfl) (by kernel_rfl) (Ext.refl _) ?_
          repeat (go_big_quiet_step (first | (go_at_call 106; exact Rets.later_at (HG.out _ grows)) | fail))
          refine wpQuiet_nil ?_
          intro w4 xw4
          have sw4 := Step.mk xw4
          go_wp2_with fail
          go_roundw
          case rel =>
            refine ⟨i + 1, by omega, by go_num, grows, Lib.hid (fun j d hj hd => ?_)⟩
            rcases Nat.lt_or_ge j i with h1 | h1
            · exact HZ.out j d h1 hd
            · obtain rfl : j = i := by omega
              rw [HCI.out] at hd
              obtain rfl := Option.some.inj hd
              exact HH.out
          case measure => simp [intOf]; omega
      · obtain rfl : i = x.cs.length := by omega
        have e1 : decide ((x.cs.length : Int) < (x.cs.length : Int)) = false := decide_eq_false (by omega)
        go_wp2_with fail
        go_ret
        exact ⟨ret_int (by rw [Ps.nxt_none HSL.out HZ.out]), grows⟩
end Go.Proofs.Ytonnlcjkgpahoaa
namespace Go.Proofs.Ytonnlcjkgpahoaa
open Go.RowKit

/-- the blocks that the reading of headers writes into -/
def ES (e : Pg.EV) (pr : Nat) (k : Nat) : Prop := e.c0.ownBlock = some k ∨ e.c1.ownBlock = some k ∨ k = pr
theorem OwnE.beside {B g : Nat} {w w' : World} {e : Pg.EV} {vs : List Value} {E : Pg.Env} {c : Array Value} {t : TypeId} (h : OwnE B w e vs E) (m : Mod (· = g) w w') (hg : w.heap[g]? = some (.cells c t (0, 0))) (h1 : 4 ≠ t) (h2 : 34 ≠ t) (h3 : 64 ≠ t) (h4 : 5 ≠ t) : OwnE B w' e vs E :=
  ⟨own_box h.va m hg h1, ⟨h.fi.1, own_box h.fi.2.1 m hg h2, fun i u l hu hl => ⟨own_box (h.fi.2.2.1 i u l hu hl).1 m hg h3, (h.fi.2.2.1 i u l hu hl).2⟩, h.fi.2.2.2⟩, own_box h.me m hg h3, h.mu, own_box h.pl m hg h4, h.pb, h.mr⟩
theorem OwnE.putH {B C : Nat} {w0 w : World} {e : Pg.EV} {vs : List Value} {E : Pg.Env} (h0 : OwnE B w0 e vs E) (h : OwnE B w e vs E) (hC : w0.heap.size ≤ C) (hB : B ≤ C) {g n c G m d i j k q : Nat} {l : List Int} (e0 : e.c0 = .slice (some ⟨g, 0, none⟩) n c) (e1 : e.c1 = .slice (some ⟨G, 0, none⟩) m d)
    (hi : i < E.fi.length) (hu : w.ownsRow C 64 1 (.slice (some ⟨q, 0, none⟩) j k) l.length (l.map (.int .u32))) (hU : ∀ x ∈ l, U32 x) :
    OwnE B ((w.setCell ⟨g, i, none⟩ (.bool true)).setCell ⟨G, i, none⟩ (.slice (some ⟨q, 0, none⟩) j k)) e (vs.set i (.slice (some ⟨q, 0, none⟩) j k)) (Ps.setH E i l) := by
  have hq : C ≤ q := own_ge hu rfl
  have ho := own_setNe (p := ⟨g, i, none⟩) hu (own_apart h.va hu (by decide) (by rw [e0]; rfl)) (.bool true)
  exact OwnE.setRow (h.setVa e0 i true) e1 hi (own_base ho hB) hU (fun a u hu e2 => by have h1 : q < w0.heap.size := h0.fi.lt hu e2; omega) (fun e2 => by have h1 : q < w0.heap.size := own_lt h0.me e2; omega)
theorem OwnE.es_ge {B : Nat} {w : World} {e : Pg.EV} {vs : List Value} {E : Pg.Env} (h : OwnE B w e vs E) {pr : Nat} (hp : B ≤ pr) (k : Nat) (hk : ES e pr k) : B ≤ k := by
  rcases hk with hk | hk | rfl
  · exact own_ge h.va hk
  · exact own_ge h.fi.2.1 hk
  · exact hp
/-- what the call changes keeps the blocks of other types -/
theorem OwnE.es_ne {B : Nat} {w : World} {e : Pg.EV} {vs : List Value} {E : Pg.Env} (h : OwnE B w e vs E) {base pr pos n c : Nat} {oa : Option Addr} {l : List Int} (hr : RdrAt w base pr oa n c l pos) {k : Nat} {cs : Array Value} {t : TypeId} (hk : w.heap[k]? = some (.cells cs t (0, 0))) (h1 : t ≠ 4) (h2 : t ≠ 34) (h3 : t ≠ 103) : ¬ ES e pr k := by
  rintro (hs | hs | rfl)
  · obtain ⟨_, g1, _⟩ := own_heap h.va hs
    exact ne_of_type hk g1 h1 rfl
  · obtain ⟨_, g1, _⟩ := own_heap h.fi.2.1 hs
    exact ne_of_type hk g1 h2 rfl
  · exact ne_of_type hk hr.blk h3 rfl
theorem OwnE.es_mod {e : Pg.EV} {pr g n c G m d : Nat} {w : World} (e0 : e.c0 = .slice (some ⟨g, 0, none⟩) n c) (e1 : e.c1 = .slice (some ⟨G, 0, none⟩) m d) (i j : Nat) (u v : Value) : Mod (ES e pr) w ((w.setCell ⟨g, i, none⟩ u).setCell ⟨G, j, none⟩ v) :=
  ((Mod.refl _ w).setCell (p := ⟨g, i, none⟩) (.inl (.inl (by rw [e0]; rfl))) u).setCell (p := ⟨G, j, none⟩) (.inl (.inr (.inl (by rw [e1]; rfl)))) v
theorem RdrAt.putH {B : Nat} {w : World} {e : Pg.EV} {vs : List Value} {E : Pg.Env} (h : OwnE B w e vs E) {base pr pos na ca : Nat} {oa : Option Addr} {l : List Int} (hr : RdrAt w base pr oa na ca l pos) {g n c G m d : Nat} (e0 : e.c0 = .slice (some ⟨g, 0, none⟩) n c) (e1 : e.c1 = .slice (some ⟨G, 0, none⟩) m d) (i j : Nat) (u v : Value) :
    RdrAt ((w.setCell ⟨g, i, none⟩ u).setCell ⟨G, j, none⟩ v) base pr oa na ca l pos := by
  have hm : Mod (fun k => k = g ∨ k = G) w ((w.setCell ⟨g, i, none⟩ u).setCell ⟨G, j, none⟩ v) := ((Mod.refl _ w).setCell (p := ⟨g, i, none⟩) (.inl (.inl rfl)) u).setCell (p := ⟨G, j, none⟩) (.inl (.inr rfl)) v
  obtain ⟨_, g1, _⟩ := own_heap h.va (k := g) (by rw [e0]; rfl)
  obtain ⟨_, g2, _⟩ := own_heap h.fi.2.1 (k := G) (by rw [e1]; rfl)
  refine hr.mod hm ?_ (fun k hk => ?_)
  · rintro (rfl | rfl)
    · exact ne_of_type g1 hr.blk (by decide) rfl
    · exact ne_of_type g2 hr.blk (by decide) rfl
  · obtain ⟨_, g3, _⟩ := own_heap hr.row hk
    rintro (rfl | rfl)
    · exact ne_of_type g1 g3 (by decide) rfl
    · exact ne_of_type g2 g3 (by decide) rfl
namespace Ps
theorem hd_of {P : Pg.Prog} {h : Int} {g : Hd.Hdr} (hg : P.hs[h.toNat]? = some g) : hd P h = g := by
  unfold hd; rw [List.getD_eq_getElem?_getD, hg]; rfl
theorem rV_ne {h : Hd.Hdr} {l : List Int} {pos : Nat} (h0 : Hd.rE h l pos = 0) : Hd.rV h l pos ≠ [] := by
  have hc : Hd.chk h = 0 := by
    unfold Hd.rE at h0
    by_cases hc : Hd.chk h = 0
    · exact hc
    · rw [if_neg hc] at h0; exact absurd h0 hc
  intro e
  have h1 : (Hd.rV h l pos).length = h.2.length := by unfold Hd.rV; rw [if_pos h0, Hd.vals_len, Hd.wds_len]
  have h2 := (Hd.chk_ok hc).2.1
  rw [e] at h1
  simp at h1; omega
end Ps
end Go.Proofs.Ytonnlcjkgpahoaa
namespace Go.Proofs.Ytonnlcjkgpahoaa
open Go.RowKit

set_option maxRecDepth 8000 in
set_option maxHeartbeats 8000000 in
theorem extract_any {W0 W : World} {p : Pg.PV} {P : Pg.Prog} {ss : List Ps.St} (hq : Ps.IsQ W0 p P ss) (h0 : Ext W0 W) (x : Ps.St) {ea ca : Option Addr} {ec cc : Nat} (hex : Ns .i64 W0 (.slice ea x.ex.length ec) x.ex) (hxl : x.ex.length ≤ 4) (hin : ∀ (j : Nat) (h : Int), x.ex[j]? = some h → 0 ≤ h ∧ h < P.hs.length) {e : Pg.EV} {vs : List Value} {E : Pg.Env} (he : OwnE W0.heap.size W e vs E) (hsh : Ps.Shp P E) {base pr pos n c : Nat} {oa : Option Addr} {l : List Int} (hr : RdrAt W base pr oa n c l pos) (hpr : W0.heap.size ≤ pr) (hl : l.length ≤ 140737488355328) :
    Calls Try.prog 84 #[p.val, .agg #[.string x.nm, .slice ea x.ex.length ec, .bool x.sel, .int .i64 x.h, .int .i64 x.f, .slice ca x.cs.length cc, .int .i64 x.df], e.val, .pointer (some ⟨pr, 0, none⟩)] W fun u w' => u = .returned (.int .i64 (Ps.exAll P l x.ex E pos).1) ∧ Mod (ES e pr) W w' ∧ (∃ vs', OwnE W0.heap.size w' e vs' (Ps.exAll P l x.ex E pos).2.1) ∧ RdrAt w' base pr oa n c l (Ps.exAll P l x.ex E pos).2.2 := by
  obtain ⟨s, a1, a2, a3, a4, a5, a6, a7, a8, m1, m2, n3, m3, n4, m4, n5, m5, n6, m6, n7, m7, m8, hf⟩ := hq.1.form
  obtain ⟨rfl, hhs, hmd, _, hl1, hl2, _⟩ := hf
  have hss := hq.2
  dsimp only at hss
  obtain ⟨a6', m6', e6, hl6, hc6⟩ := hss.slice
  simp only [Value.slice.injEq] at e6
  obtain ⟨rfl, rfl, rfl⟩ := e6
  unfold maxLen at hc6
  obtain ⟨v0, v1, v2, v3⟩ := e
  obtain ⟨b0, d0, e0⟩ := own_slice he.va
  obtain ⟨b1, d1, e1⟩ := tab_slice he.fi
  obtain ⟨b2, d2, e2⟩ := own_slice he.me
  obtain ⟨b3, d3, e3⟩ := own_slice he.pl
  dsimp only at e0 e1 e2 e3
  subst e0 e1 e2 e3
  have hexm := hex.2
  unfold maxLen at hexm
  have hel : ∀ k, ES ⟨.slice b0 E.va.length d0, .slice b1 E.fi.length d1, .slice b2 E.me.length d2, .slice b3 E.pl.length d3⟩ pr k → k < W.heap.size := fun k hk => by
    rcases hk with hk | hk | rfl
    · exact own_lt he.va hk
    · exact own_lt he.fi.2.1 hk
    · exact lt_of_block hr.blk
  obtain ⟨S, hS⟩ : ∃ S, S = ES ⟨.slice b0 E.va.length d0, .slice b1 E.fi.length d1, .slice b2 E.me.length d2, .slice b3 E.pl.length d3⟩ pr := ⟨_, rfl⟩
  rw [← hS] at hel ⊢
  have HS := Lib.hid hS
  have HEL := Lib.hid hel
  have HE := Lib.hid he
  have HSH := Lib.hid hsh
  have HRD := Lib.hid hr
  have HHS := Lib.hid hhs
  have HEX := Lib.hid hex
  have HIN := Lib.hid hin
  have H0 := Lib.hid h0
  have HGE : Hid (∀ k, S k → W0.heap.size ≤ k) := Lib.hid (fun k hk => by rw [hS] at hk; exact he.es_ge hpr k hk)
  have s0 := Step.mk h0
  have bx := alloc_heap W (.cells #[.string s, .slice a1 P.hs.length m1, .slice a2 P.md.length m2, .slice a3 n3 m3, .slice a4 n4 m4, .slice a5 n5 m5, .slice a6 ss.length m6, .slice a7 n7 m7, .slice a8 P.dp.length m8] 31)
  have pc1 := alw (cell_of (o := 1) bx)
  clear bx
  have bx := alloc_heap (W.alloc (.cells #[.string s, .slice a1 P.hs.length m1, .slice a2 P.md.length m2, .slice a3 n3 m3, .slice a4 n4 m4, .slice a5 n5 m5, .slice a6 ss.length m6, .slice a7 n7 m7, .slice a8 P.dp.length m8] 31)) (.cells #[.string x.nm, .slice ea x.ex.length ec, .bool x.sel, .int .i64 x.h, .int .i64 x.f, .slice ca x.cs.length cc, .int .i64 x.df] 61)
  rw [World.size_alloc] at bx
  have xc1 := alw (cell_of (o := 1) bx)
  clear bx
  have hb0 := alloc_heap W (.cells #[.string s, .slice a1 P.hs.length m1, .slice a2 P.md.length m2, .slice a3 n3 m3, .slice a4 n4 m4, .slice a5 n5 m5, .slice a6 ss.length m6, .slice a7 n7 m7, .slice a8 P.dp.length m8] 31)
  have HB0 := Lib.hid ((((Ext.refl (W.alloc (.cells #[.string s, .slice a1 P.hs.length m1, .slice a2 P.md.length m2, .slice a3 n3 m3, .slice a4 n4 m4, .slice a5 n5 m5, .slice a6 ss.length m6, .slice a7 n7 m7, .slice a8 P.dp.length m8] 31))).alloc (.cells #[.string x.nm, .slice ea x.ex.length ec, .bool x.sel, .int .i64 x.h, .int .i64 x.f, .slice ca x.cs.length cc, .int .i64 x.df] 61)).alloc (.cells #[.slice b0 E.va.length d0, .slice b1 E.fi.length d1, .slice b2 E.me.length d2, .slice b3 E.pl.length d3] 37)).heap hb0)
  clear hb0
  have hb1 := alloc_heap (W.alloc (.cells #[.string s, .slice a1 P.hs.length m1, .slice a2 P.md.length m2, .slice a3 n3 m3, .slice a4 n4 m4, .slice a5 n5 m5, .slice a6 ss.length m6, .slice a7 n7 m7, .slice a8 P.dp.length m8] 31)) (.cells #[.string x.nm, .slice ea x.ex.length ec, .bool x.sel, .int .i64 x.h, .int .i64 x.f, .slice ca x.cs.length cc, .int .i64 x.df] 61)
  rw [World.size_alloc] at hb1
  have HB1 := Lib.hid (((Ext.refl ((W.alloc (.cells #[.string s, .slice a1 P.hs.length m1, .slice a2 P.md.length m2, .slice a3 n3 m3, .slice a4 n4 m4, .slice a5 n5 m5, .slice a6 ss.length m6, .slice a7 n7 m7, .slice a8 P.dp.length m8] 31)).alloc (.cells #[.string x.nm, .slice ea x.ex.length ec, .bool x.sel, .int .i64 x.h, .int .i64 x.f, .slice ca x.cs.length cc, .int .i64 x.df] 61))).alloc (.cells #[.slice b0 E.va.length d0, .slice b1 E.fi.length d1, .slice b2 E.me.length d2, .slice b3 E.pl.length d3] 37)).heap hb1)
  clear hb1
  have hb2 := alloc_heap ((W.alloc (.cells #[.string s, .slice a1 P.hs.length m1, .slice a2 P.md.length m2, .slice a3 n3 m3, .slice a4 n4 m4, .slice a5 n5 m5, .slice a6 ss.length m6, .slice a7 n7 m7, .slice a8 P.dp.length m8] 31)).alloc (.cells #[.string x.nm, .slice ea x.ex.length ec, .bool x.sel, .int .i64 x.h, .int .i64 x.f, .slice ca x.cs.length cc, .int .i64 x.df] 61)) (.cells #[.slice b0 E.va.length d0, .slice b1 E.fi.length d1, .slice b2 E.me.length d2, .slice b3 E.pl.length d3] 37)
  rw [World.size_alloc, World.size_alloc] at hb2
  have HB2 := Lib.hid hb2
  clear hb2
  obtain ⟨R, hR⟩ : ∃ z, z = Ps.exAll P l x.ex E pos := ⟨_, rfl⟩
  rw [← hR]
  have HR := Lib.hid hR
  dsimp only [Pg.PV.val, Pg.EV.val]
  clear hq hhs hmd hss hex hin he hsh hr hel hS hR h0
  go_enter Try.func84, Try.ntmps84
  go_wp2_with fail
  go_loopw [16] (fun q wr => ∃ k : Nat, k ≤ x.ex.length ∧ q = .int .i64 k ∧ Hid (∃ vs' E' pos', Mod S (((W.alloc (.cells #[.string s, .slice a1 P.hs.length m1, .slice a2 P.md.length m2, .slice a3 n3 m3, .slice a4 n4 m4, .slice a5 n5 m5, .slice a6 ss.length m6, .slice a7 n7 m7, .slice a8 P.dp.length m8] 31)).alloc (.cells #[.string x.nm, .slice ea x.ex.length ec, .bool x.sel, .int .i64 x.h, .int .i64 x.f, .slice ca x.cs.length cc, .int .i64 x.df] 61)).alloc (.cells #[.slice b0 E.va.length d0, .slice b1 E.fi.length d1, .slice b2 E.me.length d2, .slice b3 E.pl.length d3] 37)) wr ∧ Ext W0 wr ∧ OwnE W0.heap.size wr ⟨.slice b0 E.va.length d0, .slice b1 E.fi.length d1, .slice b2 E.me.length d2, .slice b3 E.pl.length d3⟩ vs' E' ∧ RdrAt wr base pr oa n c l pos' ∧ Ps.Shp P E' ∧ R = Ps.exAll P l (x.ex.drop k) E' pos')) (fun q _ => x.ex.length - (intOf q).toNat)
  case atStart => exact ⟨0, Nat.zero_le _, rfl, Lib.hid ⟨vs, E, pos, Mod.refl _ _, grows, HE.out.ext grows, HRD.out.ext grows, HSH.out, HR.out⟩⟩
  case round =>
    obtain ⟨k, hk, rfl, HI⟩ := hrel
    obtain ⟨vs', E', pos', hm, hx, ho, hrd, hsp, hres⟩ := HI.out
    obtain ⟨wo, rfl⟩ : ∃ wo : World, wo = wr := ⟨_, rfl⟩
    have sx := Step.mk hx
    have hlw := hm.size
    simp only [World.size_alloc] at hlw
    have kb0 := hm.heap HB0.out (fun h => by have := HEL.out _ h; omega)
    have kb2 := hm.heap HB2.out (fun h => by have := HEL.out _ h; omega)
    have pc1 := alw (cell_of (o := 1) kb0)
    have HM := Lib.hid hm
    have HO := Lib.hid ho
    have HRO := Lib.hid hrd
    have HSP := Lib.hid hsp
    have HRES := Lib.hid hres
    have HX := Lib.hid hx
    have KB2 := Lib.hid kb2
    have eva := hsp.va
    have efi := hsp.fi
    clear HI hm ho hrd hsp hres hx kb0 kb2 xc1
    by_cases hlt : k < x.ex.length
    · obtain ⟨h, hy⟩ : ∃ y, x.ex[k]? = some y := ⟨_, List.getElem?_eq_getElem (by omega)⟩
      obtain ⟨hh0, hh1⟩ := HIN.out k h hy
      obtain ⟨m, rfl⟩ := Int.eq_ofNat_of_zero_le hh0
      obtain ⟨eb, eo, rfl, n1⟩ := ns_at HEX.out (by omega)
      have r1 := n1 k _ hy
      have HY := Lib.hid hy
      obtain ⟨⟨hn, fs⟩, hg⟩ : ∃ g, P.hs[m]? = some g := ⟨_, List.getElem?_eq_getElem (by omega)⟩
      obtain ⟨bh, oh, rfl, _, _⟩ := Rows.at HHS.out (by omega)
      obtain ⟨fa, fc, q0, q1, hnm, hfl, _, _⟩ := hdrs_at HHS.out m hn fs hg rfl
      have HHD : Hid (Ps.hd P (m : Int) = (hn, fs)) := Lib.hid (Ps.hd_of (by rw [Int.toNat_natCast]; exact hg))
      obtain ⟨er, her⟩ : ∃ z, z = Hd.rE (hn, fs) l pos' := ⟨_, rfl⟩
      have HREAD : Hid (∀ w, Ext wo w → Calls Try.prog 40 #[.agg #[.string hn, .slice fa fs.length fc], .pointer (some ⟨pr, 0, none⟩)] w (fun e w' => ∃ u, e = .returned (.tuple #[u, .int .i64 er]) ∧ Mod (· = pr) w w' ∧ RdrAt w' base pr oa n c l (Hd.rP (hn, fs) l pos') ∧ w'.ownsRow w.heap.size 64 1 u (Hd.rV (hn, fs) l pos').length (u32s (Hd.rV (hn, fs) l pos')))) := Lib.hid (fun w hxw => by
        have h := hread_any (HRO.out.ext hxw) (hn, fs) (v := .slice fa fs.length fc) (fun w' hm' => Hd.Flds.ext hfl ((HX.out.trans hxw).mod hm' (fun q hq => by subst hq; exact hpr))) hnm hl
        rw [← her] at h; exact h)
      by_cases hz : er = 0
      · subst hz
        have HZ := Lib.hid her.symm
        clear her hy n1 hg hfl hnm
        go_wp2_with fail
        refine (HREAD.out _ grows).mono ?_
        rintro e w4 ⟨u, rfl, m4, r4, o4⟩
        have x4 := HX.out.mod m4 (fun q hq => by subst hq; exact hpr)
        have s4 := Step.mk x4
        obtain ⟨q, uc, rfl, _, _, _, _, _, _⟩ := own_cell o4 (by intro e; exact Ps.rV_ne HZ.out (List.map_eq_nil_iff.1 e))
        have hpS : S pr := by rw [HS.out]; exact .inr (.inr rfl)
        have kb2 := m4.heap KB2.out (fun h => by have := HEL.out _ hpS; omega)
        have ec0 := alw (cell_of (o := 0) kb2)
        have ec1 := alw (cell_of (o := 1) kb2)
        have ho4 := HO.out.beside m4 HRO.out.blk (by decide) (by decide) (by decide) (by decide)
        obtain ⟨bv, hbv⟩ : ∃ y, (E'.va.map Value.bool)[m]? = some y := ⟨_, List.getElem?_eq_getElem (by simp; omega)⟩
        obtain ⟨uv, huv⟩ : ∃ y, vs'[m]? = some y := ⟨_, List.getElem?_eq_getElem (by rw [ho4.fi.1]; omega)⟩
        obtain ⟨g, c0, ee0, va1, va2, _, _, _, _, _⟩ := own_at ho4.va hbv
        obtain ⟨G, c1, ee1, fi1, fi2, _, _, _, _, _⟩ := own_at ho4.fi.2.1 huv
        simp only [Value.slice.injEq] at ee0 ee1
        obtain ⟨rfl, l0, rfl⟩ := ee0
        obtain ⟨rfl, l1, rfl⟩ := ee1
        have hmva : m < E.va.length := by omega
        have hmfi : m < E.fi.length := by omega
        have EFI := Lib.hid (show m < E'.fi.length by omega)
        have HO4 := Lib.hid ho4
        have M4 := Lib.hid m4
        have R4 := Lib.hid r4
        have O4 := Lib.hid o4
        have X4 := Lib.hid x4
        clear ho4 m4 r4 o4 x4 kb2 hbv huv pc1 r1 q0 q1 l0 l1 eva efi
        have hgG : g ≠ G := fun e1 => own_apart HO4.out.va HO4.out.fi.2.1 (by decide) (k := g) rfl (by rw [e1]; rfl)
        have hBg : g ≠ W.heap.size + 1 + 1 := fun e1 => by have h1 := HEL.out g (by rw [HS.out]; exact .inl rfl); omega
        have hBG : G ≠ W.heap.size + 1 + 1 := fun e1 => by have h1 := HEL.out G (by rw [HS.out]; exact .inr (.inl rfl)); omega
        have z1 : ((w4.setCell ⟨g, m, none⟩ (.bool true)).drew).cell? ⟨W.heap.size + 1 + 1, 1, none⟩ = some (.slice (some ⟨G, 0, none⟩) E.fi.length d1) := (World.cell?_setCell_far w4 ⟨g, m, none⟩ ⟨W.heap.size + 1 + 1, 1, none⟩ (.bool true) hBg).trans (ec1 w4)
        have z2 : ((w4.setCell ⟨g, m, none⟩ (.bool true)).drew).cell? ⟨G, m, none⟩ = some uv := (World.cell?_setCell_far w4 ⟨g, m, none⟩ ⟨G, m, none⟩ (.bool true) hgG).trans (fi1 w4)
        have z3 : ((w4.setCell ⟨g, m, none⟩ (.bool true)).drew).frozen? ⟨G, m, none⟩ = false := (World.frozen?_setCell w4 ⟨g, m, none⟩ ⟨G, m, none⟩ (.bool true)).trans (fi2 w4)
        go_wp2_with fail
        go_region
        all_goals (try go_wp2_with fail)
        go_roundw
        case rel =>
          have hms : Mod S w4 ((w4.setCell ⟨g, m, none⟩ (.bool true)).setCell ⟨G, m, none⟩ (.slice (some ⟨q, 0, none⟩) (Hd.rV (hn, fs) l pos').length uc)) := by rw [HS.out]; exact OwnE.es_mod rfl rfl m m _ _
          refine ⟨k + 1, by omega, by go_num, Lib.hid ⟨vs'.set m (.slice (some ⟨q, 0, none⟩) (Hd.rV (hn, fs) l pos').length uc), Ps.setH E' m (Hd.rV (hn, fs) l pos'), Hd.rP (hn, fs) l pos', ?_, ?_, ?_, ?_, ?_, ?_⟩⟩
          · exact ((HM.out.trans (M4.out.mono (fun k _ hk => by subst hk; exact hpS))).trans hms).drew
          · exact (X4.out.mod hms HGE.out).drew
          · exact (OwnE.putH HO.out HO4.out (Nat.le_refl _) HX.out.le rfl rfl EFI.out O4.out (Ps.rV_u32 _ _ _)).ext ((Ext.refl _).drew)
          · exact (RdrAt.putH HO4.out R4.out rfl rfl m m _ _).ext ((Ext.refl _).drew)
          · exact HSP.out.set m (Ps.rV_12 _ _ _)
          · rw [HRES.out, Ps.exAll_ok HY.out (by rw [HHD.out]; exact HZ.out), HHD.out, Int.toNat_natCast]
        case measure => simp [intOf]; omega
      · have z1 : (er != 0) = true := bne_iff_ne.2 hz
        have hz2 : Hd.rE (hn, fs) l pos' ≠ 0 := by rw [← her]; exact hz
        have HR2 : Hid (R = (er, E', pos')) := Lib.hid (by rw [HRES.out, Ps.exAll_no HY.out (by rw [HHD.out]; exact hz2), HHD.out, her])
        have HRP : Hid (Hd.rP (hn, fs) l pos' = pos') := Lib.hid (by unfold Hd.rP; rw [if_neg hz2])
        clear her hy n1 hg hfl hnm hz hz2
        go_wp2_with fail
        refine (HREAD.out _ grows).mono ?_
        rintro e w4 ⟨u, rfl, m4, r4, o4⟩
        have hpS : S pr := by rw [HS.out]; exact .inr (.inr rfl)
        have ho4 := HO.out.beside m4 HRO.out.blk (by decide) (by decide) (by decide) (by decide)
        have hm4 := HM.out.trans (m4.mono (fun k _ hk => by subst hk; exact hpS))
        rw [HRP.out] at r4
        have HO4 := Lib.hid ho4
        have R4 := Lib.hid r4
        have HM4 := Lib.hid hm4
        clear ho4 m4 r4 o4 hm4 pc1 r1 q0 q1
        go_wp2_with fail
        go_ret
        refine ⟨ret_int (by rw [HR2.out]), ?_, ?_, ?_⟩
        · exact (Mod.of_ext grows).trans HM4.out
        · rw [HR2.out]; exact ⟨vs', HO4.out⟩
        · rw [HR2.out]; exact R4.out
    · obtain rfl : k = x.ex.length := by omega
      have HR2 : Hid (R = (0, E', pos')) := Lib.hid (HRES.out.trans Ps.exAll_end)
      go_wp2_with fail
      go_ret
      refine ⟨ret_int (by rw [HR2.out]), ?_, ?_, ?_⟩
      · exact (Mod.of_ext grows).trans HM.out
      · rw [HR2.out]; exact ⟨vs', HO.out⟩
      · rw [HR2.out]; exact HRO.out
end Go.Proofs.Ytonnlcjkgpahoaa
namespace Go.Proofs.Ytonnlcjkgpahoaa
open Go.RowKit

set_option maxRecDepth 8000 in
set_option maxHeartbeats 2000000 in
theorem refuse_any {W : World} {p : Pg.PV} {P : Pg.Prog} {ss : List Ps.St} (hq : Ps.IsQ W p P ss) (da : Option Addr) (dn dc : Nat) (hdn : dn ≤ 9223372036854775807) : Calls Try.prog 83 #[p.val, .slice da dn dc] W (Rets W (.int .i64 (Ps.bad P ss dn))) := by
  obtain ⟨s, a1, a2, a3, a4, a5, a6, a7, a8, m1, m2, n3, m3, n4, m4, n5, m5, n6, m6, n7, m7, m8, hf⟩ := hq.1.form
  obtain ⟨rfl, hhs, hmd, _, hl1, hl2, _⟩ := hf
  have hss := hq.2
  dsimp only at hss
  obtain ⟨a6', m6', e6, hl6, hc6⟩ := hss.slice
  simp only [Value.slice.injEq] at e6
  obtain ⟨rfl, rfl, rfl⟩ := e6
  unfold maxLen at hc6
  obtain ⟨⟨r1, r2, r3⟩, hR⟩ : ∃ z, z = Ps.chk P ss := ⟨_, rfl⟩
  have HC : Hid (∀ w, Ext W w → Calls Try.prog 23 #[.agg #[.string s, .slice a1 P.hs.length m1, .slice a2 P.md.length m2, .slice a3 n3 m3, .slice a4 n4 m4, .slice a5 n5 m5, .slice a6 ss.length m6, .slice a7 n7 m7, .slice a8 P.dp.length m8]] w (Rets w (.tuple #[.int .i64 r1, .int .i64 r2, .int .i64 r3]))) := Lib.hid (fun w hx => by have h := pcheck_any (hq.ext hx); rw [← hR] at h; exact h)
  obtain ⟨R, hRB⟩ : ∃ z, z = Ps.bad P ss dn := ⟨_, rfl⟩
  rw [← hRB]
  have bx := alloc_heap W (.cells #[.string s, .slice a1 P.hs.length m1, .slice a2 P.md.length m2, .slice a3 n3 m3, .slice a4 n4 m4, .slice a5 n5 m5, .slice a6 ss.length m6, .slice a7 n7 m7, .slice a8 P.dp.length m8] 31)
  have pc0 := alw (cell_of (o := 0) bx)
  have pc1 := alw (cell_of (o := 1) bx)
  have pc2 := alw (cell_of (o := 2) bx)
  have pc3 := alw (cell_of (o := 3) bx)
  have pc4 := alw (cell_of (o := 4) bx)
  have pc5 := alw (cell_of (o := 5) bx)
  have pc6 := alw (cell_of (o := 6) bx)
  have pc7 := alw (cell_of (o := 7) bx)
  have pc8 := alw (cell_of (o := 8) bx)
  clear bx
  have HHS := Lib.hid hhs
  dsimp only [Pg.PV.val]
  by_cases h3 : r3 = 0
  · subst h3
    have HB : Hid (R = if (List.range P.hs.length).all (fun i => (Hd.chk (P.hs.getD i (⟨#[]⟩, [])) == 0)) then (if 512 < dn then 4 else 0) else 2) := Lib.hid (by rw [hRB]; unfold Ps.bad; rw [← hR, if_pos rfl])
    clear hq hhs hmd hss hR hRB
    go_enter Try.func83, Try.ntmps83
    go_wp2_with fail
    refine (HC.out _ grows).mono ?_
    rintro e w3 ⟨rfl, xw3⟩
    have sw3 := Step.mk xw3
    go_wp2_with fail
    go_loopw [21] (fun q wr => ∃ i : Nat, i ≤ P.hs.length ∧ q = .int .i64 i ∧ Ext w3 wr ∧ Hid (∀ j, j < i → (Hd.chk (P.hs.getD j (⟨#[]⟩, [])) == 0) = true)) (fun q _ => P.hs.length - (intOf q).toNat)
    case atStart => exact ⟨0, Nat.zero_le _, rfl, grows, Lib.hid (by intro j hj; omega)⟩
    case round =>
      obtain ⟨i, hi, rfl, hx, HZ⟩ := hrel
      have sx := Step.mk hx
      by_cases hlt : i < P.hs.length
      · obtain ⟨⟨hn, fs⟩, hg⟩ : ∃ g, P.hs[i]? = some g := ⟨_, List.getElem?_eq_getElem (by omega)⟩
        obtain ⟨bh, oh, rfl, _, _⟩ := Rows.at HHS.out (by omega)
        obtain ⟨fa, fc, q0, q1, hnm, hfl, hf1, hf2⟩ := hdrs_at HHS.out i hn fs hg rfl
        obtain ⟨ce, hce⟩ : ∃ z, z = Hd.chk (hn, fs) := ⟨_, rfl⟩
        have HCH : Hid (∀ w, Ext W w → Calls Try.prog 63 #[.agg #[.string hn, .slice fa fs.length fc]] w (Rets w (.int .i64 ce))) := Lib.hid (fun w hx => by have h := hcheck_any (hn, fs) (hfl.ext hx) hnm; rw [← hce] at h; exact h)
        have HE : Hid (Hd.chk (P.hs.getD i (⟨#[]⟩, [])) = ce) := Lib.hid (by rw [List.getD_eq_getElem?_getD, hg, hce]; rfl)
        have bx := alloc_heap wr (.cells #[.string hn, .slice fa fs.length fc] 72)
        have dc0 := alw (cell_of (o := 0) bx)
        have dc1 := alw (cell_of (o := 1) bx)
        clear bx
        unfold maxLen at hf2
        clear hce hg hfl hnm
        by_cases hc0 : ce = 0
        · subst hc0
          go_wp2_with fail
          refine (HCH.out _ grows).mono ?_
          rintro e w4 ⟨rfl, xw4⟩
          have sw4 := Step.mk xw4
          go_wp2_with fail
          go_roundw
          case rel =>
            refine ⟨i + 1, by omega, by go_num, grows, Lib.hid (fun j hj => ?_)⟩
            rcases Nat.lt_or_ge j i with h1 | h1
            · exact HZ.out j h1
            · obtain rfl : j = i := by omega
              rw [HE.out]; rfl
          case measure => simp [intOf]; omega
        · have z1 : (ce != 0) = true := bne_iff_ne.2 hc0
          have HC0 := Lib.hid hc0
          clear hc0
          go_wp2_with fail
          refine (HCH.out _ grows).mono ?_
          rintro e w4 ⟨rfl, xw4⟩
          have sw4 := Step.mk xw4
          go_wp2_with fail
          go_ret
          exact ⟨ret_int (by rw [HB.out, Pg.all_no hlt (by rw [HE.out]; exact beq_eq_false_iff_ne.2 HC0.out)]; rfl), grows⟩
      · obtain rfl : i = P.hs.length := by omega
        have HB2 : Hid (R = if 512 < dn then 4 else 0) := Lib.hid (by rw [HB.out, Pg.all_yes HZ.out]; rfl)
        by_cases hd : 512 < dn
        · have e1 : decide ((512 : Int) < (dn : Int)) = true := decide_eq_true (by omega)
          have HD := Lib.hid hd
          go_wp2_with fail
          go_ret
          exact ⟨ret_int (by rw [HB2.out, if_pos HD.out]), grows⟩
        · have e1 : decide ((512 : Int) < (dn : Int)) = false := decide_eq_false (by omega)
          have HD := Lib.hid hd
          go_wp2_with fail
          go_ret
          exact ⟨ret_int (by rw [HB2.out, if_neg HD.out]), grows⟩
  · have z1 : (r3 != 0) = true := bne_iff_ne.2 h3
    have HB : Hid (R = 2) := Lib.hid (by rw [hRB]; unfold Ps.bad; rw [← hR, if_neg h3])
    clear hq hhs hmd hss hR hRB h3
    go_enter Try.func83, Try.ntmps83
    go_wp2_with fail
    refine (HC.out _ grows).mono ?_
    rintro e w3 ⟨rfl, xw3⟩
    have sw3 := Step.mk xw3
    go_wp2_with fail
    go_ret
    exact ⟨ret_int (by rw [HB.out]), grows⟩
set_option maxRecDepth 8000 in
set_option maxHeartbeats 2000000 in
theorem accepted_any {W : World} {p : Pg.PV} {P : Pg.Prog} {ss : List Ps.St} (hq : Ps.IsQ W p P ss) (da : Option Addr) (dn dc : Nat) (hdn : dn ≤ 9223372036854775807) : Calls Try.prog 86 #[p.val, .slice da dn dc] W (Rets W (.int .i64 (Ps.bad P ss dn))) := by
  obtain ⟨s, a1, a2, a3, a4, a5, a6, a7, a8, m1, m2, n3, m3, n4, m4, n5, m5, n6, m6, n7, m7, m8, hf⟩ := hq.1.form
  obtain ⟨rfl, hhs, hmd, _, hl1, hl2, _⟩ := hf
  have hss := hq.2
  dsimp only at hss
  obtain ⟨a6', m6', e6, hl6, hc6⟩ := hss.slice
  simp only [Value.slice.injEq] at e6
  obtain ⟨rfl, rfl, rfl⟩ := e6
  unfold maxLen at hc6
  obtain ⟨⟨r1, r2, r3⟩, hR⟩ : ∃ z, z = Ps.chk P ss := ⟨_, rfl⟩
  have HC : Hid (∀ w, Ext W w → Calls Try.prog 24 #[.agg #[.string s, .slice a1 P.hs.length m1, .slice a2 P.md.length m2, .slice a3 n3 m3, .slice a4 n4 m4, .slice a5 n5 m5, .slice a6 ss.length m6, .slice a7 n7 m7, .slice a8 P.dp.length m8]] w (Rets w (.tuple #[.int .i64 r1, .int .i64 r2, .int .i64 r3]))) := Lib.hid (fun w hx => by have h := rcheck_any (hq.ext hx); rw [← hR] at h; exact h)
  obtain ⟨R, hRB⟩ : ∃ z, z = Ps.bad P ss dn := ⟨_, rfl⟩
  rw [← hRB]
  have bx := alloc_heap W (.cells #[.string s, .slice a1 P.hs.length m1, .slice a2 P.md.length m2, .slice a3 n3 m3, .slice a4 n4 m4, .slice a5 n5 m5, .slice a6 ss.length m6, .slice a7 n7 m7, .slice a8 P.dp.length m8] 31)
  have pc0 := alw (cell_of (o := 0) bx)
  have pc1 := alw (cell_of (o := 1) bx)
  have pc2 := alw (cell_of (o := 2) bx)
  have pc3 := alw (cell_of (o := 3) bx)
  have pc4 := alw (cell_of (o := 4) bx)
  have pc5 := alw (cell_of (o := 5) bx)
  have pc6 := alw (cell_of (o := 6) bx)
  have pc7 := alw (cell_of (o := 7) bx)
  have pc8 := alw (cell_of (o := 8) bx)
  clear bx
  have HHS := Lib.hid hhs
  dsimp only [Pg.PV.val]
  by_cases h3 : r3 = 0
  · subst h3
    have HB : Hid (R = if (List.range P.hs.length).all (fun i => (Hd.chk (P.hs.getD i (⟨#[]⟩, [])) == 0)) then (if 512 < dn then 4 else 0) else 2) := Lib.hid (by rw [hRB]; unfold Ps.bad; rw [← hR, if_pos rfl])
    clear hq hhs hmd hss hR hRB
    go_enter Try.func86, Try.ntmps86
    go_wp2_with fail
    refine (HC.out _ grows).mono ?_
    rintro e w3 ⟨rfl, xw3⟩
    have sw3 := Step.mk xw3
    go_wp2_with fail
    go_loopw [8] (fun q wr => ∃ i : Nat, i ≤ P.hs.length ∧ q = .int .i64 i ∧ Ext w3 wr ∧ Hid (∀ j, j < i → (Hd.chk (P.hs.getD j (⟨#[]⟩, [])) == 0) = true)) (fun q _ => P.hs.length - (intOf q).toNat)
    case atStart => exact ⟨0, Nat.zero_le _, rfl, grows, Lib.hid (by intro j hj; omega)⟩
    case round =>
      obtain ⟨i, hi, rfl, hx, HZ⟩ := hrel
      have sx := Step.mk hx
      by_cases hlt : i < P.hs.length
      · obtain ⟨⟨hn, fs⟩, hg⟩ : ∃ g, P.hs[i]? = some g := ⟨_, List.getElem?_eq_getElem (by omega)⟩
        obtain ⟨bh, oh, rfl, _, _⟩ := Rows.at HHS.out (by omega)
        obtain ⟨fa, fc, q0, q1, hnm, hfl, hf1, hf2⟩ := hdrs_at HHS.out i hn fs hg rfl
        obtain ⟨ce, hce⟩ : ∃ z, z = Hd.chk (hn, fs) := ⟨_, rfl⟩
        have HCH : Hid (∀ w, Ext W w → Calls Try.prog 37 #[.agg #[.string hn, .slice fa fs.length fc]] w (Rets w (.int .i64 ce))) := Lib.hid (fun w hx => by have h := rhcheck_any (hn, fs) (hfl.ext hx) hnm; rw [← hce] at h; exact h)
        have HE : Hid (Hd.chk (P.hs.getD i (⟨#[]⟩, [])) = ce) := Lib.hid (by rw [List.getD_eq_getElem?_getD, hg, hce]; rfl)
        have bx := alloc_heap wr (.cells #[.string hn, .slice fa fs.length fc] 72)
        have dc0 := alw (cell_of (o := 0) bx)
        have dc1 := alw (cell_of (o := 1) bx)
        clear bx
        unfold maxLen at hf2
        clear hce hg hfl hnm
        by_cases hc0 : ce = 0
        · subst hc0
          go_wp2_with fail
          refine (HCH.out _ grows).mono ?_
          rintro e w4 ⟨rfl, xw4⟩
          have sw4 := Step.mk xw4
          go_wp2_with fail
          go_roundw
          case rel =>
            refine ⟨i + 1, by omega, by go_num, grows, Lib.hid (fun j hj => ?_)⟩
            rcases Nat.lt_or_ge j i with h1 | h1
            · exact HZ.out j h1
            · obtain rfl : j = i := by omega
              rw [HE.out]; rfl
          case measure => simp [intOf]; omega
        · have z1 : (ce != 0) = true := bne_iff_ne.2 hc0
          have HC0 := Lib.hid hc0
          clear hc0
          go_wp2_with fail
          refine (HCH.out _ grows).mono ?_
          rintro e w4 ⟨rfl, xw4⟩
          have sw4 := Step.mk xw4
          go_wp2_with fail
          go_ret
          exact ⟨ret_int (by rw [HB.out, Pg.all_no hlt (by rw [HE.out]; exact beq_eq_false_iff_ne.2 HC0.out)]; rfl), grows⟩
      · obtain rfl : i = P.hs.length := by omega
        have HB2 : Hid (R = if 512 < dn then 4 else 0) := Lib.hid (by rw [HB.out, Pg.all_yes HZ.out]; rfl)
        by_cases hd : 512 < dn
        · have e1 : decide ((512 : Int) < (dn : Int)) = true := decide_eq_true (by omega)
          have HD := Lib.hid hd
          go_wp2_with fail
          go_ret
          exact ⟨ret_int (by rw [HB2.out, if_pos HD.out]), grows⟩
        · have e1 : decide ((512 : Int) < (dn : Int)) = false := decide_eq_false (by omega)
          have HD := Lib.hid hd
          go_wp2_with fail
          go_ret
          exact ⟨ret_int (by rw [HB2.out, if_neg HD.out]), grows⟩
  · have z1 : (r3 != 0) = true := bne_iff_ne.2 h3
    have HB : Hid (R = 2) := Lib.hid (by rw [hRB]; unfold Ps.bad; rw [← hR, if_neg h3])
    clear hq hhs hmd hss hR hRB h3
    go_enter Try.func86, Try.ntmps86
    go_wp2_with fail
    refine (HC.out _ grows).mono ?_
    rintro e w3 ⟨rfl, xw3⟩
    have sw3 := Step.mk xw3
    go_wp2_with fail
    go_ret
    exact ⟨ret_int (by rw [HB.out]), grows⟩
end Go.Proofs.Ytonnlcjkgpahoaa
