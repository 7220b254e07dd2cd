/- The reference of layer 2, walked: readers. No condition. -/
import Derived.Test.YtonnlcjkgpahoaaIoP
import Derived.Test.YtonnlcjkgpahoaaBvR
namespace Go.Proofs.Ytonnlcjkgpahoaa
open Go.RowKit

theorem set2 {w : World} {B : Nat} {a b a' b' : Value} {t : TypeId} (h : w.heap[B]? = some (.cells #[a, b] t (0, 0))) :
    ((w.setCell ⟨B, 0, none⟩ a').setCell ⟨B, 1, none⟩ b').heap[B]? = some (.cells #[a', b'] t (0, 0)) ∧ Mod (· = B) w ((w.setCell ⟨B, 0, none⟩ a').setCell ⟨B, 1, none⟩ b') :=
  ⟨setCell_heap (setCell_heap h), ((Mod.refl (· = B) w).setCell (p := ⟨B, 0, none⟩) (.inl rfl) _).setCell (p := ⟨B, 1, none⟩) (.inl rfl) _⟩
theorem set1 {w : World} {B : Nat} {a a' : Value} {t : TypeId} (h : w.heap[B]? = some (.cells #[a] t (0, 0))) :
    (w.setCell ⟨B, 0, none⟩ a').heap[B]? = some (.cells #[a'] t (0, 0)) ∧ Mod (· = B) w (w.setCell ⟨B, 0, none⟩ a') :=
  ⟨setCell_heap h, (Mod.refl (· = B) w).setCell (p := ⟨B, 0, none⟩) (.inl rfl) _⟩
theorem own_not {w : World} {base : Nat} {e t : TypeId} {size : Nat} {v : Value} {n B : Nat} {xs : List Value} {c : Array Value} {f : Nat × Nat} (h : w.ownsRow base e size v n xs) (hb : w.heap[B]? = some (.cells c t f)) (hne : e ≠ t) : ∀ k, v.ownBlock = some k → ¬ k = B := by
  intro k hk e1
  obtain ⟨cur, hc⟩ := own_type h hk
  exact ne_of_type hc hb hne e1
theorem vwidth_any (w : Int) (W : World) : Calls Try.prog 91 #[.int .i64 w] W fun e W' => e = .returned (.bool (Bv.ok w)) ∧ W = W' := by
  by_cases h1 : w < 1
  · have hk : Bv.ok w = false := Bv.not_ok (by omega)
    go_enter Try.func91, Try.ntmps91
    go_wp2
    go_ret
    exact ⟨rfl, rfl⟩
  · have h2 : (1 : Int) ≤ w := by omega
    go_enter Try.func91, Try.ntmps91
    go_wp2
    go_ret
    exact ⟨by simp [Bv.ok, h2], rfl⟩
theorem rNewReader_any (b : Value) (l : List Int) (W : World) (hs : Src W b 1 l.length (u8s l)) (hl : l.length ≤ 140737488355328) :
    Calls Try.prog 87 #[b] W fun e W' => ∃ oa c, e = .returned (.agg #[.slice oa l.length c, .int .i64 0]) ∧ Ext W W' ∧ W'.ownsRow W.heap.size 5 1 (.slice oa l.length c) l.length (u8s l) := by
  have hs1 := Lib.hid (hs.ext ((Ext.refl W).alloc (.cells #[.slice none 0 0, .int .i64 0] 124)))
  clear hs
  go_enter Try.func87, Try.ntmps87
  go_wp2_with (at_builtin; refine wpList_append_src rfl (.tmp 4) (.tmp 5) 35 rfl W.heap.size 5 (.int .u8 0) 1 1 Try.underlying35 info_u8 rfl (by decide) _ 0 [] rfl (World.ownsRow_nil _ _ _ _) _ l.length (u8s l) rfl hs1.out ?c1 ?c2 ?c3 ?_)
  case c1 => unfold maxLen; omega
  case c2 => omega
  case c3 => simp
  intro v' w' hown hgr _
  obtain ⟨oa, c, rfl⟩ := own_slice hown
  have hx := grown_ext hgr
  have e0 : w'.heap[W.heap.size]? = some (.cells #[.slice none 0 0, .int .i64 0] 124) := hx.heap (alloc_heap _ _)
  have c0 : w'.cell? ⟨W.heap.size, 0, none⟩ = some (.slice none 0 0) := cell_of e0
  have c1 : w'.cell? ⟨W.heap.size, 1, none⟩ = some (.int .i64 0) := cell_of e0
  have f0 : w'.frozen? ⟨W.heap.size, 0, none⟩ = false := free_of e0
  have f1 : w'.frozen? ⟨W.heap.size, 1, none⟩ = false := free_of e0
  have HO := Lib.hid hown
  have HX := Lib.hid (((Ext.refl W).alloc _).trans hx)
  have HE := Lib.hid e0
  clear hgr hown hx e0
  go_wp2
  obtain ⟨g1, g2⟩ := set2 (a' := .slice oa l.length c) (b' := .int .i64 0) HE.out
  have d0 := cell_of (o := 0) g1
  have d1 := cell_of (o := 1) g1
  exact bodyPost_ret (v := .agg #[.slice oa l.length c, .int .i64 0]) (by simp [results, Try.results87, go_sem, d0, d1]) rfl
    ⟨oa, c, rfl, HX.out.mod g2 (fun q hq => by rw [hq]; exact Nat.le_refl _), own_mod HO.out g2 (own_not HO.out HE.out (by decide))⟩

theorem rRemaining_any {W : World} {oa : Option Addr} {c pos : Nat} {l : List Int} (hl : l.length ≤ 140737488355328) (hp : pos ≤ 8 * l.length) :
    Calls Try.prog 115 #[.agg #[.slice oa l.length c, .int .i64 pos]] W (Rets W (.int .i64 (8 * l.length - pos))) := by
  go_enter Try.func115, Try.ntmps115
  go_wp2
  go_ret
  exact ⟨rfl, (Ext.refl W).alloc _⟩

theorem rReadBits_err {W : World} {oa : Option Addr} {c pos : Nat} {l : List Int} (k : Int) (hl : l.length ≤ 140737488355328) (hp : pos ≤ 8 * l.length) (he : Io.rdE l pos k ≠ 0) :
    Calls Try.prog 116 #[.agg #[.slice oa l.length c, .int .i64 pos], .int .i64 k] W
      (Rets W (.tuple #[.agg #[.slice oa l.length c, .int .i64 pos], .int .u32 0, .int .i64 (Io.rdE l pos k)])) := by
  cases hok : Bv.ok k
  · have e : Io.rdE l pos k = 10 := by unfold Io.rdE; rw [hok]; rfl
    rw [e]
    clear he e
    go_enter Try.func116, Try.ntmps116
    go_wp2_with (go_at_call 91; refine (vwidth_any _ _).mono ?_; rintro e w1 ⟨rfl, rfl⟩)
    exact bodyPost_ret (v := .tuple #[.agg #[.slice oa l.length c, .int .i64 pos], .int .u32 0, .int .i64 10]) (by simp [results, Try.results116, go_sem]) rfl
      ⟨rfl, ((Ext.refl W).alloc _).alloc _⟩
  · have hb := Bv.ok_iff.1 hok
    have hs : 8 * (l.length : Int) - pos < k := by
      have h1 := he
      unfold Io.rdE at h1
      rw [if_pos hok] at h1
      by_cases h2 : 8 * (l.length : Int) - pos < k
      · exact h2
      · rw [if_neg h2] at h1; exact absurd rfl h1
    have e : Io.rdE l pos k = 3 := by unfold Io.rdE; rw [if_pos hok, if_pos hs]
    rw [e]
    clear he e
    go_enter Try.func116, Try.ntmps116
    go_wp2_with fail
    refine (vwidth_any _ _).mono ?_
    rintro e w1 ⟨rfl, rfl⟩
    go_wp2_with fail
    refine (rRemaining_any hl hp).mono ?_
    rintro e w1 ⟨rfl, hx⟩
    have e0 : w1.heap[W.heap.size]? = some (.cells #[.slice oa l.length c, .int .i64 pos] 124) := hx.heap (by rw [Below.heap_alloc _ _ _ (by simp)]; exact alloc_heap _ _)
    have e1 : w1.heap[W.heap.size + 1]? = some (.cells #[.slice none 0 0, .int .i64 0] 124) := hx.heap (by have := alloc_heap (W.alloc (.cells #[.slice oa l.length c, .int .i64 pos] 124)) (.cells #[.slice none 0 0, .int .i64 0] 124); simpa using this)
    have c0 : w1.cell? ⟨W.heap.size, 0, none⟩ = some (.slice oa l.length c) := cell_of e0
    have c1 : w1.cell? ⟨W.heap.size, 1, none⟩ = some (.int .i64 pos) := cell_of e0
    have d0 : w1.cell? ⟨W.heap.size + 1, 0, none⟩ = some (.slice none 0 0) := cell_of e1
    have d1 : w1.cell? ⟨W.heap.size + 1, 1, none⟩ = some (.int .i64 0) := cell_of e1
    have f0 : w1.frozen? ⟨W.heap.size + 1, 0, none⟩ = false := free_of e1
    have f1 : w1.frozen? ⟨W.heap.size + 1, 1, none⟩ = false := free_of e1
    have HX := Lib.hid ((((Ext.refl W).alloc _).alloc _).trans hx)
    have HE := Lib.hid e1
    clear hx e0 e1
    go_wp2
    obtain ⟨g1, g2⟩ := set2 (a' := .slice oa l.length c) (b' := .int .i64 pos) HE.out
    have k0 := cell_of (o := 0) g1
    have k1 := cell_of (o := 1) g1
    exact bodyPost_ret (v := .tuple #[.agg #[.slice oa l.length c, .int .i64 pos], .int .u32 0, .int .i64 3]) (by simp [results, Try.results116, go_sem, k0, k1]) rfl
      ⟨rfl, HX.out.mod g2 (fun q hq => by rw [hq]; omega)⟩

set_option maxHeartbeats 400000 in
theorem rReadBits_ok {W : World} {oa : Option Addr} {c pos : Nat} {l : List Int} (k : Nat) (k1 : 1 ≤ k) (k2 : k ≤ 32) (hsrc : Src W (.slice oa l.length c) 1 l.length (u8s l)) (hby : Io.Bytes l) (hl : l.length ≤ 140737488355328) (hp : pos + k ≤ 8 * l.length) :
    Calls Try.prog 116 #[.agg #[.slice oa l.length c, .int .i64 pos], .int .i64 k] W
      (Rets W (.tuple #[.agg #[.slice oa l.length c, .int .i64 ((pos + k : Nat) : Int)], .int .u32 (Io.val l pos k), .int .i64 0])) := by
  have hok := Bv.ok_of (show (1 : Int) ≤ k by omega) (show (k : Int) ≤ 32 by omega)
  have hp1 : pos ≤ 8 * l.length := by omega
  have HS := Lib.hid hsrc
  have HBY := Lib.hid hby
  clear hsrc hby
  go_enter Try.func116, Try.ntmps116
  go_wp2_with fail
  refine (vwidth_any _ _).mono ?_
  rintro e w1 ⟨rfl, rfl⟩
  go_wp2_with fail
  refine (rRemaining_any hl hp1).mono ?_
  rintro e w1 ⟨rfl, hx⟩
  have e0 : w1.heap[W.heap.size]? = some (.cells #[.slice oa l.length c, .int .i64 pos] 124) := hx.heap (by rw [Below.heap_alloc _ _ _ (by simp)]; exact alloc_heap _ _)
  have e1 : w1.heap[W.heap.size + 1]? = some (.cells #[.slice none 0 0, .int .i64 0] 124) := hx.heap (by have := alloc_heap (W.alloc (.cells #[.slice oa l.length c, .int .i64 pos] 124)) (.cells #[.slice none 0 0, .int .i64 0] 124); simpa using this)
  have HX := Lib.hid ((((Ext.refl W).alloc _).alloc _).trans hx)
  have HE0 := Lib.hid e0
  have HE1 := Lib.hid e1
  clear hx e0 e1
  go_wp2_with fail
  go_loopw [7, 8] (fun v i wr => ∃ j : Nat, j ≤ k ∧ i = .int .i64 j ∧ v = .int .u32 (Io.val l pos j) ∧ Ext W wr ∧ wr.heap[W.heap.size]? = some (.cells #[.slice oa l.length c, .int .i64 ((pos + j : Nat) : Int)] 124 (0, 0)) ∧ wr.heap[W.heap.size + 1]? = some (.cells #[.slice none 0 0, .int .i64 0] 124 (0, 0))) (fun _ i _ => k - (intOf i).toNat)
  case atStart => exact ⟨0, Nat.zero_le _, rfl, rfl, HX.out, HE0.out, HE1.out⟩
  case round =>
    obtain ⟨j, hj, rfl, rfl, hx, e0, e1⟩ := hrel
    by_cases hlt : j < k
    · have hv := Io.val_lt31 l pos j (by omega)
      have hv0 := (Io.val_bd l pos j).1
      have hvs := Lib.hid (Io.val_succ l pos j)
      obtain ⟨q, hq⟩ : ∃ q, q = pos + j := ⟨_, rfl⟩
      rw [← hq] at e0 hvs
      have hq8 : q < 8 * l.length := by omega
      cases oa with
      | none =>
        rcases HS.out.2.2 with ⟨_, h0⟩ | ⟨_, _, h0, _⟩
        · omega
        · simp at h0
      | some ad =>
      obtain ⟨ea, _, ca⟩ := HS.out.at (by omega)
      obtain ⟨ab, ao, asp⟩ := ad
      simp only [Addr.mk.injEq, true_and] at ea
      subst ea
      dsimp only at ca
      obtain ⟨x, hxx⟩ : ∃ x, x = l.getD (q / 8) 0 := ⟨_, rfl⟩
      have hb := HBY.out.get (q / 8)
      rw [← hxx] at hb
      have f1 : wr.cell? ⟨ab, ao + q / 8, none⟩ = some (.int .u8 x) := hx.cell (by rw [hxx]; exact ca _ _ (u8s_get l _ (by omega)))
      have a0 : wr.cell? ⟨W.heap.size, 0, none⟩ = some (.slice (some ⟨ab, ao, none⟩) l.length c) := cell_of e0
      have a1 : wr.cell? ⟨W.heap.size, 1, none⟩ = some (.int .i64 q) := cell_of e0
      have a2 : wr.frozen? ⟨W.heap.size, 1, none⟩ = false := free_of e0
      have hy := Io.bit_bd l q
      have hbit : x / 2 ^ (7 - q % 8) % 2 = Io.bit l q := by rw [hxx]; rfl
      have hdn : 0 ≤ x / 2 ^ (7 - q % 8) ∧ x / 2 ^ (7 - q % 8) ≤ 255 := by
        have hp2 : (0 : Int) < 2 ^ (7 - q % 8) := Int.pow_pos (by decide)
        exact ⟨Int.ediv_nonneg hb.1 (by omega), Int.le_trans (Int.ediv_le_self _ hb.1) hb.2⟩
      have hst := setCell_heap (o := 1) (v := .int .i64 ((q + 1 : Nat) : Int)) e0
      have hmod := (Mod.refl (· = W.heap.size) wr).setCell (p := ⟨W.heap.size, 1, none⟩) (.inl rfl) (.int .i64 ((q + 1 : Nat) : Int))
      have HST := Lib.hid hst
      have HM := Lib.hid hmod
      have HE := Lib.hid e1
      have HQ := Lib.hid hq
      have HXX := Lib.hid hx
      clear hst hmod e0 e1 hq hxx ca hx
      go_wp2
      go_roundw
      case rel =>
        refine ⟨j + 1, by omega, by go_num, by rw [hvs.out], HXX.out.mod HM.out (fun i hi => by rw [hi]; exact Nat.le_refl _), ?_, HM.out.heap HE.out (by omega)⟩
        have h1 := HST.out
        rw [show pos + (j + 1) = q + 1 by rw [HQ.out]; omega]
        exact h1
      case measure => simp [intOf]; omega
    · obtain rfl : j = k := by omega
      have a0 : wr.cell? ⟨W.heap.size, 0, none⟩ = some (.slice oa l.length c) := cell_of e0
      have a1 : wr.cell? ⟨W.heap.size, 1, none⟩ = some (.int .i64 ((pos + j : Nat) : Int)) := cell_of e0
      have d0 : wr.cell? ⟨W.heap.size + 1, 0, none⟩ = some (.slice none 0 0) := cell_of e1
      have d1 : wr.cell? ⟨W.heap.size + 1, 1, none⟩ = some (.int .i64 0) := cell_of e1
      have f0 : wr.frozen? ⟨W.heap.size + 1, 0, none⟩ = false := free_of e1
      have f1 : wr.frozen? ⟨W.heap.size + 1, 1, none⟩ = false := free_of e1
      have HE := Lib.hid e1
      have HXX := Lib.hid hx
      clear e0 e1 hx
      go_wp2
      obtain ⟨g1, g2⟩ := set2 (a' := .slice oa l.length c) (b' := .int .i64 ((pos + j : Nat) : Int)) HE.out
      have k0 := cell_of (o := 0) g1
      have k1 := cell_of (o := 1) g1
      have hm := HXX.out.mod g2 (fun q hq => by rw [hq]; omega)
      simp only [Int.natCast_add] at k0 k1 hm ⊢
      exact bodyPost_ret (v := .tuple #[.agg #[.slice oa l.length c, .int .i64 ((pos : Int) + j)], .int .u32 (Io.val l pos j), .int .i64 0]) (by simp [results, Try.results116, go_sem, k0, k1]) rfl
        ⟨rfl, hm⟩
/-- one call, whatever its arguments -/
theorem rReadBits_any {W : World} {oa : Option Addr} {c pos : Nat} {l : List Int} (k : Int) (hsrc : Src W (.slice oa l.length c) 1 l.length (u8s l)) (hby : Io.Bytes l) (hl : l.length ≤ 140737488355328) (hp : pos ≤ 8 * l.length) :
    Calls Try.prog 116 #[.agg #[.slice oa l.length c, .int .i64 pos], .int .i64 k] W
      (Rets W (.tuple #[.agg #[.slice oa l.length c, .int .i64 ((Io.rdP l pos k : Nat) : Int)], .int .u32 (Io.rdV l pos k), .int .i64 (Io.rdE l pos k)])) := by
  by_cases he : Io.rdE l pos k = 0
  · obtain ⟨h1, h2⟩ := Io.rdE_zero he
    have h3 := Bv.ok_iff.1 h1
    obtain ⟨j, rfl⟩ := Int.eq_ofNat_of_zero_le (show 0 ≤ k by omega)
    have e1 : Io.rdP l pos j = pos + j := by unfold Io.rdP; rw [if_pos he]; rfl
    have e2 : Io.rdV l pos j = Io.val l pos j := by unfold Io.rdV; rw [if_pos he]; rfl
    rw [e1, e2, he]
    exact rReadBits_ok j (by omega) (by omega) hsrc hby hl (by omega)
  · have e1 : Io.rdP l pos k = pos := by unfold Io.rdP; rw [if_neg he]
    have e2 : Io.rdV l pos k = 0 := by unfold Io.rdV; rw [if_neg he]
    rw [e1, e2]
    exact rReadBits_err k hl hp he
end Go.Proofs.Ytonnlcjkgpahoaa
