/- Identifiers: the lexer's test and the reference's, walked. No condition. -/
import Derived.Test.YtonnlcjkgpahoaaBase
import Derived.Test.YtonnlcjkgpahoaaProg
import Derived.Deep.DeepFit
import Derived.Handy
namespace Go.Proofs.Ytonnlcjkgpahoaa
open Go.RowKit

namespace Id
theorem ret_bool {a b : Bool} (h : a = b) : Ending.returned (.bool a) = .returned (.bool b) := by rw [h]
def isL (c : Int) : Bool := (decide (97 ≤ c) && decide (c ≤ 122)) || (decide (65 ≤ c) && decide (c ≤ 90))
def isD (c : Int) : Bool := decide (48 ≤ c) && decide (c ≤ 57)
def isC (c : Int) : Bool := isL c || isD c || (c == 95)
def ex : List UInt8 → Nat
  | [] => 0
  | c :: l => if isC c.toNat then ex l + 1 else 0
theorem ex_le : ∀ l : List UInt8, ex l ≤ l.length
  | [] => Nat.le_refl _
  | c :: l => by unfold ex; split <;> simp <;> have := ex_le l <;> omega
theorem ex_all : ∀ l : List UInt8, ex l = l.length ↔ l.all (fun c => isC c.toNat) = true
  | [] => by simp [ex]
  | c :: l => by
    have ih := ex_all l
    unfold ex
    by_cases h : isC c.toNat = true
    · simp [h, ih]
    · simp [h]
/-- an identifier -/
def ok (s : ByteArray) : Bool := decide (1 ≤ s.size) && decide (s.size ≤ 16) && isL (s.data.toList.head?.getD 0).toNat && s.data.toList.all (fun c => isC c.toNat)
theorem drop_step (s : ByteArray) (k : Nat) (h : k < s.size) : s.data.toList.drop k = s[k] :: s.data.toList.drop (k + 1) := by
  rw [List.drop_eq_getElem_cons (by simpa using h)]; rfl
theorem head_at (s : ByteArray) (h : 0 < s.size) : s.data.toList.head?.getD 0 = s[0] := by
  rw [List.head?_eq_getElem?, List.getElem?_eq_getElem (by simpa using h)]; rfl
end Id

theorem letter_any (c : Int) (W : World) : Calls Try.prog 73 #[.int .u8 c] W fun e W' => e = .returned (.bool (Id.isL c)) ∧ W = W' := by
  by_cases h1 : 97 ≤ c <;> by_cases h2 : c ≤ 122 <;> by_cases h3 : 65 ≤ c <;> by_cases h4 : c ≤ 90 <;> first | omega | skip
  all_goals
    go_enter Try.func73, Try.ntmps73
    go_wp2
    go_ret
    exact ⟨by simp [Id.isL] <;> omega, rfl⟩
theorem digit_any (c : Int) (W : World) : Calls Try.prog 76 #[.int .u8 c] W fun e W' => e = .returned (.bool (Id.isD c)) ∧ W = W' := by
  by_cases h1 : 48 ≤ c <;> by_cases h2 : c ≤ 57 <;> first | omega | skip
  all_goals
    go_enter Try.func76, Try.ntmps76
    go_wp2
    go_ret
    exact ⟨by simp [Id.isD] <;> omega, rfl⟩
theorem rletter_any (c : Int) (W : World) : Calls Try.prog 93 #[.int .u8 c] W fun e W' => e = .returned (.bool (Id.isL c)) ∧ W = W' := by
  by_cases h1 : 97 ≤ c <;> by_cases h2 : c ≤ 122 <;> by_cases h3 : 65 ≤ c <;> by_cases h4 : c ≤ 90 <;> first | omega | skip
  all_goals
    go_enter Try.func93, Try.ntmps93
    go_wp2
    go_ret
    exact ⟨by simp [Id.isL] <;> omega, rfl⟩
theorem rdigit_any (c : Int) (W : World) : Calls Try.prog 94 #[.int .u8 c] W fun e W' => e = .returned (.bool (Id.isD c)) ∧ W = W' := by
  by_cases h1 : 48 ≤ c <;> by_cases h2 : c ≤ 57 <;> first | omega | skip
  all_goals
    go_enter Try.func94, Try.ntmps94
    go_wp2
    go_ret
    exact ⟨by simp [Id.isD] <;> omega, rfl⟩
theorem idchar_any (c : Int) (W : World) : Calls Try.prog 75 #[.int .u8 c] W fun e W' => e = .returned (.bool (Id.isC c)) ∧ W = W' := by
  cases h1 : Id.isL c <;> cases h2 : Id.isD c
  all_goals
    go_enter Try.func75, Try.ntmps75
    go_wp2_with (first
      | (go_at_call 73; refine (letter_any _ _).mono ?_; rintro e w1 ⟨rfl, rfl⟩)
      | (go_at_call 76; refine (digit_any _ _).mono ?_; rintro e w1 ⟨rfl, rfl⟩))
    go_ret
    exact ⟨by simp [Id.isC, h1, h2], rfl⟩

theorem extent_any (s : ByteArray) (W : World) (hs : s.size ≤ maxLen) :
    Calls Try.prog 74 #[.string s, .func (.func 75) #[] #[]] W fun e W' => e = .returned (.int .i64 (Id.ex s.data.toList)) ∧ W = W' := by
  unfold maxLen at hs
  go_enter Try.func74, Try.ntmps74
  go_wp2
  go_loop [5] (fun i => ∃ k : Nat, k ≤ s.size ∧ i = .int .i64 k ∧ Hid (k + Id.ex (s.data.toList.drop k) = Id.ex s.data.toList)) (fun i => s.size - (intOf i).toNat)
  case atStart => exact ⟨0, Nat.zero_le _, rfl, Lib.hid (by simp)⟩
  case round =>
    obtain ⟨k, hk, rfl, HE⟩ := hrel
    by_cases hlt : k < s.size
    · have hd := Id.drop_step s k hlt
      cases hc : Id.isC s[k].toNat
      · have HF : Hid (Id.ex (s.data.toList.drop k) = 0) := Lib.hid (by rw [hd]; simp [Id.ex, hc])
        clear hd
        go_wp2_with (go_at_call 75; refine (idchar_any _ _).mono ?_; rintro e w1 ⟨rfl, rfl⟩; rw [hc])
        go_ret
        exact ⟨by have := HE.out; rw [HF.out] at this; rw [← this]; rfl, rfl⟩
      · have HF : Hid (Id.ex (s.data.toList.drop k) = Id.ex (s.data.toList.drop (k + 1)) + 1) := Lib.hid (by rw [hd]; simp [Id.ex, hc])
        clear hd
        go_wp2_with (go_at_call 75; refine (idchar_any _ _).mono ?_; rintro e w1 ⟨rfl, rfl⟩; rw [hc])
        go_round
        case rel => exact ⟨k + 1, by omega, by go_num, Lib.hid (by have := HE.out; rw [HF.out] at this; omega)⟩
        case measure => simp [intOf]; omega
    · obtain rfl : k = s.size := by omega
      go_wp2
      go_ret
      exact ⟨by have := HE.out; rw [List.drop_eq_nil_of_le (by simp)] at this; rw [← this]; rfl, rfl⟩

theorem ident_any (s : ByteArray) (W : World) (hs : s.size ≤ maxLen) :
    Calls Try.prog 51 #[.string s] W fun e W' => e = .returned (.bool (Id.ok s)) ∧ W = W' := by
  have hs2 := hs
  unfold maxLen at hs2
  by_cases h0 : s.size = 0
  · have e : Id.ok s = false := by simp [Id.ok, h0]
    rw [e]
    go_enter Try.func51, Try.ntmps51
    go_wp2
    go_ret
    exact ⟨rfl, rfl⟩
  · by_cases h16 : s.size ≤ 16
    · have hpos : 0 < s.size := by omega
      have hh := Id.head_at s hpos
      have hne : ¬ (s.size : Int) = 0 := by omega
      have hne2 : ((s.size : Int) == 0) = false := by rw [beq_eq_false_iff_ne]; omega
      cases hL : Id.isL s[0].toNat
      · have e : Id.ok s = false := by simp [Id.ok, hh, hL]
        rw [e]
        clear hh e
        go_enter Try.func51, Try.ntmps51
        go_wp2_with (go_at_call 73; refine (letter_any _ _).mono ?_; rintro e w1 ⟨rfl, rfl⟩; rw [hL])
        go_ret
        exact ⟨rfl, rfl⟩
      · have e : Id.ok s = decide (Id.ex s.data.toList = s.size) := by
          have h1 := Id.ex_all s.data.toList
          have h2 : s.data.toList.length = s.size := by simp
          rw [h2] at h1
          rw [Bool.eq_iff_iff, decide_eq_true_iff, h1]
          simp [Id.ok, hh, hL, h16]; omega
        have HE := Lib.hid e
        clear hh e
        go_enter Try.func51, Try.ntmps51
        go_wp2_with (first
          | (go_at_call 73; refine (letter_any _ _).mono ?_; rintro e w1 ⟨rfl, rfl⟩; rw [hL])
          | (go_at_call 74; refine (extent_any s _ hs).mono ?_; rintro e w1 ⟨rfl, rfl⟩))
        go_ret
        exact ⟨by rw [HE.out]; exact Id.ret_bool (by by_cases h : Id.ex s.data.toList = s.size <;> simp [h] <;> omega), rfl⟩
    · have e : Id.ok s = false := by simp [Id.ok, h16]
      rw [e]
      have h17 : 16 < s.size := by omega
      have hne2 : ((s.size : Int) == 0) = false := by rw [beq_eq_false_iff_ne]; omega
      go_enter Try.func51, Try.ntmps51
      go_wp2
      go_ret
      exact ⟨rfl, rfl⟩

theorem rident_any (s : ByteArray) (W : World) (hs : s.size ≤ maxLen) :
    Calls Try.prog 61 #[.string s] W fun e W' => e = .returned (.bool (Id.ok s)) ∧ W = W' := by
  unfold maxLen at hs
  by_cases h0 : s.size = 0
  · have e : Id.ok s = false := by simp [Id.ok, h0]
    rw [e]
    have h1 : s.toList = [] := by
      have : s.data.toList = [] := List.length_eq_zero_iff.1 (by simpa using h0)
      rw [ByteArray.toList_eq]; exact this
    go_enter Try.func61, Try.ntmps61
    go_wp2
    go_ret
    exact ⟨rfl, rfl⟩
  · have hpos : 0 < s.size := by omega
    have h1 : ¬ s.toList = [] := by
      rw [ByteArray.toList_eq]; intro e; apply h0; have := congrArg List.length e; simpa using this
    have h2 : s.toList.isEmpty = false := by simpa using h1
    by_cases h16 : s.size ≤ 16
    · have hh := Id.head_at s hpos
      cases hL : Id.isL s[0].toNat
      · have e : Id.ok s = false := by simp [Id.ok, hh, hL]
        rw [e]
        clear hh e
        go_enter Try.func61, Try.ntmps61
        go_wp2_with (go_at_call 93; refine (rletter_any _ _).mono ?_; rintro e w1 ⟨rfl, rfl⟩; rw [hL])
        go_ret
        exact ⟨rfl, rfl⟩
      · have e : Id.ok s = s.data.toList.all (fun c => Id.isC c.toNat) := by
          simp [Id.ok, hh, hL, h16]; intro _; omega
        have HE := Lib.hid e
        clear hh e
        go_enter Try.func61, Try.ntmps61
        go_wp2_with (go_at_call 93; refine (rletter_any _ _).mono ?_; rintro e w1 ⟨rfl, rfl⟩; rw [hL])
        go_loop [3] (fun i => ∃ k : Nat, k ≤ s.size ∧ i = .int .i64 k ∧ Hid ((s.data.toList.drop k).all (fun c => Id.isC c.toNat) = s.data.toList.all (fun c => Id.isC c.toNat))) (fun i => s.size - (intOf i).toNat)
        case atStart => exact ⟨0, Nat.zero_le _, rfl, Lib.hid (by simp)⟩
        case round =>
          obtain ⟨k, hk, rfl, HA⟩ := hrel
          by_cases hlt : k < s.size
          · have hd := Id.drop_step s k hlt
            have HD := Lib.hid hd
            clear hd
            cases h1 : Id.isL s[k].toNat <;> cases h2 : Id.isD s[k].toNat <;> by_cases h3 : (s[k].toNat : Int) = 95
            all_goals
              first
              | (have hc : Id.isC s[k].toNat = false := by simp [Id.isC, h1, h2, h3]
                 have h4 : ((s[k].toNat : Int) != 95) = true := by simpa using h3
                 have HF := Lib.hid hc
                 clear hc h3
                 go_wp2_with (first
                   | (go_at_call 93; refine (rletter_any _ _).mono ?_; rintro e w1 ⟨rfl, rfl⟩; rw [h1])
                   | (go_at_call 94; refine (rdigit_any _ _).mono ?_; rintro e w1 ⟨rfl, rfl⟩; rw [h2]))
                 go_ret
                 exact ⟨by rw [HE.out, ← HA.out, HD.out]; simp [HF.out], rfl⟩)
              | (have hc : Id.isC s[k].toNat = true := by simp [Id.isC, h1, h2, h3]
                 have HF := Lib.hid hc
                 clear hc
                 try (have h4 : ((s[k].toNat : Int) != 95) = false := by simpa using h3)
                 clear h3
                 go_wp2_with (first
                   | (go_at_call 93; refine (rletter_any _ _).mono ?_; rintro e w1 ⟨rfl, rfl⟩; rw [h1])
                   | (go_at_call 94; refine (rdigit_any _ _).mono ?_; rintro e w1 ⟨rfl, rfl⟩; rw [h2]))
                 go_round
                 case rel => exact ⟨k + 1, by omega, by go_num, Lib.hid (by have := HA.out; rw [HD.out] at this; simpa [HF.out] using this)⟩
                 case measure => simp [intOf]; omega)
          · obtain rfl : k = s.size := by omega
            go_wp2
            go_ret
            exact ⟨by rw [HE.out, ← HA.out, List.drop_eq_nil_of_le (by simp)]; rfl, rfl⟩
    · have e : Id.ok s = false := by simp [Id.ok, h16]
      rw [e]
      have h17 : 16 < s.size := by omega
      go_enter Try.func61, Try.ntmps61
      go_wp2
      go_ret
      exact ⟨rfl, rfl⟩
end Go.Proofs.Ytonnlcjkgpahoaa
