/- Small functions on numbers and words: what they compute. -/
import Derived.Test.YtbnncgahepcfnaaDoorProg
import Derived.Test.YtbnncgahepcfnaaDoorBase
namespace Go.Proofs.YtbnncgahepcfnaaDoor
open Go.RowKit Go.G9
def inB (n a b : Int) : Bool := decide (a ≤ n) && decide (n ≤ b)
theorem inB_eq {n a b : Int} {v : Bool} (h : (decide (a ≤ n) && decide (n ≤ b)) = v) : inB n a b = v := h
theorem inB_iff {n a b : Int} : inB n a b = true ↔ a ≤ n ∧ n ≤ b := by simp [inB]
def lowB (l : List UInt8) : Bool := l.all fun c => decide (97 ≤ c.toNat) && decide (c.toNat ≤ 122)
def wordB (s : ByteArray) : Bool := lowB s.data.toList && inB s.size 1 10

theorem inside_is (n a b : Int) (v : Bool) (hv : inB n a b = v) (w : World) : Calls Tryd.prog 93 #[.int .i64 n, .int .i64 a, .int .i64 b] w fun e w' => e = .returned (.bool v) ∧ w' = w := by
  subst hv
  go_enter Tryd.func93, Tryd.ntmps93
  go_wp2
  all_goals go_ret; exact ⟨by simp [inB, *] <;> omega, rfl⟩
theorem l1In_is (n a b : Int) (v : Bool) (hv : inB n a b = v) (w : World) : Calls Tryd.prog 96 #[.int .i64 n, .int .i64 a, .int .i64 b] w fun e w' => e = .returned (.bool v) ∧ w' = w := by
  subst hv
  go_enter Tryd.func96, Tryd.ntmps96
  go_wp2
  all_goals go_ret; exact ⟨by simp [inB, *] <;> omega, rfl⟩
theorem isDay_is (n : Int) (v : Bool) (hv : inB n 0 3650 = v) (w : World) : Calls Tryd.prog 101 #[.int .i64 n] w fun e w' => e = .returned (.bool v) ∧ w' = w := by
  subst hv
  go_enter Tryd.func101, Tryd.ntmps101
  go_wp2_with (go_at_call 93; refine (inside_is _ _ _ _ rfl _).mono ?_; rintro e w' ⟨rfl, rfl⟩)
  go_ret
  exact ⟨rfl, rfl⟩
theorem l24Day_is (n : Int) (v : Bool) (hv : inB n 0 3650 = v) (w : World) : Calls Tryd.prog 97 #[.int .i64 n] w fun e w' => e = .returned (.bool v) ∧ w' = w := by
  subst hv
  go_enter Tryd.func97, Tryd.ntmps97
  go_wp2_with (go_at_call 96; refine (l1In_is _ _ _ _ rfl _).mono ?_; rintro e w' ⟨rfl, rfl⟩)
  go_ret
  exact ⟨rfl, rfl⟩

theorem lowB_take_succ (s : ByteArray) (k : Nat) (h : k < s.size) : lowB (s.data.toList.take (k+1)) = (lowB (s.data.toList.take k) && (decide (97 ≤ s[k].toNat) && decide (s[k].toNat ≤ 122))) := by
  unfold lowB
  rw [List.take_succ_eq_append_getElem (by simpa using h), List.all_append]; simp; rfl
theorem lowB_not (s : ByteArray) (k : Nat) (h : k < s.size) (h1 : (decide (97 ≤ s[k].toNat) && decide (s[k].toNat ≤ 122)) = false) : lowB s.data.toList = false := by
  have : lowB s.data.toList = (lowB (s.data.toList.take (k+1)) && lowB (s.data.toList.drop (k+1))) := by
    unfold lowB; rw [← List.all_append, List.take_append_drop]
  rw [this, lowB_take_succ s k h, h1]; simp
theorem isWord_is (s : ByteArray) (hs : s.size ≤ maxLen) (v : Bool) (hv : wordB s = v) (w : World) : Calls Tryd.prog 84 #[.string s] w fun e w' => e = .returned (.bool v) ∧ w' = w := by
  subst hv
  unfold maxLen at hs
  go_enter Tryd.func84, Tryd.ntmps84
  go_wp2
  go_loop [3] (fun i => ∃ k : Nat, k ≤ s.size ∧ i = .int .i64 k ∧ lowB (s.data.toList.take k) = true) (fun i => s.size - (intOf i).toNat)
  case atStart => exact ⟨0, Nat.zero_le _, rfl, rfl⟩
  case round =>
    obtain ⟨k, hk, rfl, hl⟩ := hrel
    have HL := Lib.hid hl; clear hl
    by_cases hlt : k < s.size
    · by_cases h1 : s[k].toNat < 97
      · go_wp2
        go_ret
        exact ⟨by simp [wordB, lowB_not s k hlt (by simp; omega)], rfl⟩
      · by_cases h2 : 122 < s[k].toNat
        · go_wp2
          go_ret
          exact ⟨by simp [wordB, lowB_not s k hlt (by simp; omega)], rfl⟩
        · go_wp2
          go_round
          case rel => exact ⟨k + 1, by omega, by go_num, by rw [lowB_take_succ s k hlt, HL.out]; simp; omega⟩
          case measure => simp [intOf]; omega
    · obtain rfl : k = s.size := by omega
      go_wp2_with (go_at_call 93; refine (inside_is _ _ _ _ rfl _).mono ?_; rintro e w' ⟨rfl, rfl⟩)
      go_ret
      have := HL.out
      rw [List.take_of_length_le (by simp)] at this
      exact ⟨by simp [wordB, this], rfl⟩
theorem l2Word_is (s : ByteArray) (hs : s.size ≤ maxLen) (v : Bool) (hv : wordB s = v) (w : World) : Calls Tryd.prog 81 #[.string s] w fun e w' => e = .returned (.bool v) ∧ w' = w := by
  subst hv
  unfold maxLen at hs
  go_enter Tryd.func81, Tryd.ntmps81
  go_wp2
  go_loop [3] (fun i => ∃ k : Nat, k ≤ s.size ∧ i = .int .i64 k ∧ lowB (s.data.toList.take k) = true) (fun i => s.size - (intOf i).toNat)
  case atStart => exact ⟨0, Nat.zero_le _, rfl, rfl⟩
  case round =>
    obtain ⟨k, hk, rfl, hl⟩ := hrel
    have HL := Lib.hid hl; clear hl
    by_cases hlt : k < s.size
    · by_cases h1 : s[k].toNat < 97
      · go_wp2
        go_ret
        exact ⟨by simp [wordB, lowB_not s k hlt (by simp; omega)], rfl⟩
      · by_cases h2 : 122 < s[k].toNat
        · go_wp2
          go_ret
          exact ⟨by simp [wordB, lowB_not s k hlt (by simp; omega)], rfl⟩
        · go_wp2
          go_round
          case rel => exact ⟨k + 1, by omega, by go_num, by rw [lowB_take_succ s k hlt, HL.out]; simp; omega⟩
          case measure => simp [intOf]; omega
    · obtain rfl : k = s.size := by omega
      go_wp2_with (go_at_call 96; refine (l1In_is _ _ _ _ rfl _).mono ?_; rintro e w' ⟨rfl, rfl⟩)
      go_ret
      have := HL.out
      rw [List.take_of_length_le (by simp)] at this
      exact ⟨by simp [wordB, this], rfl⟩
end Go.Proofs.YtbnncgahepcfnaaDoor
