/- Small functions on numbers and words: what they compute. -/
import Derived.Test.YtbnncgahepcfnaaGreatDoorProg
import Derived.Test.YtbnncgahepcfnaaGreatDoorNo0
import Derived.Lib.ItoaNum
namespace Go.Proofs.YtbnncgahepcfnaaGreatDoor
open Go.RowKit Go.G9
def inB (n a b : Int) : Bool := decide (a ≤ n) && decide (n ≤ b)
theorem inB_eq {n a b : Int} {v : Bool} (h : (decide (a ≤ n) && decide (n ≤ b)) = v) : inB n a b = v := h
theorem inB_iff {n a b : Int} : inB n a b = true ↔ a ≤ n ∧ n ≤ b := by simp [inB]
def lowB (l : List UInt8) : Bool := l.all fun c => decide (97 ≤ c.toNat) && decide (c.toNat ≤ 122)
def wordB (s : ByteArray) : Bool := lowB s.data.toList && inB s.size 1 10

theorem inside_is (n a b : Int) (v : Bool) (hv : inB n a b = v) (w : World) : Calls Tryz.prog 98 #[.int .i64 n, .int .i64 a, .int .i64 b] w fun e w' => e = .returned (.bool v) ∧ w' = w := by
  subst hv
  go_enter Tryz.func98, Tryz.ntmps98
  go_wp2
  all_goals go_ret; exact ⟨by simp [inB, *] <;> omega, rfl⟩
theorem l1In_is (n a b : Int) (v : Bool) (hv : inB n a b = v) (w : World) : Calls Tryz.prog 100 #[.int .i64 n, .int .i64 a, .int .i64 b] w fun e w' => e = .returned (.bool v) ∧ w' = w := by
  subst hv
  go_enter Tryz.func100, Tryz.ntmps100
  go_wp2
  all_goals go_ret; exact ⟨by simp [inB, *] <;> omega, rfl⟩
theorem isDay_is (n : Int) (v : Bool) (hv : inB n 0 3650 = v) (w : World) : Calls Tryz.prog 72 #[.int .i64 n] w fun e w' => e = .returned (.bool v) ∧ w' = w := by
  subst hv
  go_enter Tryz.func72, Tryz.ntmps72
  go_wp2_with (go_at_call 98; refine (inside_is _ _ _ _ rfl _).mono ?_; rintro e w' ⟨rfl, rfl⟩)
  go_ret
  exact ⟨rfl, rfl⟩
theorem l24Day_is (n : Int) (v : Bool) (hv : inB n 0 3650 = v) (w : World) : Calls Tryz.prog 71 #[.int .i64 n] w fun e w' => e = .returned (.bool v) ∧ w' = w := by
  subst hv
  go_enter Tryz.func71, Tryz.ntmps71
  go_wp2_with (go_at_call 100; refine (l1In_is _ _ _ _ rfl _).mono ?_; rintro e w' ⟨rfl, rfl⟩)
  go_ret
  exact ⟨rfl, rfl⟩

theorem lowB_take_succ (s : ByteArray) (k : Nat) (h : k < s.size) : lowB (s.data.toList.take (k+1)) = (lowB (s.data.toList.take k) && (decide (97 ≤ s[k].toNat) && decide (s[k].toNat ≤ 122))) := by
  unfold lowB
  rw [List.take_succ_eq_append_getElem (by simpa using h), List.all_append]; simp; rfl
theorem lowB_not (s : ByteArray) (k : Nat) (h : k < s.size) (h1 : (decide (97 ≤ s[k].toNat) && decide (s[k].toNat ≤ 122)) = false) : lowB s.data.toList = false := by
  have : lowB s.data.toList = (lowB (s.data.toList.take (k+1)) && lowB (s.data.toList.drop (k+1))) := by
    unfold lowB; rw [← List.all_append, List.take_append_drop]
  rw [this, lowB_take_succ s k h, h1]; simp
theorem isWord_is (s : ByteArray) (hs : s.size ≤ maxLen) (v : Bool) (hv : wordB s = v) (w : World) : Calls Tryz.prog 83 #[.string s] w fun e w' => e = .returned (.bool v) ∧ w' = w := by
  subst hv
  unfold maxLen at hs
  go_enter Tryz.func83, Tryz.ntmps83
  go_wp2
  go_loop [3] (fun i => ∃ k : Nat, k ≤ s.size ∧ i = .int .i64 k ∧ lowB (s.data.toList.take k) = true) (fun i => s.size - (intOf i).toNat)
  case atStart => exact ⟨0, Nat.zero_le _, rfl, rfl⟩
  case round =>
    obtain ⟨k, hk, rfl, hl⟩ := hrel
    have HL := Lib.hid hl; clear hl
    by_cases hlt : k < s.size
    · by_cases h1 : s[k].toNat < 97
      · go_wp2
        go_ret
        exact ⟨by simp [wordB, lowB_not s k hlt (by simp; omega)], rfl⟩
      · by_cases h2 : 122 < s[k].toNat
        · go_wp2
          go_ret
          exact ⟨by simp [wordB, lowB_not s k hlt (by simp; omega)], rfl⟩
        · go_wp2
          go_round
          case rel => exact ⟨k + 1, by omega, by go_num, by rw [lowB_take_succ s k hlt, HL.out]; simp; omega⟩
          case measure => simp [intOf]; omega
    · obtain rfl : k = s.size := by omega
      go_wp2_with (go_at_call 98; refine (inside_is _ _ _ _ rfl _).mono ?_; rintro e w' ⟨rfl, rfl⟩)
      go_ret
      have := HL.out
      rw [List.take_of_length_le (by simp)] at this
      exact ⟨by simp [wordB, this], rfl⟩
theorem l2Word_is (s : ByteArray) (hs : s.size ≤ maxLen) (v : Bool) (hv : wordB s = v) (w : World) : Calls Tryz.prog 89 #[.string s] w fun e w' => e = .returned (.bool v) ∧ w' = w := by
  subst hv
  unfold maxLen at hs
  go_enter Tryz.func89, Tryz.ntmps89
  go_wp2
  go_loop [3] (fun i => ∃ k : Nat, k ≤ s.size ∧ i = .int .i64 k ∧ lowB (s.data.toList.take k) = true) (fun i => s.size - (intOf i).toNat)
  case atStart => exact ⟨0, Nat.zero_le _, rfl, rfl⟩
  case round =>
    obtain ⟨k, hk, rfl, hl⟩ := hrel
    have HL := Lib.hid hl; clear hl
    by_cases hlt : k < s.size
    · by_cases h1 : s[k].toNat < 97
      · go_wp2
        go_ret
        exact ⟨by simp [wordB, lowB_not s k hlt (by simp; omega)], rfl⟩
      · by_cases h2 : 122 < s[k].toNat
        · go_wp2
          go_ret
          exact ⟨by simp [wordB, lowB_not s k hlt (by simp; omega)], rfl⟩
        · go_wp2
          go_round
          case rel => exact ⟨k + 1, by omega, by go_num, by rw [lowB_take_succ s k hlt, HL.out]; simp; omega⟩
          case measure => simp [intOf]; omega
    · obtain rfl : k = s.size := by omega
      go_wp2_with (go_at_call 100; refine (l1In_is _ _ _ _ rfl _).mono ?_; rintro e w' ⟨rfl, rfl⟩)
      go_ret
      have := HL.out
      rw [List.take_of_length_le (by simp)] at this
      exact ⟨by simp [wordB, this], rfl⟩
end Go.Proofs.YtbnncgahepcfnaaGreatDoor
/- The text of a number: by the reference, by the program. -/
namespace Go.G9
open Go.RowKit
/-- The decimal text of a number. -/
def numS (n : Int) : ByteArray := ⟨(Lib.itoa n).toArray⟩
theorem ba_ext {a b : ByteArray} (h : a.data.toList = b.data.toList) : a = b := by
  obtain ⟨⟨a⟩⟩ := a; obtain ⟨⟨b⟩⟩ := b; simp at h; rw [h]
theorem nDigits_le : ∀ (k u : Nat), u < 10 ^ (k + 1) → (Lib.decDigits u).length ≤ k + 1
  | 0, u, h => by rw [Lib.decDigits_one (by simpa using h)]; simp
  | k + 1, u, h => by
    rw [Lib.decDigits]
    split
    · simp
    · rw [List.length_append]
      have := nDigits_le k (u / 10) (by rw [Nat.pow_succ] at h; omega)
      simp; omega
theorem numS_size (n : Int) (h : -1000000000 < n ∧ n < 1000000000) : (numS n).size ≤ 10 := by
  show (Lib.itoa n).toArray.size ≤ 10
  rw [List.size_toArray]
  unfold Lib.itoa
  split
  · have := nDigits_le 8 n.natAbs (by omega)
    simp; omega
  · have := nDigits_le 8 n.toNat (by omega)
    omega
end Go.G9
namespace Go.Proofs.YtbnncgahepcfnaaGreatDoor
open Go.RowKit Go.G9
theorem l1NumN_is (n : Nat) (h : n ≤ 1000000000) (w : World) : Calls Tryz.prog 92 #[.int .i64 n] w fun e w' => e = .returned (.string ⟨(Lib.decDigits n).toArray⟩) ∧ Below w.heap.size w w' := by
  induction n using Nat.strongRecOn generalizing w with
  | _ n ih =>
    have IH := Lib.hid ih; clear ih
    by_cases hn : n < 10
    · go_enter Tryz.func92, Tryz.ntmps92
      go_wp2
      go_ret
      refine ⟨?_, Below.refl _ _⟩
      show Ending.returned (Value.string _) = _
      rw [Lib.decDigits_one hn]
      have hc : ∀ k : Fin 10, (⟨#[48, 49, 50, 51, 52, 53, 54, 55, 56, 57]⟩ : ByteArray).extract k (k + 1) = ⟨#[UInt8.ofNat (48 + k)]⟩ := by decide +kernel
      have hk := hc ⟨n, hn⟩
      simp only at hk
      rw [hk]
    · have hq : ∀ W : World, Calls Tryz.prog 92 #[.int .i64 ((n : Int) / 10)] W fun e w' => e = .returned (.string ⟨(Lib.decDigits (n / 10)).toArray⟩) ∧ Below W.heap.size W w' := by
        intro W
        have h := IH.out (n / 10) (by omega) (by omega) W
        rw [show ((n / 10 : Nat) : Int) = (n : Int) / 10 from by omega] at h
        exact h
      have HQ := Lib.hid hq; clear hq
      have hm0 : (0 : Int) ≤ (n : Int) % 10 := by omega
      have hm1 : (n : Int) % 10 + 1 ≤ 10 := by omega
      have hm2 : (n : Int) % 10 ≤ 10 := by omega
      have hsz : (⟨#[48, 49, 50, 51, 52, 53, 54, 55, 56, 57]⟩ : ByteArray).size = 10 := rfl
      have hs1 : (⟨(Lib.decDigits (n / 10)).toArray⟩ : ByteArray).size ≤ 10 := by
        have := nDigits_le 8 (n / 10) (by omega)
        show (Lib.decDigits (n / 10)).toArray.size ≤ 10
        simp; omega
      have hs2 : ((⟨#[48, 49, 50, 51, 52, 53, 54, 55, 56, 57]⟩ : ByteArray).extract (n % 10) (n % 10 + 1)).size ≤ 10 := by
        rw [ByteArray.size_extract]; omega
      go_enter Tryz.func92, Tryz.ntmps92
      go_wp2
      refine wp_region_kin (by kernel_rfl) (by kernel_rfl) ?_
      repeat (go_big_quiet_step (((go_at_call 92; exact Kin.call _ (by first | exact Nat.le_refl _ | omega) (HQ.out _)))))
      refine wpQuiet_nil ?_
      intro K
      go_wp2
      go_ret
      refine ⟨?_, K.below⟩
      show Ending.returned (Value.string _) = _
      have hc : ∀ k : Fin 10, (⟨#[48, 49, 50, 51, 52, 53, 54, 55, 56, 57]⟩ : ByteArray).extract k (k + 1) = ⟨#[UInt8.ofNat (48 + k)]⟩ := by decide +kernel
      have hk := hc ⟨n % 10, Nat.mod_lt _ (by omega)⟩
      simp only at hk
      rw [hk]
      refine congrArg Ending.returned (congrArg Value.string (ba_ext ?_))
      conv => rhs; rw [Lib.decDigits, dif_neg hn]
      simp
theorem l1Num_is (n : Int) (h0 : -1000000000 < n) (h1 : n < 1000000000) (w : World) : Calls Tryz.prog 92 #[.int .i64 n] w fun e w' => e = .returned (.string (numS n)) ∧ Below w.heap.size w w' := by
  by_cases hn : 0 ≤ n
  · have h := l1NumN_is n.toNat (by omega) w
    rw [Int.toNat_of_nonneg hn] at h
    unfold numS Lib.itoa
    rw [if_neg (by omega)]
    exact h
  · have hn0 : n < 0 := by omega
    clear hn
    have hq : ∀ W : World, Calls Tryz.prog 92 #[.int .i64 (-n)] W fun e w' => e = .returned (.string ⟨(Lib.decDigits n.natAbs).toArray⟩) ∧ Below W.heap.size W w' := by
      intro W
      have h := l1NumN_is n.natAbs (by omega) W
      rw [show ((n.natAbs : Nat) : Int) = -n from by omega] at h
      exact h
    have HQ := Lib.hid hq; clear hq
    have hs1 : (Lib.decDigits n.natAbs).length ≤ 10 := by have := nDigits_le 8 n.natAbs (by omega); omega
    go_enter Tryz.func92, Tryz.ntmps92
    go_wp2_with fail
    refine (HQ.out _).mono ?_
    rintro e w1 ⟨rfl, hb1⟩
    go_wp2
    go_ret
    refine ⟨?_, hb1⟩
    show Ending.returned (Value.string _) = _
    refine congrArg Ending.returned (congrArg Value.string (ba_ext ?_))
    unfold numS Lib.itoa
    rw [if_pos (by omega)]
    simp
end Go.Proofs.YtbnncgahepcfnaaGreatDoor
