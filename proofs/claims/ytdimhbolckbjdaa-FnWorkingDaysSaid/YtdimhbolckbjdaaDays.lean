/- Working days: what the two counts of days compute. -/
import Derived.Test.YtdimhbolckbjdaaStr
namespace Go.Proofs.Ytdimhbolckbjdaa
open Go.RowKit Go.G9
def wkB (d : Int) : Bool := decide (d % 7 < 5)
/-- Working days among the k days behind a. -/
def cntW (a : Int) : Nat → Nat
  | 0 => 0
  | k + 1 => cntW a k + if wkB (a + (k + 1 : Nat)) then 1 else 0
/-- How many rounds may pass before a working day. -/
def gapW (d : Int) : Int := if (d + 1) % 7 < 5 then 0 else 7 - (d + 1) % 7
theorem gapW_bd (d : Int) : 0 ≤ gapW d ∧ gapW d ≤ 2 := by unfold gapW; split <;> omega
theorem gapW_go {d : Int} (h : wkB (d + 1) = false) : gapW (d + 1) + 1 = gapW d := by
  unfold wkB at h; simp only [decide_eq_false_iff_not] at h
  unfold gapW; rw [if_neg h]; split <;> omega
/-- k is the number of days to the n-th working day behind a. -/
def Nth (a : Int) (n k : Nat) : Prop := cntW a k = n ∧ ∀ j, j < k → cntW a j < n
theorem Nth.uniq {a : Int} {n k k' : Nat} (h : Nth a n k) (h' : Nth a n k') : k = k' := by
  rcases Nat.lt_trichotomy k k' with hlt | rfl | hlt
  · have := h'.2 k hlt; rw [h.1] at this; omega
  · rfl
  · have := h.2 k' hlt; rw [h'.1] at this; omega
theorem cntW_le (a : Int) : ∀ k, cntW a k ≤ k
  | 0 => Nat.le_refl _
  | k + 1 => by have := cntW_le a k; unfold cntW; split <;> omega
theorem isWorkingDay_is (d : Int) (h0 : 0 ≤ d) (h1 : d ≤ 1000000) (v : Bool) (hv : wkB d = v) (w : World) : Calls Try.prog 85 #[.int .i64 d] w fun e w' => e = .returned (.bool v) ∧ w' = w := by
  subst hv
  go_enter Try.func85, Try.ntmps85
  go_wp2
  go_ret
  exact ⟨rfl, rfl⟩
theorem l24Working_is (d : Int) (h0 : 0 ≤ d) (h1 : d ≤ 1000000) (v : Bool) (hv : wkB d = v) (w : World) : Calls Try.prog 82 #[.int .i64 d] w fun e w' => e = .returned (.bool v) ∧ w' = w := by
  subst hv
  go_enter Try.func82, Try.ntmps82
  go_wp2
  go_ret
  exact ⟨rfl, rfl⟩
theorem asDay_yes (d : Int) (h : inB d 0 3650 = true) (w : World) : Calls Try.prog 86 #[.int .i64 d] w fun e w' => e = .returned (.tuple #[.int .i64 d, .bool true]) ∧ w' = w := by
  go_enter Try.func86, Try.ntmps86
  go_wp2_with (go_at_call 83; refine (isDay_is _ _ h _).mono ?_; rintro e w' ⟨rfl, rfl⟩)
  go_ret2
  exact ⟨rfl, rfl⟩
theorem asDay_no (d : Int) (h : inB d 0 3650 = false) (w : World) : Calls Try.prog 86 #[.int .i64 d] w fun e w' => e = .returned (.tuple #[.int .i64 0, .bool false]) ∧ w' = w := by
  go_enter Try.func86, Try.ntmps86
  go_wp2_with (go_at_call 83; refine (isDay_is _ _ h _).mono ?_; rintro e w' ⟨rfl, rfl⟩)
  go_ret2
  exact ⟨rfl, rfl⟩
def dayOr (d : Int) : Value := if inB d 0 3650 then .tuple #[.int .i64 d, .bool true] else .tuple #[.int .i64 0, .bool false]
theorem asDay_is (d : Int) (w : World) : Calls Try.prog 86 #[.int .i64 d] w fun e w' => e = .returned (dayOr d) ∧ w' = w := by
  unfold dayOr
  cases h : inB d 0 3650
  · exact asDay_no d h w
  · exact asDay_yes d h w
/-- The answer of AfterWorkingDays. -/
def awdOut (d n : Int) (v : Value) : Prop :=
  ((inB d 0 3650 && inB n 0 500) = false ∧ v = .tuple #[.int .i64 0, .bool false]) ∨ (inB d 0 3650 = true ∧ inB n 0 500 = true ∧ ∃ k, Nth d n.toNat k ∧ v = if inB (d + k) 0 3650 then .tuple #[.int .i64 (d + k), .bool true] else .tuple #[.int .i64 0, .bool false])
theorem awdOut.uniq {d n : Int} {v v' : Value} (h : awdOut d n v) (h' : awdOut d n v') : v = v' := by
  rcases h with ⟨h1, h2⟩ | ⟨h1, h2, k, h3, h4⟩ <;> rcases h' with ⟨g1, g2⟩ | ⟨g1, g2, k', g3, g4⟩
  · rw [h2, g2]
  · simp [g1, g2] at h1
  · simp [h1, h2] at g1
  · obtain rfl := h3.uniq g3; rw [h4, g4]
/-- The loop's relation. -/
def awdRel (d0 n0 : Int) (n d : Value) : Prop := ∃ (k : Nat) (m : Int), n = .int .i64 m ∧ d = .int .i64 (d0 + k) ∧ 0 ≤ m ∧ (cntW d0 k : Int) + m = n0 ∧ (∀ j, j < k → (cntW d0 j : Int) < n0) ∧ (d0 + k) + (3 * m + gapW (d0 + k)) ≤ 5200
theorem awdRel.step {d0 n0 m : Int} {k : Nat} (h0 : 0 < m) (hc : (cntW d0 k : Int) + m = n0) (hj : ∀ j, j < k → (cntW d0 j : Int) < n0) (hm : (d0 + k) + (3 * m + gapW (d0 + k)) ≤ 5200) (b : Bool) (hb : wkB (d0 + k + 1) = b) :
    (cntW d0 (k + 1) : Int) + (m - if b then 1 else 0) = n0 ∧ (∀ j, j < k + 1 → (cntW d0 j : Int) < n0) ∧ (d0 + (k + 1 : Nat)) + (3 * (m - if b then 1 else 0) + gapW (d0 + (k + 1 : Nat))) ≤ 5200 ∧
      (3 * (m - if b then 1 else 0) + gapW (d0 + (k + 1 : Nat))) < 3 * m + gapW (d0 + k) := by
  have e : d0 + ((k + 1 : Nat) : Int) = d0 + k + 1 := by omega
  have hcnt : (cntW d0 (k + 1) : Int) = cntW d0 k + if b then 1 else 0 := by
    rw [cntW, e, hb]; cases b <;> simp
  have g1 := gapW_bd (d0 + k)
  have g2 := gapW_bd (d0 + k + 1)
  rw [e, hcnt]
  refine ⟨by cases b <;> simp <;> omega, fun j hj' => ?_, ?_, ?_⟩
  · by_cases hjk : j = k
    · subst hjk; omega
    · exact hj j (by omega)
  · cases b
    · have := gapW_go hb; simp; omega
    · simp; omega
  · cases b
    · have := gapW_go hb; simp; omega
    · simp; omega
theorem afterWorkingDays_is (d n : Int) (w : World) : Calls Try.prog 16 #[.int .i64 d, .int .i64 n] w fun e w' => ∃ v, e = .returned v ∧ awdOut d n v ∧ w' = w := by
  cases hd : inB d 0 3650
  · go_enter Try.func16, Try.ntmps16
    go_wp2_with (go_at_call 83; refine (isDay_is _ _ hd _).mono ?_; rintro e w' ⟨rfl, rfl⟩)
    go_ret2
    exact ⟨_, rfl, .inl ⟨by simp [hd], rfl⟩, rfl⟩
  cases hn : inB n 0 500
  · go_enter Try.func16, Try.ntmps16
    go_wp2_with (first | (go_at_call 83; refine (isDay_is _ _ hd _).mono ?_; rintro e w' ⟨rfl, rfl⟩) | (go_at_call 84; refine (inside_is _ _ _ _ hn _).mono ?_; rintro e w' ⟨rfl, rfl⟩))
    go_ret2
    exact ⟨_, rfl, .inl ⟨by simp [hn], rfl⟩, rfl⟩
  · have hd' := inB_iff.1 hd
    have hn' := inB_iff.1 hn
    go_enter Try.func16, Try.ntmps16
    go_wp2_with (first | (go_at_call 83; refine (isDay_is _ _ hd _).mono ?_; rintro e w' ⟨rfl, rfl⟩) | (go_at_call 84; refine (inside_is _ _ _ _ hn _).mono ?_; rintro e w' ⟨rfl, rfl⟩))
    go_loop [0, 1] (fun dv nv => awdRel d n nv dv) (fun dv nv => (3 * intOf nv + gapW (intOf dv)).toNat)
    case atStart => exact ⟨0, n, rfl, by simp, by omega, by simp [cntW], fun j hj => absurd hj (Nat.not_lt_zero _), by have := gapW_bd d; simp; omega⟩
    case round =>
      obtain ⟨k, m, rfl, rfl, h0, hc, hj, hm⟩ := hrel
      have hg := gapW_bd (d + k)
      have HC := Lib.hid hc; clear hc
      have HJ := Lib.hid hj; clear hj
      by_cases hm0 : 0 < m
      · cases hb : wkB (d + k + 1)
        · have S := awdRel.step hm0 HC.out HJ.out hm false hb
          have HS := Lib.hid S; clear S
          go_wp2_with (go_at_call 85; refine (isWorkingDay_is _ (by omega) (by omega) _ hb _).mono ?_; rintro e w' ⟨rfl, rfl⟩)
          go_round
          case rel => exact ⟨k + 1, m, rfl, by go_num, by omega, by simpa using HS.out.1, HS.out.2.1, by simpa using HS.out.2.2.1⟩
          case measure => have h4 := HS.out.2.2.2; have g2 := gapW_bd (d + (k + 1 : Nat)); simp [intOf] at h4 g2 ⊢; rw [← Int.add_assoc] at h4 g2; omega
        · have S := awdRel.step hm0 HC.out HJ.out hm true hb
          have HS := Lib.hid S; clear S
          go_wp2_with (go_at_call 85; refine (isWorkingDay_is _ (by omega) (by omega) _ hb _).mono ?_; rintro e w' ⟨rfl, rfl⟩)
          go_round
          case rel => exact ⟨k + 1, m - 1, rfl, by go_num, by omega, by simpa using HS.out.1, HS.out.2.1, by simpa using HS.out.2.2.1⟩
          case measure => have h4 := HS.out.2.2.2; have g2 := gapW_bd (d + (k + 1 : Nat)); simp [intOf] at h4 g2 ⊢; rw [← Int.add_assoc] at h4 g2; omega
      · have hk : Nth d n.toNat k := ⟨by have := HC.out; omega, fun j hj' => by have := HJ.out j hj'; omega⟩
        have HK := Lib.hid hk; clear hk
        cases he : inB (d + k) 0 3650
        · go_wp2_with fail
          refine (asDay_no _ he _).mono ?_
          rintro e w' ⟨rfl, rfl⟩
          go_wp2
          go_ret2
          exact ⟨_, rfl, .inr ⟨hd, hn, k, HK.out, by simp [he]⟩, rfl⟩
        · go_wp2_with fail
          refine (asDay_yes _ he _).mono ?_
          rintro e w' ⟨rfl, rfl⟩
          go_wp2
          go_ret2
          exact ⟨_, rfl, .inr ⟨hd, hn, k, HK.out, by simp [he]⟩, rfl⟩
theorem sAfterWorkingDays_is (d n : Int) (w : World) : Calls Try.prog 15 #[.int .i64 d, .int .i64 n] w fun e w' => ∃ v, e = .returned v ∧ awdOut d n v ∧ w' = w := by
  cases hd : inB d 0 3650
  · go_enter Try.func15, Try.ntmps15
    go_wp2_with (go_at_call 80; refine (l24Day_is _ _ hd _).mono ?_; rintro e w' ⟨rfl, rfl⟩)
    go_ret2
    exact ⟨_, rfl, .inl ⟨by simp [hd], rfl⟩, rfl⟩
  cases hn : inB n 0 500
  · go_enter Try.func15, Try.ntmps15
    go_wp2_with (first | (go_at_call 80; refine (l24Day_is _ _ hd _).mono ?_; rintro e w' ⟨rfl, rfl⟩) | (go_at_call 81; refine (l1In_is _ _ _ _ hn _).mono ?_; rintro e w' ⟨rfl, rfl⟩))
    go_ret2
    exact ⟨_, rfl, .inl ⟨by simp [hn], rfl⟩, rfl⟩
  · have hd' := inB_iff.1 hd
    have hn' := inB_iff.1 hn
    go_enter Try.func15, Try.ntmps15
    go_wp2_with (first | (go_at_call 80; refine (l24Day_is _ _ hd _).mono ?_; rintro e w' ⟨rfl, rfl⟩) | (go_at_call 81; refine (l1In_is _ _ _ _ hn _).mono ?_; rintro e w' ⟨rfl, rfl⟩))
    go_loop [0, 1] (fun dv nv => awdRel d n nv dv) (fun dv nv => (3 * intOf nv + gapW (intOf dv)).toNat)
    case atStart => exact ⟨0, n, rfl, by simp, by omega, by simp [cntW], fun j hj => absurd hj (Nat.not_lt_zero _), by have := gapW_bd d; simp; omega⟩
    case round =>
      obtain ⟨k, m, rfl, rfl, h0, hc, hj, hm⟩ := hrel
      have hg := gapW_bd (d + k)
      have HC := Lib.hid hc; clear hc
      have HJ := Lib.hid hj; clear hj
      by_cases hm0 : 0 < m
      · cases hb : wkB (d + k + 1)
        · have S := awdRel.step hm0 HC.out HJ.out hm false hb
          have HS := Lib.hid S; clear S
          go_wp2_with (go_at_call 82; refine (l24Working_is _ (by omega) (by omega) _ hb _).mono ?_; rintro e w' ⟨rfl, rfl⟩)
          go_round
          case rel => exact ⟨k + 1, m, rfl, by go_num, by omega, by simpa using HS.out.1, HS.out.2.1, by simpa using HS.out.2.2.1⟩
          case measure => have h4 := HS.out.2.2.2; have g2 := gapW_bd (d + (k + 1 : Nat)); simp [intOf] at h4 g2 ⊢; rw [← Int.add_assoc] at h4 g2; omega
        · have S := awdRel.step hm0 HC.out HJ.out hm true hb
          have HS := Lib.hid S; clear S
          go_wp2_with (go_at_call 82; refine (l24Working_is _ (by omega) (by omega) _ hb _).mono ?_; rintro e w' ⟨rfl, rfl⟩)
          go_round
          case rel => exact ⟨k + 1, m - 1, rfl, by go_num, by omega, by simpa using HS.out.1, HS.out.2.1, by simpa using HS.out.2.2.1⟩
          case measure => have h4 := HS.out.2.2.2; have g2 := gapW_bd (d + (k + 1 : Nat)); simp [intOf] at h4 g2 ⊢; rw [← Int.add_assoc] at h4 g2; omega
      · have hk : Nth d n.toNat k := ⟨by have := HC.out; omega, fun j hj' => by have := HJ.out j hj'; omega⟩
        have HK := Lib.hid hk; clear hk
        cases he : inB (d + k) 0 3650
        all_goals
          go_wp2_with (go_at_call 80; refine (l24Day_is _ _ he _).mono ?_; rintro e w' ⟨rfl, rfl⟩)
          go_ret2
          exact ⟨_, rfl, .inr ⟨hd, hn, k, HK.out, by simp [he]⟩, rfl⟩
end Go.Proofs.Ytdimhbolckbjdaa
