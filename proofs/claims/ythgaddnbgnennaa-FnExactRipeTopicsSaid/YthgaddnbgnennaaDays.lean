/- Working days: what the two counts of days compute. -/
import Derived.Test.YthgaddnbgnennaaStr
namespace Go.Proofs.Ythgaddnbgnennaa
open Go.RowKit Go.G9
def wkB (d : Int) : Bool := decide (d % 7 < 5)
/-- Working days among the k days behind a. -/
def cntW (a : Int) : Nat → Nat
  | 0 => 0
  | k + 1 => cntW a k + if wkB (a + (k + 1 : Nat)) then 1 else 0
/-- How many rounds may pass before a working day. -/
def gapW (d : Int) : Int := if (d + 1) % 7 < 5 then 0 else 7 - (d + 1) % 7
theorem gapW_bd (d : Int) : 0 ≤ gapW d ∧ gapW d ≤ 2 := by unfold gapW; split <;> omega
theorem gapW_go {d : Int} (h : wkB (d + 1) = false) : gapW (d + 1) + 1 = gapW d := by
  unfold wkB at h; simp only [decide_eq_false_iff_not] at h
  unfold gapW; rw [if_neg h]; split <;> omega
/-- k is the number of days to the n-th working day behind a. -/
def Nth (a : Int) (n k : Nat) : Prop := cntW a k = n ∧ ∀ j, j < k → cntW a j < n
theorem Nth.uniq {a : Int} {n k k' : Nat} (h : Nth a n k) (h' : Nth a n k') : k = k' := by
  rcases Nat.lt_trichotomy k k' with hlt | rfl | hlt
  · have := h'.2 k hlt; rw [h.1] at this; omega
  · rfl
  · have := h.2 k' hlt; rw [h'.1] at this; omega
theorem cntW_le (a : Int) : ∀ k, cntW a k ≤ k
  | 0 => Nat.le_refl _
  | k + 1 => by have := cntW_le a k; unfold cntW; split <;> omega
def dayOr (d : Int) : Value := if inB d 0 3650 then .tuple #[.int .i64 d, .bool true] else .tuple #[.int .i64 0, .bool false]
/-- The answer of AfterWorkingDays. -/
def awdOut (d n : Int) (v : Value) : Prop :=
  ((inB d 0 3650 && inB n 0 500) = false ∧ v = .tuple #[.int .i64 0, .bool false]) ∨ (inB d 0 3650 = true ∧ inB n 0 500 = true ∧ ∃ k, Nth d n.toNat k ∧ v = if inB (d + k) 0 3650 then .tuple #[.int .i64 (d + k), .bool true] else .tuple #[.int .i64 0, .bool false])
theorem awdOut.uniq {d n : Int} {v v' : Value} (h : awdOut d n v) (h' : awdOut d n v') : v = v' := by
  rcases h with ⟨h1, h2⟩ | ⟨h1, h2, k, h3, h4⟩ <;> rcases h' with ⟨g1, g2⟩ | ⟨g1, g2, k', g3, g4⟩
  · rw [h2, g2]
  · simp [g1, g2] at h1
  · simp [h1, h2] at g1
  · obtain rfl := h3.uniq g3; rw [h4, g4]
/-- The loop's relation. -/
def awdRel (d0 n0 : Int) (n d : Value) : Prop := ∃ (k : Nat) (m : Int), n = .int .i64 m ∧ d = .int .i64 (d0 + k) ∧ 0 ≤ m ∧ (cntW d0 k : Int) + m = n0 ∧ (∀ j, j < k → (cntW d0 j : Int) < n0) ∧ (d0 + k) + (3 * m + gapW (d0 + k)) ≤ 5200
theorem awdRel.step {d0 n0 m : Int} {k : Nat} (h0 : 0 < m) (hc : (cntW d0 k : Int) + m = n0) (hj : ∀ j, j < k → (cntW d0 j : Int) < n0) (hm : (d0 + k) + (3 * m + gapW (d0 + k)) ≤ 5200) (b : Bool) (hb : wkB (d0 + k + 1) = b) :
    (cntW d0 (k + 1) : Int) + (m - if b then 1 else 0) = n0 ∧ (∀ j, j < k + 1 → (cntW d0 j : Int) < n0) ∧ (d0 + (k + 1 : Nat)) + (3 * (m - if b then 1 else 0) + gapW (d0 + (k + 1 : Nat))) ≤ 5200 ∧
      (3 * (m - if b then 1 else 0) + gapW (d0 + (k + 1 : Nat))) < 3 * m + gapW (d0 + k) := by
  have e : d0 + ((k + 1 : Nat) : Int) = d0 + k + 1 := by omega
  have hcnt : (cntW d0 (k + 1) : Int) = cntW d0 k + if b then 1 else 0 := by
    rw [cntW, e, hb]; cases b <;> simp
  have g1 := gapW_bd (d0 + k)
  have g2 := gapW_bd (d0 + k + 1)
  rw [e, hcnt]
  refine ⟨by cases b <;> simp <;> omega, fun j hj' => ?_, ?_, ?_⟩
  · by_cases hjk : j = k
    · subst hjk; omega
    · exact hj j (by omega)
  · cases b
    · have := gapW_go hb; simp; omega
    · simp; omega
  · cases b
    · have := gapW_go hb; simp; omega
    · simp; omega
end Go.Proofs.Ythgaddnbgnennaa
