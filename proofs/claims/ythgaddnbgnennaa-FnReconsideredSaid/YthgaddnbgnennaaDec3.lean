/- Decided questions: adopted or not. -/
import Derived.Test.YthgaddnbgnennaaDec2
namespace Go.Proofs.Ythgaddnbgnennaa
open Go.RowKit Go.G9
def adoB (need y n : Int) : Bool := if need = 1 then decide (n < y) else if need = 2 then decide (0 < y + n) && decide (2 * n ≤ y) else decide (0 < y) && decide (n = 0)
theorem isAdopted_is (need y n : Int) (h0 : -10000 ≤ y) (h1 : y ≤ 10000) (h2 : -10000 ≤ n) (h3 : n ≤ 10000) (v : Bool) (hv : adoB need y n = v) (w : World) : Calls Try.prog 76 #[.int .i64 need, .int .i64 y, .int .i64 n] w fun e w' => e = .returned (.bool v) ∧ w' = w := by
  subst hv
  by_cases c1 : need = 1
  · subst c1
    go_enter Try.func76, Try.ntmps76
    go_wp2
    go_ret
    exact ⟨ret_bool (by simp [adoB]), rfl⟩
  by_cases c2 : need = 2
  · subst c2
    by_cases c3 : 0 < y + n
    · go_enter Try.func76, Try.ntmps76
      go_wp2
      go_ret
      exact ⟨ret_bool (by rw [Bool.eq_iff_iff]; simp [adoB] <;> omega), rfl⟩
    · go_enter Try.func76, Try.ntmps76
      go_wp2
      go_ret
      exact ⟨ret_bool (by rw [Bool.eq_iff_iff]; simp [adoB] <;> omega), rfl⟩
  · have d1 : (need == 1) = false := beq_eq_false_iff_ne.2 c1
    have d2 : (need == 2) = false := beq_eq_false_iff_ne.2 c2
    by_cases c3 : 0 < y
    · go_enter Try.func76, Try.ntmps76
      go_wp2
      go_ret
      exact ⟨ret_bool (by rw [Bool.eq_iff_iff]; simp [adoB, c1, c2] <;> omega), rfl⟩
    · go_enter Try.func76, Try.ntmps76
      go_wp2
      go_ret
      exact ⟨ret_bool (by rw [Bool.eq_iff_iff]; simp [adoB, c1, c2] <;> omega), rfl⟩
theorem l11Enough_is (need y n : Int) (h0 : -10000 ≤ y) (h1 : y ≤ 10000) (h2 : -10000 ≤ n) (h3 : n ≤ 10000) (v : Bool) (hv : adoB need y n = v) (w : World) : Calls Try.prog 74 #[.int .i64 need, .int .i64 y, .int .i64 n] w fun e w' => e = .returned (.bool v) ∧ w' = w := by
  subst hv
  by_cases c1 : need = 1
  · subst c1
    go_enter Try.func74, Try.ntmps74
    go_wp2
    go_ret
    exact ⟨ret_bool (by simp [adoB]), rfl⟩
  by_cases c2 : need = 2
  · subst c2
    by_cases c3 : 0 < y + n
    · go_enter Try.func74, Try.ntmps74
      go_wp2
      go_ret
      exact ⟨ret_bool (by rw [Bool.eq_iff_iff]; simp [adoB] <;> omega), rfl⟩
    · go_enter Try.func74, Try.ntmps74
      go_wp2
      go_ret
      exact ⟨ret_bool (by rw [Bool.eq_iff_iff]; simp [adoB] <;> omega), rfl⟩
  · have d1 : (need == 1) = false := beq_eq_false_iff_ne.2 c1
    have d2 : (need == 2) = false := beq_eq_false_iff_ne.2 c2
    by_cases c3 : 0 < y
    · go_enter Try.func74, Try.ntmps74
      go_wp2
      go_ret
      exact ⟨ret_bool (by rw [Bool.eq_iff_iff]; simp [adoB, c1, c2] <;> omega), rfl⟩
    · go_enter Try.func74, Try.ntmps74
      go_wp2
      go_ret
      exact ⟨ret_bool (by rw [Bool.eq_iff_iff]; simp [adoB, c1, c2] <;> omega), rfl⟩
def Dec.ado (d : Dec) : Bool := adoB d.need d.yes.length d.no.length
def wasOut (d : Dec) : Value := if decB d then .tuple #[.bool d.ado, .bool true] else .tuple #[.bool false, .bool false]
theorem decB_len {d : Dec} (h : decB d = true) : d.yes.length ≤ 30 ∧ d.no.length ≤ 30 := by
  simp [decB, sidesB] at h; omega
theorem wasAdopted_is (d : Dec) (Y N : Option Addr) (yc nc : Nat) (hd : decB d = true) (v : Bool) (hv : d.ado = v) (w : World) :
  Calls Try.prog 75 #[.agg #[.int .i64 d.id, .int .i64 d.day, .int .i64 d.need, .slice Y d.yes.length yc, .slice N d.no.length nc, .bool d.done]] w fun e w' => e = .returned (.bool v) ∧ Below w.heap.size w w' := by
  have hl := decB_len hd
  go_enter Try.func75, Try.ntmps75
  go_wp2_with (go_at_call 76; refine (isAdopted_is _ _ _ (by omega) (by omega) (by omega) (by omega) _ hv _).mono ?_; rintro e w' ⟨rfl, rfl⟩)
  go_ret
  exact ⟨rfl, bl1 _ _⟩
theorem l18Adopted_is (d : Dec) (Y N : Option Addr) (yc nc : Nat) (hd : decB d = true) (v : Bool) (hv : d.ado = v) (w : World) :
  Calls Try.prog 73 #[.agg #[.int .i64 d.id, .int .i64 d.day, .int .i64 d.need, .slice Y d.yes.length yc, .slice N d.no.length nc, .bool d.done]] w fun e w' => e = .returned (.bool v) ∧ Below w.heap.size w w' := by
  have hl := decB_len hd
  go_enter Try.func73, Try.ntmps73
  go_wp2_with (go_at_call 74; refine (l11Enough_is _ _ _ (by omega) (by omega) (by omega) (by omega) _ hv _).mono ?_; rintro e w' ⟨rfl, rfl⟩)
  go_ret
  exact ⟨rfl, bl1 _ _⟩
theorem wasOut_form (d : Dec) : ∃ a b : Bool, wasOut d = .tuple #[.bool a, .bool b] := by
  unfold wasOut; split
  · exact ⟨_, _, rfl⟩
  · exact ⟨_, _, rfl⟩
end Go.Proofs.Ythgaddnbgnennaa
