/- Decided questions: adopted or not. -/
import Derived.Test.YthgaddnbgnennaaDoorDec2
namespace Go.Proofs.YthgaddnbgnennaaDoor
open Go.RowKit Go.G9
def adoB (need y n : Int) : Bool := if need = 1 then decide (n < y) else if need = 2 then decide (0 < y + n) && decide (2 * n ≤ y) else decide (0 < y) && decide (n = 0)
theorem isAdopted_is (need y n : Int) (h0 : -10000 ≤ y) (h1 : y ≤ 10000) (h2 : -10000 ≤ n) (h3 : n ≤ 10000) (v : Bool) (hv : adoB need y n = v) (w : World) : Calls Tryd.prog 44 #[.int .i64 need, .int .i64 y, .int .i64 n] w fun e w' => e = .returned (.bool v) ∧ w' = w := by
  subst hv
  by_cases c1 : need = 1
  · subst c1
    go_enter Tryd.func44, Tryd.ntmps44
    go_wp2
    go_ret
    exact ⟨ret_bool (by simp [adoB]), rfl⟩
  by_cases c2 : need = 2
  · subst c2
    by_cases c3 : 0 < y + n
    · go_enter Tryd.func44, Tryd.ntmps44
      go_wp2
      go_ret
      exact ⟨ret_bool (by rw [Bool.eq_iff_iff]; simp [adoB] <;> omega), rfl⟩
    · go_enter Tryd.func44, Tryd.ntmps44
      go_wp2
      go_ret
      exact ⟨ret_bool (by rw [Bool.eq_iff_iff]; simp [adoB] <;> omega), rfl⟩
  · have d1 : (need == 1) = false := beq_eq_false_iff_ne.2 c1
    have d2 : (need == 2) = false := beq_eq_false_iff_ne.2 c2
    by_cases c3 : 0 < y
    · go_enter Tryd.func44, Tryd.ntmps44
      go_wp2
      go_ret
      exact ⟨ret_bool (by rw [Bool.eq_iff_iff]; simp [adoB, c1, c2] <;> omega), rfl⟩
    · go_enter Tryd.func44, Tryd.ntmps44
      go_wp2
      go_ret
      exact ⟨ret_bool (by rw [Bool.eq_iff_iff]; simp [adoB, c1, c2] <;> omega), rfl⟩
theorem l11Enough_is (need y n : Int) (h0 : -10000 ≤ y) (h1 : y ≤ 10000) (h2 : -10000 ≤ n) (h3 : n ≤ 10000) (v : Bool) (hv : adoB need y n = v) (w : World) : Calls Tryd.prog 46 #[.int .i64 need, .int .i64 y, .int .i64 n] w fun e w' => e = .returned (.bool v) ∧ w' = w := by
  subst hv
  by_cases c1 : need = 1
  · subst c1
    go_enter Tryd.func46, Tryd.ntmps46
    go_wp2
    go_ret
    exact ⟨ret_bool (by simp [adoB]), rfl⟩
  by_cases c2 : need = 2
  · subst c2
    by_cases c3 : 0 < y + n
    · go_enter Tryd.func46, Tryd.ntmps46
      go_wp2
      go_ret
      exact ⟨ret_bool (by rw [Bool.eq_iff_iff]; simp [adoB] <;> omega), rfl⟩
    · go_enter Tryd.func46, Tryd.ntmps46
      go_wp2
      go_ret
      exact ⟨ret_bool (by rw [Bool.eq_iff_iff]; simp [adoB] <;> omega), rfl⟩
  · have d1 : (need == 1) = false := beq_eq_false_iff_ne.2 c1
    have d2 : (need == 2) = false := beq_eq_false_iff_ne.2 c2
    by_cases c3 : 0 < y
    · go_enter Tryd.func46, Tryd.ntmps46
      go_wp2
      go_ret
      exact ⟨ret_bool (by rw [Bool.eq_iff_iff]; simp [adoB, c1, c2] <;> omega), rfl⟩
    · go_enter Tryd.func46, Tryd.ntmps46
      go_wp2
      go_ret
      exact ⟨ret_bool (by rw [Bool.eq_iff_iff]; simp [adoB, c1, c2] <;> omega), rfl⟩
def Dec.ado (d : Dec) : Bool := adoB d.need d.yes.length d.no.length
def wasOut (d : Dec) : Value := if decB d then .tuple #[.bool d.ado, .bool true] else .tuple #[.bool false, .bool false]
theorem decB_len {d : Dec} (h : decB d = true) : d.yes.length ≤ 30 ∧ d.no.length ≤ 30 := by
  simp [decB, sidesB] at h; omega
theorem wasAdopted_is (d : Dec) (Y N : Option Addr) (yc nc : Nat) (hd : decB d = true) (v : Bool) (hv : d.ado = v) (w : World) :
  Calls Tryd.prog 39 #[.agg #[.int .i64 d.id, .int .i64 d.day, .int .i64 d.need, .slice Y d.yes.length yc, .slice N d.no.length nc, .bool d.done]] w fun e w' => e = .returned (.bool v) ∧ Below w.heap.size w w' := by
  have hl := decB_len hd
  go_enter Tryd.func39, Tryd.ntmps39
  go_wp2_with (go_at_call 44; refine (isAdopted_is _ _ _ (by omega) (by omega) (by omega) (by omega) _ hv _).mono ?_; rintro e w' ⟨rfl, rfl⟩)
  go_ret
  exact ⟨rfl, bl1 _ _⟩
theorem l18Adopted_is (d : Dec) (Y N : Option Addr) (yc nc : Nat) (hd : decB d = true) (v : Bool) (hv : d.ado = v) (w : World) :
  Calls Tryd.prog 36 #[.agg #[.int .i64 d.id, .int .i64 d.day, .int .i64 d.need, .slice Y d.yes.length yc, .slice N d.no.length nc, .bool d.done]] w fun e w' => e = .returned (.bool v) ∧ Below w.heap.size w w' := by
  have hl := decB_len hd
  go_enter Tryd.func36, Tryd.ntmps36
  go_wp2_with (go_at_call 46; refine (l11Enough_is _ _ _ (by omega) (by omega) (by omega) (by omega) _ hv _).mono ?_; rintro e w' ⟨rfl, rfl⟩)
  go_ret
  exact ⟨rfl, bl1 _ _⟩
theorem iWasAdopted_is (d : Dec) (Y N : Option Addr) (yc nc : Nat) (hy : d.yes.length ≤ 1048576) (hn : d.no.length ≤ 1048576) (v : Value) (hv : wasOut d = v) (w : World) (hRy : Rds 1 intC w Y d.yes) (hRn : Rds 1 intC w N d.no) :
  Calls Tryd.prog 19 #[.agg #[.int .i64 d.id, .int .i64 d.day, .int .i64 d.need, .slice Y d.yes.length yc, .slice N d.no.length nc, .bool d.done]] w fun e w' => e = .returned v ∧ Below w.heap.size w w' := by
  subst hv
  cases hd : decB d
  · go_enter Tryd.func19, Tryd.ntmps19
    go_wp2_with fail
    refine (isValidDecided_is d Y N yc nc hy hn _ hd _ (hRy.below (bl1 _ _)) (hRn.below (bl1 _ _))).mono ?_
    rintro e w1 ⟨rfl, hb1⟩
    go_wp2
    go_ret2
    exact ⟨by simp [wasOut, hd], bth (bl1 _ _) hb1⟩
  · go_enter Tryd.func19, Tryd.ntmps19
    go_wp2_with fail
    refine (isValidDecided_is d Y N yc nc hy hn _ hd _ (hRy.below (bl1 _ _)) (hRn.below (bl1 _ _))).mono ?_
    rintro e w1 ⟨rfl, hb1⟩
    have hA := Blk.below (Blk.new w 35 #[.int .i64 d.id, .int .i64 d.day, .int .i64 d.need, .slice Y d.yes.length yc, .slice N d.no.length nc, .bool d.done]) hb1 (by simp)
    have a0 := hA.cell 0
    have a1 := hA.cell 1
    have a2 := hA.cell 2
    have a3 := hA.cell 3
    have a4 := hA.cell 4
    have a5 := hA.cell 5
    simp at a0 a1 a2 a3 a4 a5
    go_wp2_with fail
    refine (wasAdopted_is d Y N yc nc hd _ rfl _).mono ?_
    rintro e w2 ⟨rfl, hb2⟩
    go_wp2
    go_ret2
    exact ⟨by simp [wasOut, hd], bth (bl1 _ _) (bth hb1 hb2)⟩
theorem sWasAdopted_is (d : Dec) (Y N : Option Addr) (yc nc : Nat) (hy : d.yes.length ≤ 1048576) (hn : d.no.length ≤ 1048576) (v : Value) (hv : wasOut d = v) (w : World) (hRy : Rds 1 intC w Y d.yes) (hRn : Rds 1 intC w N d.no) :
  Calls Tryd.prog 21 #[.agg #[.int .i64 d.id, .int .i64 d.day, .int .i64 d.need, .slice Y d.yes.length yc, .slice N d.no.length nc, .bool d.done]] w fun e w' => e = .returned v ∧ Below w.heap.size w w' := by
  subst hv
  cases hd : decB d
  · go_enter Tryd.func21, Tryd.ntmps21
    go_wp2_with fail
    refine (l18Good_is d Y N yc nc hy hn _ hd _ (hRy.below (bl1 _ _)) (hRn.below (bl1 _ _))).mono ?_
    rintro e w1 ⟨rfl, hb1⟩
    go_wp2
    go_ret2
    exact ⟨by simp [wasOut, hd], bth (bl1 _ _) hb1⟩
  · go_enter Tryd.func21, Tryd.ntmps21
    go_wp2_with fail
    refine (l18Good_is d Y N yc nc hy hn _ hd _ (hRy.below (bl1 _ _)) (hRn.below (bl1 _ _))).mono ?_
    rintro e w1 ⟨rfl, hb1⟩
    have hA := Blk.below (Blk.new w 35 #[.int .i64 d.id, .int .i64 d.day, .int .i64 d.need, .slice Y d.yes.length yc, .slice N d.no.length nc, .bool d.done]) hb1 (by simp)
    have a0 := hA.cell 0
    have a1 := hA.cell 1
    have a2 := hA.cell 2
    have a3 := hA.cell 3
    have a4 := hA.cell 4
    have a5 := hA.cell 5
    simp at a0 a1 a2 a3 a4 a5
    go_wp2_with fail
    refine (l18Adopted_is d Y N yc nc hd _ rfl _).mono ?_
    rintro e w2 ⟨rfl, hb2⟩
    go_wp2
    go_ret2
    exact ⟨by simp [wasOut, hd], bth (bl1 _ _) (bth hb1 hb2)⟩
theorem wasOut_form (d : Dec) : ∃ a b : Bool, wasOut d = .tuple #[.bool a, .bool b] := by
  unfold wasOut; split
  · exact ⟨_, _, rfl⟩
  · exact ⟨_, _, rfl⟩
end Go.Proofs.YthgaddnbgnennaaDoor
