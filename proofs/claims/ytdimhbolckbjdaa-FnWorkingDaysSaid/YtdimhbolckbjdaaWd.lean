/- Working days: the other functions, the draws. -/
import Derived.Test.YtdimhbolckbjdaaDays
import Derived.Test.YtdimhbolckbjdaaCur
import Derived.Test.YtdimhbolckbjdaaApp
import Derived.Deep.Cut
import Derived.Outline
namespace Go.Proofs.Ytdimhbolckbjdaa
open Go.RowKit Go.G9
def wdbOk (a b : Int) : Bool := inB a 0 3650 && (inB b 0 3650 && decide (a ≤ b))
def wdbV (a b : Int) : Value := if wdbOk a b then .tuple #[.int .i64 (cntW a (b - a).toNat : Nat), .bool true] else .tuple #[.int .i64 0, .bool false]
theorem wdbV_no {a b : Int} (h : wdbOk a b = false) : wdbV a b = .tuple #[.int .i64 0, .bool false] := by unfold wdbV; rw [h]; rfl
theorem wdbV_yes {a b : Int} (h : wdbOk a b = true) : wdbV a b = .tuple #[.int .i64 (cntW a (b - a).toNat : Nat), .bool true] := by unfold wdbV; rw [h]; rfl
theorem wdbV_at {a b : Int} {k : Nat} (h : wdbOk a b = true) (he : (b - a).toNat = k) : wdbV a b = .tuple #[.int .i64 (cntW a k : Nat), .bool true] := by subst he; exact wdbV_yes h
def wdbRel (a b : Int) (n d : Value) : Prop := ∃ k : Nat, n = .int .i64 (cntW a k : Nat) ∧ d = .int .i64 (a + 1 + k) ∧ (k : Int) ≤ b - a
theorem iWdb_is (a b : Int) (w : World) : Calls Try.prog 29 #[.int .i64 a, .int .i64 b] w fun e w' => e = .returned (wdbV a b) ∧ w' = w := by
  cases ha : inB a 0 3650
  · go_enter Try.func29, Try.ntmps29
    go_wp2_with (go_at_call 83; refine (isDay_is a _ ha _).mono ?_; rintro e w' ⟨rfl, rfl⟩)
    go_ret2
    exact ⟨(congrArg Ending.returned (wdbV_no (by unfold wdbOk; rw [ha]; rfl))).symm, rfl⟩
  cases hb : inB b 0 3650
  · go_enter Try.func29, Try.ntmps29
    go_wp2_with fail
    refine (isDay_is a _ ha _).mono ?_
    rintro e _ ⟨rfl, rfl⟩
    go_wp2_with fail
    refine (isDay_is b _ hb _).mono ?_
    rintro e _ ⟨rfl, rfl⟩
    go_wp2
    go_ret2
    exact ⟨(congrArg Ending.returned (wdbV_no (by unfold wdbOk; rw [hb, Bool.false_and, Bool.and_false]))).symm, rfl⟩
  by_cases hab : b < a
  · go_enter Try.func29, Try.ntmps29
    go_wp2_with fail
    refine (isDay_is a _ ha _).mono ?_
    rintro e _ ⟨rfl, rfl⟩
    go_wp2_with fail
    refine (isDay_is b _ hb _).mono ?_
    rintro e _ ⟨rfl, rfl⟩
    go_wp2
    go_ret2
    exact ⟨(congrArg Ending.returned (wdbV_no (by unfold wdbOk; rw [decide_eq_false (by omega : ¬ a ≤ b), Bool.and_false, Bool.and_false]))).symm, rfl⟩
  · have ha' := inB_iff.1 ha
    have hb' := inB_iff.1 hb
    go_enter Try.func29, Try.ntmps29
    go_wp2_with fail
    refine (isDay_is a _ ha _).mono ?_
    rintro e _ ⟨rfl, rfl⟩
    go_wp2_with fail
    refine (isDay_is b _ hb _).mono ?_
    rintro e _ ⟨rfl, rfl⟩
    go_wp2
    go_loop [6, 7] (fun nv dv => wdbRel a b nv dv) (fun nv dv => (b + 1 - intOf dv).toNat)
    case atStart => exact ⟨0, rfl, by simp, by omega⟩
    case round =>
      obtain ⟨k, rfl, rfl, hk⟩ := hrel
      have hc := cntW_le a k
      have hk2 : (k : Int) ≤ 3650 := by omega
      by_cases hlt : a + 1 + k ≤ b
      · cases hw : wkB (a + 1 + k)
        · go_wp2_with (go_at_call 85; refine (isWorkingDay_is _ (by omega) (by omega) _ hw _).mono ?_; rintro e w' ⟨rfl, rfl⟩)
          go_round
          case rel => exact ⟨k + 1, by rw [cntW, show a + ((k + 1 : Nat) : Int) = a + 1 + k from by omega, hw]; rfl, by go_num, by omega⟩
          case measure => simp [intOf]; omega
        · go_wp2_with (go_at_call 85; refine (isWorkingDay_is _ (by omega) (by omega) _ hw _).mono ?_; rintro e w' ⟨rfl, rfl⟩)
          go_round
          case rel => exact ⟨k + 1, by rw [cntW, show a + ((k + 1 : Nat) : Int) = a + 1 + k from by omega, hw]; rfl, by go_num, by omega⟩
          case measure => simp [intOf]; omega
      · have he : (b - a).toNat = k := by omega
        go_wp2
        go_ret2
        exact ⟨(congrArg Ending.returned (wdbV_at (by unfold wdbOk; rw [ha, hb, decide_eq_true (by omega : a ≤ b)]; rfl) he)).symm, rfl⟩
theorem sWdb_is (a b : Int) (w : World) : Calls Try.prog 32 #[.int .i64 a, .int .i64 b] w fun e w' => e = .returned (wdbV a b) ∧ w' = w := by
  cases ha : inB a 0 3650
  · go_enter Try.func32, Try.ntmps32
    go_wp2_with (go_at_call 80; refine (l24Day_is a _ ha _).mono ?_; rintro e w' ⟨rfl, rfl⟩)
    go_ret2
    exact ⟨(congrArg Ending.returned (wdbV_no (by unfold wdbOk; rw [ha]; rfl))).symm, rfl⟩
  cases hb : inB b 0 3650
  · go_enter Try.func32, Try.ntmps32
    go_wp2_with fail
    refine (l24Day_is a _ ha _).mono ?_
    rintro e _ ⟨rfl, rfl⟩
    go_wp2_with fail
    refine (l24Day_is b _ hb _).mono ?_
    rintro e _ ⟨rfl, rfl⟩
    go_wp2
    go_ret2
    exact ⟨(congrArg Ending.returned (wdbV_no (by unfold wdbOk; rw [hb, Bool.false_and, Bool.and_false]))).symm, rfl⟩
  by_cases hab : b < a
  · go_enter Try.func32, Try.ntmps32
    go_wp2_with fail
    refine (l24Day_is a _ ha _).mono ?_
    rintro e _ ⟨rfl, rfl⟩
    go_wp2_with fail
    refine (l24Day_is b _ hb _).mono ?_
    rintro e _ ⟨rfl, rfl⟩
    go_wp2
    go_ret2
    exact ⟨(congrArg Ending.returned (wdbV_no (by unfold wdbOk; rw [decide_eq_false (by omega : ¬ a ≤ b), Bool.and_false, Bool.and_false]))).symm, rfl⟩
  · have ha' := inB_iff.1 ha
    have hb' := inB_iff.1 hb
    go_enter Try.func32, Try.ntmps32
    go_wp2_with fail
    refine (l24Day_is a _ ha _).mono ?_
    rintro e _ ⟨rfl, rfl⟩
    go_wp2_with fail
    refine (l24Day_is b _ hb _).mono ?_
    rintro e _ ⟨rfl, rfl⟩
    go_wp2
    go_loop [6, 7] (fun nv dv => wdbRel a b nv dv) (fun nv dv => (b + 1 - intOf dv).toNat)
    case atStart => exact ⟨0, rfl, by simp, by omega⟩
    case round =>
      obtain ⟨k, rfl, rfl, hk⟩ := hrel
      have hc := cntW_le a k
      have hk2 : (k : Int) ≤ 3650 := by omega
      by_cases hlt : a + 1 + k ≤ b
      · cases hw : wkB (a + 1 + k)
        · go_wp2_with (go_at_call 82; refine (l24Working_is _ (by omega) (by omega) _ hw _).mono ?_; rintro e w' ⟨rfl, rfl⟩)
          go_round
          case rel => exact ⟨k + 1, by rw [cntW, show a + ((k + 1 : Nat) : Int) = a + 1 + k from by omega, hw]; rfl, by go_num, by omega⟩
          case measure => simp [intOf]; omega
        · go_wp2_with (go_at_call 82; refine (l24Working_is _ (by omega) (by omega) _ hw _).mono ?_; rintro e w' ⟨rfl, rfl⟩)
          go_round
          case rel => exact ⟨k + 1, by rw [cntW, show a + ((k + 1 : Nat) : Int) = a + 1 + k from by omega, hw]; rfl, by go_num, by omega⟩
          case measure => simp [intOf]; omega
      · have he : (b - a).toNat = k := by omega
        go_wp2
        go_ret2
        exact ⟨(congrArg Ending.returned (wdbV_at (by unfold wdbOk; rw [ha, hb, decide_eq_true (by omega : a ≤ b)]; rfl) he)).symm, rfl⟩
def lgOk (m d : Int) : Bool := inB m 0 3650 && (inB d 0 60 && decide (d ≤ m))
def lgV (m d : Int) : Value := if lgOk m d then .tuple #[.int .i64 (m - d), .bool true] else .tuple #[.int .i64 0, .bool false]
theorem lgV_no {m d : Int} (h : lgOk m d = false) : lgV m d = .tuple #[.int .i64 0, .bool false] := by unfold lgV; rw [h]; rfl
theorem lgV_yes {m d : Int} (h : lgOk m d = true) : lgV m d = .tuple #[.int .i64 (m - d), .bool true] := by unfold lgV; rw [h]; rfl
theorem iLg_is (m d : Int) (w : World) : Calls Try.prog 34 #[.int .i64 m, .int .i64 d] w fun e w' => e = .returned (lgV m d) ∧ w' = w := by
  cases hm : inB m 0 3650
  · go_enter Try.func34, Try.ntmps34
    go_wp2_with (go_at_call 83; refine (isDay_is m _ hm _).mono ?_; rintro e w' ⟨rfl, rfl⟩)
    go_ret2
    exact ⟨(congrArg Ending.returned (lgV_no (by unfold lgOk; rw [hm]; rfl))).symm, rfl⟩
  cases hd : inB d 0 60
  · go_enter Try.func34, Try.ntmps34
    go_wp2_with fail
    refine (isDay_is m _ hm _).mono ?_
    rintro e _ ⟨rfl, rfl⟩
    go_wp2_with fail
    refine (inside_is d _ _ _ hd _).mono ?_
    rintro e _ ⟨rfl, rfl⟩
    go_wp2
    go_ret2
    exact ⟨(congrArg Ending.returned (lgV_no (by unfold lgOk; rw [hd, Bool.false_and, Bool.and_false]))).symm, rfl⟩
  have hm' := inB_iff.1 hm
  have hd' := inB_iff.1 hd
  by_cases hmd : d ≤ m
  · have h := asDay_yes (m - d) (inB_iff.2 ⟨by omega, by omega⟩)
    have H := Lib.hid h; clear h
    go_enter Try.func34, Try.ntmps34
    go_wp2_with fail
    refine (isDay_is m _ hm _).mono ?_
    rintro e _ ⟨rfl, rfl⟩
    go_wp2_with fail
    refine (inside_is d _ _ _ hd _).mono ?_
    rintro e _ ⟨rfl, rfl⟩
    go_wp2_with fail
    refine (H.out _).mono ?_
    rintro e w' ⟨rfl, rfl⟩
    go_wp2
    go_ret2
    exact ⟨(congrArg Ending.returned (lgV_yes (by unfold lgOk; rw [hm, hd, decide_eq_true hmd]; rfl))).symm, rfl⟩
  · have h := asDay_no (m - d) (by cases hh : inB (m - d) 0 3650; rfl; have := inB_iff.1 hh; omega)
    have H := Lib.hid h; clear h
    go_enter Try.func34, Try.ntmps34
    go_wp2_with fail
    refine (isDay_is m _ hm _).mono ?_
    rintro e _ ⟨rfl, rfl⟩
    go_wp2_with fail
    refine (inside_is d _ _ _ hd _).mono ?_
    rintro e _ ⟨rfl, rfl⟩
    go_wp2_with fail
    refine (H.out _).mono ?_
    rintro e w' ⟨rfl, rfl⟩
    go_wp2
    go_ret2
    exact ⟨(congrArg Ending.returned (lgV_no (by unfold lgOk; rw [decide_eq_false (by omega : ¬ d ≤ m), Bool.and_false, Bool.and_false]))).symm, rfl⟩
theorem sLg_is (m d : Int) (w : World) : Calls Try.prog 35 #[.int .i64 m, .int .i64 d] w fun e w' => e = .returned (lgV m d) ∧ w' = w := by
  cases hm : inB m 0 3650
  · go_enter Try.func35, Try.ntmps35
    go_wp2_with (go_at_call 80; refine (l24Day_is m _ hm _).mono ?_; rintro e w' ⟨rfl, rfl⟩)
    go_ret2
    exact ⟨(congrArg Ending.returned (lgV_no (by unfold lgOk; rw [hm]; rfl))).symm, rfl⟩
  cases hd : inB d 0 60
  · go_enter Try.func35, Try.ntmps35
    go_wp2_with fail
    refine (l24Day_is m _ hm _).mono ?_
    rintro e _ ⟨rfl, rfl⟩
    go_wp2_with fail
    refine (l1In_is d _ _ _ hd _).mono ?_
    rintro e _ ⟨rfl, rfl⟩
    go_wp2
    go_ret2
    exact ⟨(congrArg Ending.returned (lgV_no (by unfold lgOk; rw [hd, Bool.false_and, Bool.and_false]))).symm, rfl⟩
  have hm' := inB_iff.1 hm
  have hd' := inB_iff.1 hd
  by_cases hmd : d ≤ m
  · go_enter Try.func35, Try.ntmps35
    go_wp2_with fail
    refine (l24Day_is m _ hm _).mono ?_
    rintro e _ ⟨rfl, rfl⟩
    go_wp2_with fail
    refine (l1In_is d _ _ _ hd _).mono ?_
    rintro e _ ⟨rfl, rfl⟩
    go_wp2
    go_ret2
    exact ⟨(congrArg Ending.returned (lgV_yes (by unfold lgOk; rw [hm, hd, decide_eq_true hmd]; rfl))).symm, rfl⟩
  · go_enter Try.func35, Try.ntmps35
    go_wp2_with fail
    refine (l24Day_is m _ hm _).mono ?_
    rintro e _ ⟨rfl, rfl⟩
    go_wp2_with fail
    refine (l1In_is d _ _ _ hd _).mono ?_
    rintro e _ ⟨rfl, rfl⟩
    go_wp2
    go_ret2
    exact ⟨(congrArg Ending.returned (lgV_no (by unfold lgOk; rw [decide_eq_false (by omega : ¬ d ≤ m), Bool.and_false, Bool.and_false]))).symm, rfl⟩
def iwV (d : Int) : Value := if inB d 0 3650 then .tuple #[.bool (wkB d), .bool true] else .tuple #[.bool false, .bool false]
theorem iwV_no {d : Int} (h : inB d 0 3650 = false) : iwV d = .tuple #[.bool false, .bool false] := by unfold iwV; rw [h]; rfl
theorem iwV_yes {d : Int} (h : inB d 0 3650 = true) : iwV d = .tuple #[.bool (wkB d), .bool true] := by unfold iwV; rw [h]; rfl
theorem iIw_is (d : Int) (w : World) : Calls Try.prog 30 #[.int .i64 d] w fun e w' => e = .returned (iwV d) ∧ w' = w := by
  cases hd : inB d 0 3650
  · go_enter Try.func30, Try.ntmps30
    go_wp2_with (go_at_call 83; refine (isDay_is d _ hd _).mono ?_; rintro e w' ⟨rfl, rfl⟩)
    go_ret2
    exact ⟨(congrArg Ending.returned (iwV_no hd)).symm, rfl⟩
  · have hd' := inB_iff.1 hd
    go_enter Try.func30, Try.ntmps30
    go_wp2_with (first | (go_at_call 83; refine (isDay_is d _ hd _).mono ?_; rintro e w' ⟨rfl, rfl⟩) | (go_at_call 85; refine (isWorkingDay_is d (by omega) (by omega) _ rfl _).mono ?_; rintro e w' ⟨rfl, rfl⟩))
    go_ret2
    exact ⟨(congrArg Ending.returned (iwV_yes hd)).symm, rfl⟩
theorem sIw_is (d : Int) (w : World) : Calls Try.prog 37 #[.int .i64 d] w fun e w' => e = .returned (iwV d) ∧ w' = w := by
  cases hd : inB d 0 3650
  · go_enter Try.func37, Try.ntmps37
    go_wp2_with (go_at_call 80; refine (l24Day_is d _ hd _).mono ?_; rintro e w' ⟨rfl, rfl⟩)
    go_ret2
    exact ⟨(congrArg Ending.returned (iwV_no hd)).symm, rfl⟩
  · have hd' := inB_iff.1 hd
    go_enter Try.func37, Try.ntmps37
    go_wp2_with (first | (go_at_call 80; refine (l24Day_is d _ hd _).mono ?_; rintro e w' ⟨rfl, rfl⟩) | (go_at_call 82; refine (l24Working_is d (by omega) (by omega) _ rfl _).mono ?_; rintro e w' ⟨rfl, rfl⟩))
    go_ret2
    exact ⟨(congrArg Ending.returned (iwV_yes hd)).symm, rfl⟩
/-- An answer as a pair. -/
theorem wdbV_form (a b : Int) : ∃ (n : Int) (v : Bool), wdbV a b = .tuple #[.int .i64 n, .bool v] ∧ v = wdbOk a b ∧ (v = true → n = (cntW a (b - a).toNat : Nat)) := by
  cases h : wdbOk a b
  · exact ⟨0, false, wdbV_no h, rfl, fun h => by cases h⟩
  · exact ⟨_, true, wdbV_yes h, rfl, fun _ => rfl⟩
theorem lgV_form (m d : Int) : ∃ (n : Int) (v : Bool), lgV m d = .tuple #[.int .i64 n, .bool v] ∧ (v = true → n + d = m) ∧ (-4000 ≤ n ∧ n ≤ 4000) := by
  cases h : lgOk m d
  · exact ⟨0, false, lgV_no h, (fun h => by cases h), by omega, by omega⟩
  · have h2 := h
    unfold lgOk at h2
    simp only [Bool.and_eq_true, decide_eq_true_eq] at h2
    have h3 := inB_iff.1 h2.1
    have h4 := inB_iff.1 h2.2.1
    exact ⟨_, true, lgV_yes h, fun _ => by omega, by omega, by omega⟩
theorem iwV_form (d : Int) : ∃ a b : Bool, iwV d = .tuple #[.bool a, .bool b] := by
  cases h : inB d 0 3650
  · exact ⟨_, _, iwV_no h⟩
  · exact ⟨_, _, iwV_yes h⟩
/-- Seven days hold five working days. -/
theorem cntW_week (a : Int) (k : Nat) : cntW a (k + 7) = cntW a k + 5 := by
  have h : ∀ j : Nat, wkB (a + ((k + j : Nat) : Int)) = decide (((a + k) % 7 + j) % 7 < 5) := fun j => by
    unfold wkB
    rw [show (a + ((k + j : Nat) : Int)) % 7 = ((a + k) % 7 + j) % 7 from by omega]
  have e := h 1; have e2 := h 2; have e3 := h 3; have e4 := h 4; have e5 := h 5; have e6 := h 6; have e7 := h 7
  have hr : (a + k) % 7 = 0 ∨ (a + k) % 7 = 1 ∨ (a + k) % 7 = 2 ∨ (a + k) % 7 = 3 ∨ (a + k) % 7 = 4 ∨ (a + k) % 7 = 5 ∨ (a + k) % 7 = 6 := by omega
  show cntW a (k + 6 + 1) = _
  rw [cntW, cntW, cntW, cntW, cntW, cntW, cntW]
  show cntW a k + (if wkB (a + ((k + 1 : Nat) : Int)) then 1 else 0) + (if wkB (a + ((k + 2 : Nat) : Int)) then 1 else 0) + (if wkB (a + ((k + 3 : Nat) : Int)) then 1 else 0) + (if wkB (a + ((k + 4 : Nat) : Int)) then 1 else 0) + (if wkB (a + ((k + 5 : Nat) : Int)) then 1 else 0) + (if wkB (a + ((k + 6 : Nat) : Int)) then 1 else 0) + (if wkB (a + ((k + 7 : Nat) : Int)) then 1 else 0) = _
  rw [e, e2, e3, e4, e5, e6, e7]
  rcases hr with hr | hr | hr | hr | hr | hr | hr <;> rw [hr] <;> rfl
/-- The n-th working day behind a day. -/
theorem awd_form {d n : Int} {v : Value} (h : awdOut d n v) : ∃ (t : Int) (b : Bool), v = .tuple #[.int .i64 t, .bool b] ∧ (-4000 ≤ t ∧ t ≤ 4000) ∧ (b = true → wdbV d t = .tuple #[.int .i64 n, .bool true] ∧ iwV t = .tuple #[.bool (wkB t), .bool true] ∧ (0 < n → wkB t = true)) := by
  rcases h with ⟨h1, rfl⟩ | ⟨h1, h2, k, h3, rfl⟩
  · exact ⟨0, false, rfl, by omega, fun h => by cases h⟩
  · cases h4 : inB (d + k) 0 3650
    · exact ⟨0, false, rfl, by omega, fun h => by cases h⟩
    · have h5 := inB_iff.1 h4
      have h6 := inB_iff.1 h2
      have h7 := inB_iff.1 h1
      refine ⟨d + k, true, rfl, by omega, fun _ => ⟨?_, iwV_yes h4, fun hn => ?_⟩⟩
      · rw [wdbV_at (k := k) (by unfold wdbOk; rw [h1, h4, decide_eq_true (by omega : d ≤ d + k)]; rfl) (by omega), h3.1, Int.toNat_of_nonneg h6.1]
      · obtain ⟨h8, h9⟩ := h3
        cases k with
        | zero => rw [cntW] at h8; omega
        | succ j =>
          have := h9 j (by omega)
          rw [cntW] at h8
          cases hw : wkB (d + ((j + 1 : Nat) : Int))
          · rw [hw] at h8
            simp at h8
            omega
          · rfl
end Go.Proofs.Ytdimhbolckbjdaa
