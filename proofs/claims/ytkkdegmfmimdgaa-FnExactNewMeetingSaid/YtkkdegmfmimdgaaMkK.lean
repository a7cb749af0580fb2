/- Marks held in a meeting. -/
import Derived.Test.YtkkdegmfmimdgaaMkE
import Derived.Test.YtkkdegmfmimdgaaMkH
namespace Go.Proofs.Ytkkdegmfmimdgaa
open Go.RowKit Go.G9
set_option maxHeartbeats 4000000 in
set_option maxRecDepth 100000 in
theorem hdMeeting_is (x : Mee) (A0 A1 A2 A3 A4 : Option Addr) (c0 c1 c2 c3 c4 : Nat) (hn0 : x.rules.length ≤ 1048576) (hn1 : x.pend.length ≤ 1048576) (hn2 : x.wait.length ≤ 1048576) (hn3 : x.shares.length ≤ 1048576) (hn4 : x.outs.length ≤ 1048576) (m : Int) (h0 : 0 < m) (h1 : m ≤ 9000000) (w : World)
    (R0 : Rds 7 patRule w A0 (mks (m) 7 x.rules.length)) (R1 : Rds 3 patQuestion w A1 (mks (m + 7 * (x.rules.length : Int)) 3 x.pend.length)) (R2 : Rds 1 patInt w A2 (mks (m + 7 * (x.rules.length : Int) + 3 * (x.pend.length : Int)) 1 x.wait.length)) (R3 : Rds 3 patShare w A3 (mks (m + 7 * (x.rules.length : Int) + 3 * (x.pend.length : Int) + (x.wait.length : Int)) 3 x.shares.length)) (R4 : Rds 3 patOutcome w A4 (mks (m + 7 * (x.rules.length : Int) + 3 * (x.pend.length : Int) + (x.wait.length : Int) + 3 * (x.shares.length : Int)) 3 x.outs.length)) :
  Calls Try.prog 28 #[.agg #[.slice A0 x.rules.length c0, .slice A1 x.pend.length c1, .int .i64 x.turns, .int .i64 x.secs, .int .i64 x.spk, .slice A2 x.wait.length c2, .slice A3 x.shares.length c3, .slice A4 x.outs.length c4], .int .i64 m] w fun e w' => e = .returned (.int .i64 (m + 7 * (x.rules.length : Int) + 3 * (x.pend.length : Int) + (x.wait.length : Int) + 3 * (x.shares.length : Int) + 3 * (x.outs.length : Int))) ∧ Below w.heap.size w w' := by
  go_enter Try.func28, Try.ntmps28
  go_wp2_with fail
  refine (hdRuleS_is A0 c0 _ hn0 (m) (by omega) (by omega) _ (R0.below (by repeat (first | exact Below.refl _ _ | refine Below.alloc ?_ (by first | exact Nat.le_refl _ | (simp <;> omega)) _ | refine Below.setCell ?_ (by first | exact Nat.le_refl _ | (simp <;> omega)) _)))).mono ?_
  rintro e w1 ⟨rfl, hb1⟩
  have hq1 : Below w.heap.size w w1 := bth (by repeat (first | exact Below.refl _ _ | refine Below.alloc ?_ (by first | exact Nat.le_refl _ | (simp <;> omega)) _ | refine Below.setCell ?_ (by first | exact Nat.le_refl _ | (simp <;> omega)) _)) hb1
  have z1 := hq1.size
  have HB : Below w.heap.size w w1 := hq1
  have X1 : Blk w1 (w.heap.size) 40 #[.slice A0 x.rules.length c0, .slice A1 x.pend.length c1, .int .i64 x.turns, .int .i64 x.secs, .int .i64 x.spk, .slice A2 x.wait.length c2, .slice A3 x.shares.length c3, .slice A4 x.outs.length c4] := Blk.below (by repeat (first | exact Blk.new _ _ _ | exact Blk.new2 _ _ _ _ | exact Blk.new3 _ _ _ _ _ | refine Blk.alloc ?_ _)) hb1 (by simp <;> omega)
  have yX1 := X1.lt
  have X1_0 := (X1.cell 0).trans (show _ = some (.slice A0 x.rules.length c0) from rfl)
  have X1_1 := (X1.cell 1).trans (show _ = some (.slice A1 x.pend.length c1) from rfl)
  have X1_2 := (X1.cell 2).trans (show _ = some (.int .i64 x.turns) from rfl)
  have X1_3 := (X1.cell 3).trans (show _ = some (.int .i64 x.secs) from rfl)
  have X1_4 := (X1.cell 4).trans (show _ = some (.int .i64 x.spk) from rfl)
  have X1_5 := (X1.cell 5).trans (show _ = some (.slice A2 x.wait.length c2) from rfl)
  have X1_6 := (X1.cell 6).trans (show _ = some (.slice A3 x.shares.length c3) from rfl)
  have X1_7 := (X1.cell 7).trans (show _ = some (.slice A4 x.outs.length c4) from rfl)
  go_wp2_with fail
  refine (hdQuestionS_is A1 c1 _ hn1 (m + 7 * (x.rules.length : Int)) (by omega) (by omega) _ (R1.below (bth HB (by repeat (first | exact Below.refl _ _ | refine Below.alloc ?_ (by first | exact Nat.le_refl _ | (simp <;> omega)) _ | refine Below.setCell ?_ (by first | exact Nat.le_refl _ | (simp <;> omega)) _))))).mono ?_
  rintro e w2 ⟨rfl, hb2⟩
  clear X1_0 X1_1 X1_2 X1_3 X1_4 X1_5 X1_6 X1_7
  have hq2 : Below w1.heap.size w1 w2 := bth (by repeat (first | exact Below.refl _ _ | refine Below.alloc ?_ (by first | exact Nat.le_refl _ | (simp <;> omega)) _ | refine Below.setCell ?_ (by first | exact Nat.le_refl _ | (simp <;> omega)) _)) hb2
  have z2 := hq2.size
  replace HB := bth HB hq2
  replace X1 := X1.below hq2 X1.lt
  have X1_0 := (X1.cell 0).trans (show _ = some (.slice A0 x.rules.length c0) from rfl)
  have X1_1 := (X1.cell 1).trans (show _ = some (.slice A1 x.pend.length c1) from rfl)
  have X1_2 := (X1.cell 2).trans (show _ = some (.int .i64 x.turns) from rfl)
  have X1_3 := (X1.cell 3).trans (show _ = some (.int .i64 x.secs) from rfl)
  have X1_4 := (X1.cell 4).trans (show _ = some (.int .i64 x.spk) from rfl)
  have X1_5 := (X1.cell 5).trans (show _ = some (.slice A2 x.wait.length c2) from rfl)
  have X1_6 := (X1.cell 6).trans (show _ = some (.slice A3 x.shares.length c3) from rfl)
  have X1_7 := (X1.cell 7).trans (show _ = some (.slice A4 x.outs.length c4) from rfl)
  go_wp2_with fail
  refine (hdFloor_is ⟨x.turns, x.secs, x.spk, x.wait, x.shares⟩ A2 A3 c2 c3 hn2 hn3 (m + 7 * (x.rules.length : Int) + 3 * (x.pend.length : Int)) (by omega) (by omega) _ (R2.below (bth HB (by repeat (first | exact Below.refl _ _ | refine Below.alloc ?_ (by first | exact Nat.le_refl _ | (simp <;> omega)) _ | refine Below.setCell ?_ (by first | exact Nat.le_refl _ | (simp <;> omega)) _)))) (R3.below (bth HB (by repeat (first | exact Below.refl _ _ | refine Below.alloc ?_ (by first | exact Nat.le_refl _ | (simp <;> omega)) _ | refine Below.setCell ?_ (by first | exact Nat.le_refl _ | (simp <;> omega)) _))))).mono ?_
  rintro e w3 ⟨rfl, hb3⟩
  clear X1_0 X1_1 X1_2 X1_3 X1_4 X1_5 X1_6 X1_7
  have hq3 : Below w2.heap.size w2 w3 := bth (by repeat (first | exact Below.refl _ _ | refine Below.alloc ?_ (by first | exact Nat.le_refl _ | (simp <;> omega)) _ | refine Below.setCell ?_ (by first | exact Nat.le_refl _ | (simp <;> omega)) _)) hb3
  have z3 := hq3.size
  replace HB := bth HB hq3
  replace X1 := X1.below hq3 X1.lt
  have X1_0 := (X1.cell 0).trans (show _ = some (.slice A0 x.rules.length c0) from rfl)
  have X1_1 := (X1.cell 1).trans (show _ = some (.slice A1 x.pend.length c1) from rfl)
  have X1_2 := (X1.cell 2).trans (show _ = some (.int .i64 x.turns) from rfl)
  have X1_3 := (X1.cell 3).trans (show _ = some (.int .i64 x.secs) from rfl)
  have X1_4 := (X1.cell 4).trans (show _ = some (.int .i64 x.spk) from rfl)
  have X1_5 := (X1.cell 5).trans (show _ = some (.slice A2 x.wait.length c2) from rfl)
  have X1_6 := (X1.cell 6).trans (show _ = some (.slice A3 x.shares.length c3) from rfl)
  have X1_7 := (X1.cell 7).trans (show _ = some (.slice A4 x.outs.length c4) from rfl)
  go_wp2_with fail
  refine (hdOutcomeS_is A4 c4 _ hn4 (m + 7 * (x.rules.length : Int) + 3 * (x.pend.length : Int) + (x.wait.length : Int) + 3 * (x.shares.length : Int)) (by omega) (by omega) _ (R4.below (bth HB (by repeat (first | exact Below.refl _ _ | refine Below.alloc ?_ (by first | exact Nat.le_refl _ | (simp <;> omega)) _ | refine Below.setCell ?_ (by first | exact Nat.le_refl _ | (simp <;> omega)) _))))).mono ?_
  rintro e w4 ⟨rfl, hb4⟩
  clear X1_0 X1_1 X1_2 X1_3 X1_4 X1_5 X1_6 X1_7
  have hq4 : Below w3.heap.size w3 w4 := bth (by repeat (first | exact Below.refl _ _ | refine Below.alloc ?_ (by first | exact Nat.le_refl _ | (simp <;> omega)) _ | refine Below.setCell ?_ (by first | exact Nat.le_refl _ | (simp <;> omega)) _)) hb4
  have z4 := hq4.size
  replace HB := bth HB hq4
  replace X1 := X1.below hq4 X1.lt
  have X1_0 := (X1.cell 0).trans (show _ = some (.slice A0 x.rules.length c0) from rfl)
  have X1_1 := (X1.cell 1).trans (show _ = some (.slice A1 x.pend.length c1) from rfl)
  have X1_2 := (X1.cell 2).trans (show _ = some (.int .i64 x.turns) from rfl)
  have X1_3 := (X1.cell 3).trans (show _ = some (.int .i64 x.secs) from rfl)
  have X1_4 := (X1.cell 4).trans (show _ = some (.int .i64 x.spk) from rfl)
  have X1_5 := (X1.cell 5).trans (show _ = some (.slice A2 x.wait.length c2) from rfl)
  have X1_6 := (X1.cell 6).trans (show _ = some (.slice A3 x.shares.length c3) from rfl)
  have X1_7 := (X1.cell 7).trans (show _ = some (.slice A4 x.outs.length c4) from rfl)
  go_wp2
  go_ret
  exact ⟨rfl, bth HB (by repeat (first | exact Below.refl _ _ | refine Below.alloc ?_ (by first | exact Nat.le_refl _ | (simp <;> omega)) _ | refine Below.setCell ?_ (by first | exact Nat.le_refl _ | (simp <;> omega)) _))⟩
end Go.Proofs.Ytkkdegmfmimdgaa
