/- The walks of the laws of the log: the program's answer is the reference's, for every log and record. -/
import Derived.Test.YtpejnfhenpdobaaDoorLogU
import Derived.Test.YtpejnfhenpdobaaDoorLg
import Derived.Deep.RegionHeld3
namespace Go.Proofs.YtpejnfhenpdobaaDoor
open Go.RowKit Go.G9
set_option maxHeartbeats 8000000 in
set_option maxRecDepth 100000 in
theorem law_isValidLog (x : LogT) (hx_s0 : x.dur.size ≤ maxLen) (hx_s1 : x.pen.size ≤ maxLen) (w : World) (HT : Tab w) :
  Calls Tryd.prog 5 #[.agg #[.string x.dur, .string x.pen, .int .i64 x.cnt]] w fun e w' => e = .returned (.bool true) ∧ Below w.heap.size w w' := by
  go_enter Tryd.func5, Tryd.ntmps5
  go_wp2_with fail
  refine (szLog_is x hx_s0 hx_s1 1048576 (by omega) (by omega) _).mono ?_
  rintro e w1 ⟨r0, rfl, hr0, hs0, hl0, hb1⟩
  have hq1 : Below w.heap.size w w1 := bth (by repeat (first | exact Below.refl _ _ | refine Below.alloc ?_ (by first | exact Nat.le_refl _ | (simp <;> omega)) _ | refine Below.setCell ?_ (by first | exact Nat.le_refl _ | (simp <;> omega)) _)) hb1
  have z1 := hq1.size
  have HB : Below w.heap.size w w1 := hq1
  have X1 : Blk w1 (w.heap.size) 36 #[.string x.dur, .string x.pen, .int .i64 x.cnt] := Blk.below (by repeat (first | exact Blk.new _ _ _ | refine Blk.alloc ?_ _)) hb1 (by simp <;> omega)
  have yX1 := X1.lt
  have X1_0 := (X1.cell 0).trans (show _ = some (.string x.dur) from rfl)
  have X1_1 := (X1.cell 1).trans (show _ = some (.string x.pen) from rfl)
  have X1_2 := (X1.cell 2).trans (show _ = some (.int .i64 x.cnt) from rfl)
  by_cases h00 : r0 < 0
  · go_wp2
    go_ret
    exact ⟨rfl, bth HB (by repeat (first | exact Below.refl _ _ | refine Below.alloc ?_ (by first | exact Nat.le_refl _ | (simp <;> omega)) _ | refine Below.setCell ?_ (by first | exact Nat.le_refl _ | (simp <;> omega)) _))⟩
  clear X1_0 X1_1 X1_2
  have hx_t0 : x.dur.size + x.pen.size ≤ 1048576 := by omega
  clear hl0
  have X1_0 := (X1.cell 0).trans (show _ = some (.string x.dur) from rfl)
  have X1_1 := (X1.cell 1).trans (show _ = some (.string x.pen) from rfl)
  have X1_2 := (X1.cell 2).trans (show _ = some (.int .i64 x.cnt) from rfl)
  go_wp2_with fail
  refine (toLog_is x hx_t0 _ ).mono ?_
  rintro e w2 ⟨rfl, hb2⟩
  clear X1_0 X1_1 X1_2
  have hq2 : Below w1.heap.size w1 w2 := bth (by repeat (first | exact Below.refl _ _ | refine Below.alloc ?_ (by first | exact Nat.le_refl _ | (simp <;> omega)) _ | refine Below.setCell ?_ (by first | exact Nat.le_refl _ | (simp <;> omega)) _)) hb2
  have z2 := hq2.size
  replace HB := bth HB hq2
  replace X1 := X1.below hq2 X1.lt
  have X1_0 := (X1.cell 0).trans (show _ = some (.string x.dur) from rfl)
  have X1_1 := (X1.cell 1).trans (show _ = some (.string x.pen) from rfl)
  have X1_2 := (X1.cell 2).trans (show _ = some (.int .i64 x.cnt) from rfl)
  go_wp2_with fail
  refine (sIsValidLogT_is x hx_t0 _ ).mono ?_
  rintro e w3 ⟨rfl, hb3⟩
  clear X1_0 X1_1 X1_2
  have hq3 : Below w2.heap.size w2 w3 := bth (by repeat (first | exact Below.refl _ _ | refine Below.alloc ?_ (by first | exact Nat.le_refl _ | (simp <;> omega)) _ | refine Below.setCell ?_ (by first | exact Nat.le_refl _ | (simp <;> omega)) _)) hb3
  have z3 := hq3.size
  replace HB := bth HB hq3
  replace X1 := X1.below hq3 X1.lt
  have X1_0 := (X1.cell 0).trans (show _ = some (.string x.dur) from rfl)
  have X1_1 := (X1.cell 1).trans (show _ = some (.string x.pen) from rfl)
  have X1_2 := (X1.cell 2).trans (show _ = some (.int .i64 x.cnt) from rfl)
  go_wp2_with fail
  refine (toLog_is x hx_t0 _ ).mono ?_
  rintro e w4 ⟨rfl, hb4⟩
  clear X1_0 X1_1 X1_2
  have hq4 : Below w3.heap.size w3 w4 := bth (by repeat (first | exact Below.refl _ _ | refine Below.alloc ?_ (by first | exact Nat.le_refl _ | (simp <;> omega)) _ | refine Below.setCell ?_ (by first | exact Nat.le_refl _ | (simp <;> omega)) _)) hb4
  have z4 := hq4.size
  replace HB := bth HB hq4
  replace X1 := X1.below hq4 X1.lt
  have X1_0 := (X1.cell 0).trans (show _ = some (.string x.dur) from rfl)
  have X1_1 := (X1.cell 1).trans (show _ = some (.string x.pen) from rfl)
  have X1_2 := (X1.cell 2).trans (show _ = some (.int .i64 x.cnt) from rfl)
  go_wp2_with fail
  refine (iIsValidLogT_is x hx_t0 _  (HT.below (bth HB (by repeat (first | exact Below.refl _ _ | refine Below.alloc ?_ (by first | exact Nat.le_refl _ | (simp <;> omega)) _ | refine Below.setCell ?_ (by first | exact Nat.le_refl _ | (simp <;> omega)) _))))).mono ?_
  rintro e w5 ⟨rfl, hb5⟩
  clear X1_0 X1_1 X1_2
  have hq5 : Below w4.heap.size w4 w5 := bth (by repeat (first | exact Below.refl _ _ | refine Below.alloc ?_ (by first | exact Nat.le_refl _ | (simp <;> omega)) _ | refine Below.setCell ?_ (by first | exact Nat.le_refl _ | (simp <;> omega)) _)) hb5
  have z5 := hq5.size
  replace HB := bth HB hq5
  replace X1 := X1.below hq5 X1.lt
  have X1_0 := (X1.cell 0).trans (show _ = some (.string x.dur) from rfl)
  have X1_1 := (X1.cell 1).trans (show _ = some (.string x.pen) from rfl)
  have X1_2 := (X1.cell 2).trans (show _ = some (.int .i64 x.cnt) from rfl)
  go_wp2
  go_ret
  exact ⟨rfl, bth HB (by repeat (first | exact Below.refl _ _ | refine Below.alloc ?_ (by first | exact Nat.le_refl _ | (simp <;> omega)) _ | refine Below.setCell ?_ (by first | exact Nat.le_refl _ | (simp <;> omega)) _))⟩
set_option maxHeartbeats 8000000 in
set_option maxRecDepth 100000 in
theorem law_syncLog (x : LogT) (hx_s0 : x.dur.size ≤ maxLen) (hx_s1 : x.pen.size ≤ maxLen) (w : World) (HT : Tab w) :
  Calls Tryd.prog 7 #[.agg #[.string x.dur, .string x.pen, .int .i64 x.cnt]] w fun e w' => e = .returned (.bool true) ∧ Below w.heap.size w w' := by
  go_enter Tryd.func7, Tryd.ntmps7
  go_wp2_with fail
  refine (szLog_is x hx_s0 hx_s1 1048576 (by omega) (by omega) _).mono ?_
  rintro e w1 ⟨r0, rfl, hr0, hs0, hl0, hb1⟩
  have hq1 : Below w.heap.size w w1 := bth (by repeat (first | exact Below.refl _ _ | refine Below.alloc ?_ (by first | exact Nat.le_refl _ | (simp <;> omega)) _ | refine Below.setCell ?_ (by first | exact Nat.le_refl _ | (simp <;> omega)) _)) hb1
  have z1 := hq1.size
  have HB : Below w.heap.size w w1 := hq1
  have X1 : Blk w1 (w.heap.size) 36 #[.string x.dur, .string x.pen, .int .i64 x.cnt] := Blk.below (by repeat (first | exact Blk.new _ _ _ | refine Blk.alloc ?_ _)) hb1 (by simp <;> omega)
  have yX1 := X1.lt
  have X1_0 := (X1.cell 0).trans (show _ = some (.string x.dur) from rfl)
  have X1_1 := (X1.cell 1).trans (show _ = some (.string x.pen) from rfl)
  have X1_2 := (X1.cell 2).trans (show _ = some (.int .i64 x.cnt) from rfl)
  by_cases h00 : r0 < 0
  · go_wp2
    go_ret
    exact ⟨rfl, bth HB (by repeat (first | exact Below.refl _ _ | refine Below.alloc ?_ (by first | exact Nat.le_refl _ | (simp <;> omega)) _ | refine Below.setCell ?_ (by first | exact Nat.le_refl _ | (simp <;> omega)) _))⟩
  clear X1_0 X1_1 X1_2
  have hx_t0 : x.dur.size + x.pen.size ≤ 1048576 := by omega
  clear hl0
  have X1_0 := (X1.cell 0).trans (show _ = some (.string x.dur) from rfl)
  have X1_1 := (X1.cell 1).trans (show _ = some (.string x.pen) from rfl)
  have X1_2 := (X1.cell 2).trans (show _ = some (.int .i64 x.cnt) from rfl)
  go_wp2_with fail
  refine (toLog_is x hx_t0 _ ).mono ?_
  rintro e w2 ⟨rfl, hb2⟩
  clear X1_0 X1_1 X1_2
  have hq2 : Below w1.heap.size w1 w2 := bth (by repeat (first | exact Below.refl _ _ | refine Below.alloc ?_ (by first | exact Nat.le_refl _ | (simp <;> omega)) _ | refine Below.setCell ?_ (by first | exact Nat.le_refl _ | (simp <;> omega)) _)) hb2
  have z2 := hq2.size
  replace HB := bth HB hq2
  replace X1 := X1.below hq2 X1.lt
  have X1_0 := (X1.cell 0).trans (show _ = some (.string x.dur) from rfl)
  have X1_1 := (X1.cell 1).trans (show _ = some (.string x.pen) from rfl)
  have X1_2 := (X1.cell 2).trans (show _ = some (.int .i64 x.cnt) from rfl)
  go_wp2_with fail
  refine (sSyncLogR_is x hx_t0 _ ).mono ?_
  rintro e w3 ⟨rfl, hb3⟩
  clear X1_0 X1_1 X1_2
  have hq3 : Below w2.heap.size w2 w3 := bth (by repeat (first | exact Below.refl _ _ | refine Below.alloc ?_ (by first | exact Nat.le_refl _ | (simp <;> omega)) _ | refine Below.setCell ?_ (by first | exact Nat.le_refl _ | (simp <;> omega)) _)) hb3
  have z3 := hq3.size
  replace HB := bth HB hq3
  replace X1 := X1.below hq3 X1.lt
  have X1_l0 : w.heap.size < w3.heap.size := by have h := X1.lt; omega
  have X1_0 := (X1.cell 0).trans (show _ = some (.string x.dur) from rfl)
  have X1_1 := (X1.cell 1).trans (show _ = some (.string x.pen) from rfl)
  have X1_2 := (X1.cell 2).trans (show _ = some (.int .i64 x.cnt) from rfl)
  go_wp2_with fail
  refine (toLog_is x hx_t0 _ ).mono ?_
  rintro e w4 ⟨rfl, hb4⟩
  clear X1_l0 X1_0 X1_1 X1_2
  have hq4 : Below w3.heap.size w3 w4 := bth (by repeat (first | exact Below.refl _ _ | refine Below.alloc ?_ (by first | exact Nat.le_refl _ | (simp <;> omega)) _ | refine Below.setCell ?_ (by first | exact Nat.le_refl _ | (simp <;> omega)) _)) hb4
  have z4 := hq4.size
  replace HB := bth HB hq4
  replace X1 := X1.below hq4 X1.lt
  have X2 : Blk w4 (w3.heap.size) 31 #[.string (syncT x).dur, .string (syncT x).pen, .int .i64 (syncT x).cnt] := Blk.below (by repeat (first | exact Blk.new _ _ _ | refine Blk.alloc ?_ _)) hb4 (by simp <;> omega)
  have yX2 := X2.lt
  have X1_0 := (X1.cell 0).trans (show _ = some (.string x.dur) from rfl)
  have X1_1 := (X1.cell 1).trans (show _ = some (.string x.pen) from rfl)
  have X1_2 := (X1.cell 2).trans (show _ = some (.int .i64 x.cnt) from rfl)
  have X2_0 := (X2.cell 0).trans (show _ = some (.string (syncT x).dur) from rfl)
  have X2_1 := (X2.cell 1).trans (show _ = some (.string (syncT x).pen) from rfl)
  have X2_2 := (X2.cell 2).trans (show _ = some (.int .i64 (syncT x).cnt) from rfl)
  go_wp2_with fail
  refine (iSyncLogR_is x hx_t0 _  (HT.below (bth HB (by repeat (first | exact Below.refl _ _ | refine Below.alloc ?_ (by first | exact Nat.le_refl _ | (simp <;> omega)) _ | refine Below.setCell ?_ (by first | exact Nat.le_refl _ | (simp <;> omega)) _))))).mono ?_
  rintro e w5 ⟨rfl, hb5⟩
  clear X1_0 X1_1 X1_2
  clear X2_0 X2_1 X2_2
  have hq5 : Below w4.heap.size w4 w5 := bth (by repeat (first | exact Below.refl _ _ | refine Below.alloc ?_ (by first | exact Nat.le_refl _ | (simp <;> omega)) _ | refine Below.setCell ?_ (by first | exact Nat.le_refl _ | (simp <;> omega)) _)) hb5
  have z5 := hq5.size
  replace HB := bth HB hq5
  replace X1 := X1.below hq5 X1.lt
  replace X2 := X2.below hq5 X2.lt
  have X1_l0 : w.heap.size < w5.heap.size := by have h := X1.lt; omega
  have X1_0 := (X1.cell 0).trans (show _ = some (.string x.dur) from rfl)
  have X1_1 := (X1.cell 1).trans (show _ = some (.string x.pen) from rfl)
  have X1_2 := (X1.cell 2).trans (show _ = some (.int .i64 x.cnt) from rfl)
  have X2_l0 : w3.heap.size < w5.heap.size := by have h := X2.lt; omega
  have X2_0 := (X2.cell 0).trans (show _ = some (.string (syncT x).dur) from rfl)
  have X2_1 := (X2.cell 1).trans (show _ = some (.string (syncT x).pen) from rfl)
  have X2_2 := (X2.cell 2).trans (show _ = some (.int .i64 (syncT x).cnt) from rfl)
  go_wp2_with fail
  refine (eqLog_is (syncT x)  _  ).mono ?_
  rintro e w6 ⟨rfl, hb6⟩
  clear X1_l0 X1_0 X1_1 X1_2
  clear X2_l0 X2_0 X2_1 X2_2
  have hq6 : Below w5.heap.size w5 w6 := bth (by repeat (first | exact Below.refl _ _ | refine Below.alloc ?_ (by first | exact Nat.le_refl _ | (simp <;> omega)) _ | refine Below.setCell ?_ (by first | exact Nat.le_refl _ | (simp <;> omega)) _)) hb6
  have z6 := hq6.size
  replace HB := bth HB hq6
  replace X1 := X1.below hq6 X1.lt
  replace X2 := X2.below hq6 X2.lt
  have X3 : Blk w6 (w5.heap.size) 31 #[.string (syncT x).dur, .string (syncT x).pen, .int .i64 (syncT x).cnt] := Blk.below (by repeat (first | exact Blk.new _ _ _ | refine Blk.alloc ?_ _)) hb6 (by simp <;> omega)
  have yX3 := X3.lt
  have X1_0 := (X1.cell 0).trans (show _ = some (.string x.dur) from rfl)
  have X1_1 := (X1.cell 1).trans (show _ = some (.string x.pen) from rfl)
  have X1_2 := (X1.cell 2).trans (show _ = some (.int .i64 x.cnt) from rfl)
  have X2_0 := (X2.cell 0).trans (show _ = some (.string (syncT x).dur) from rfl)
  have X2_1 := (X2.cell 1).trans (show _ = some (.string (syncT x).pen) from rfl)
  have X2_2 := (X2.cell 2).trans (show _ = some (.int .i64 (syncT x).cnt) from rfl)
  have X3_0 := (X3.cell 0).trans (show _ = some (.string (syncT x).dur) from rfl)
  have X3_1 := (X3.cell 1).trans (show _ = some (.string (syncT x).pen) from rfl)
  have X3_2 := (X3.cell 2).trans (show _ = some (.int .i64 (syncT x).cnt) from rfl)
  go_wp2
  go_ret
  exact ⟨rfl, bth HB (by repeat (first | exact Below.refl _ _ | refine Below.alloc ?_ (by first | exact Nat.le_refl _ | (simp <;> omega)) _ | refine Below.setCell ?_ (by first | exact Nat.le_refl _ | (simp <;> omega)) _))⟩
set_option maxHeartbeats 8000000 in
set_option maxRecDepth 100000 in
theorem law_recoverLog (s : ByteArray) (hs : s.size ≤ maxLen) (w : World) (HT : Tab w) :
  Calls Tryd.prog 4 #[.string s] w fun e w' => e = .returned (.bool true) ∧ Below w.heap.size w w' := by
  by_cases hs' : s.size ≤ 1048576
  case neg =>
    unfold maxLen at hs
    go_enter Tryd.func4, Tryd.ntmps4
    go_wp2
    go_ret
    exact ⟨rfl, by repeat (first | exact Below.refl _ _ | refine Below.alloc ?_ (by first | exact Nat.le_refl _ | (simp <;> omega)) _ | refine Below.setCell ?_ (by first | exact Nat.le_refl _ | (simp <;> omega)) _)⟩
  go_enter Tryd.func4, Tryd.ntmps4
  go_wp2_with fail
  refine (sRecoverLogR_is s hs' _ ).mono ?_
  rintro e w1 ⟨rfl, hb1⟩
  have hq1 : Below w.heap.size w w1 := bth (by repeat (first | exact Below.refl _ _ | refine Below.alloc ?_ (by first | exact Nat.le_refl _ | (simp <;> omega)) _ | refine Below.setCell ?_ (by first | exact Nat.le_refl _ | (simp <;> omega)) _)) hb1
  have z1 := hq1.size
  have HB : Below w.heap.size w w1 := hq1
  go_wp2_with fail
  refine (iRecoverLogR_is s hs' _  (HT.below (bth HB (by repeat (first | exact Below.refl _ _ | refine Below.alloc ?_ (by first | exact Nat.le_refl _ | (simp <;> omega)) _ | refine Below.setCell ?_ (by first | exact Nat.le_refl _ | (simp <;> omega)) _))))).mono ?_
  rintro e w2 ⟨rfl, hb2⟩
  have hq2 : Below w1.heap.size w1 w2 := bth (by repeat (first | exact Below.refl _ _ | refine Below.alloc ?_ (by first | exact Nat.le_refl _ | (simp <;> omega)) _ | refine Below.setCell ?_ (by first | exact Nat.le_refl _ | (simp <;> omega)) _)) hb2
  have z2 := hq2.size
  replace HB := bth HB hq2
  have X1 : Blk w2 (w1.heap.size) 31 #[.string (recT s).dur, .string (recT s).pen, .int .i64 (recT s).cnt] := Blk.below (by repeat (first | exact Blk.new _ _ _ | refine Blk.alloc ?_ _)) hb2 (by simp <;> omega)
  have yX1 := X1.lt
  have X1_l0 : w1.heap.size < w2.heap.size := by have h := X1.lt; omega
  have X1_0 := (X1.cell 0).trans (show _ = some (.string (recT s).dur) from rfl)
  have X1_1 := (X1.cell 1).trans (show _ = some (.string (recT s).pen) from rfl)
  have X1_2 := (X1.cell 2).trans (show _ = some (.int .i64 (recT s).cnt) from rfl)
  go_wp2_with fail
  refine (eqLog_is (recT s)  _  ).mono ?_
  rintro e w3 ⟨rfl, hb3⟩
  clear X1_l0 X1_0 X1_1 X1_2
  have hq3 : Below w2.heap.size w2 w3 := bth (by repeat (first | exact Below.refl _ _ | refine Below.alloc ?_ (by first | exact Nat.le_refl _ | (simp <;> omega)) _ | refine Below.setCell ?_ (by first | exact Nat.le_refl _ | (simp <;> omega)) _)) hb3
  have z3 := hq3.size
  replace HB := bth HB hq3
  replace X1 := X1.below hq3 X1.lt
  have X2 : Blk w3 (w2.heap.size) 31 #[.string (recT s).dur, .string (recT s).pen, .int .i64 (recT s).cnt] := Blk.below (by repeat (first | exact Blk.new _ _ _ | refine Blk.alloc ?_ _)) hb3 (by simp <;> omega)
  have yX2 := X2.lt
  have X1_0 := (X1.cell 0).trans (show _ = some (.string (recT s).dur) from rfl)
  have X1_1 := (X1.cell 1).trans (show _ = some (.string (recT s).pen) from rfl)
  have X1_2 := (X1.cell 2).trans (show _ = some (.int .i64 (recT s).cnt) from rfl)
  have X2_0 := (X2.cell 0).trans (show _ = some (.string (recT s).dur) from rfl)
  have X2_1 := (X2.cell 1).trans (show _ = some (.string (recT s).pen) from rfl)
  have X2_2 := (X2.cell 2).trans (show _ = some (.int .i64 (recT s).cnt) from rfl)
  go_wp2
  go_ret
  exact ⟨rfl, bth HB (by repeat (first | exact Below.refl _ _ | refine Below.alloc ?_ (by first | exact Nat.le_refl _ | (simp <;> omega)) _ | refine Below.setCell ?_ (by first | exact Nat.le_refl _ | (simp <;> omega)) _))⟩
set_option maxHeartbeats 8000000 in
set_option maxRecDepth 100000 in
theorem law_encodeRecord (k : Int) (y : LRec) (hy_s0 : y.cmd.size ≤ maxLen) (hy_s1 : y.rep.size ≤ maxLen) (w : World) (HT : Tab w) :
  Calls Tryd.prog 3 #[.int .i64 k, .agg #[.string y.cmd, .string y.rep]] w fun e w' => e = .returned (.bool true) ∧ Below w.heap.size w w' := by
  go_enter Tryd.func3, Tryd.ntmps3
  go_wp2_with fail
  refine (szLogRecordR_is y hy_s0 hy_s1 1048576 (by omega) (by omega) _).mono ?_
  rintro e w1 ⟨r1, rfl, hr1, hs1, hl1, hb1⟩
  have hq1 : Below w.heap.size w w1 := bth (by repeat (first | exact Below.refl _ _ | refine Below.alloc ?_ (by first | exact Nat.le_refl _ | (simp <;> omega)) _ | refine Below.setCell ?_ (by first | exact Nat.le_refl _ | (simp <;> omega)) _)) hb1
  have z1 := hq1.size
  have HB : Below w.heap.size w w1 := hq1
  have X1 : Blk w1 (w.heap.size) 23 #[.string y.cmd, .string y.rep] := Blk.below (by repeat (first | exact Blk.new _ _ _ | refine Blk.alloc ?_ _)) hb1 (by simp <;> omega)
  have yX1 := X1.lt
  have X1_0 := (X1.cell 0).trans (show _ = some (.string y.cmd) from rfl)
  have X1_1 := (X1.cell 1).trans (show _ = some (.string y.rep) from rfl)
  by_cases h01 : r1 < 0
  · go_wp2
    go_ret
    exact ⟨rfl, bth HB (by repeat (first | exact Below.refl _ _ | refine Below.alloc ?_ (by first | exact Nat.le_refl _ | (simp <;> omega)) _ | refine Below.setCell ?_ (by first | exact Nat.le_refl _ | (simp <;> omega)) _))⟩
  clear X1_0 X1_1
  have hy_t0 : y.cmd.size ≤ 1048576 := by omega
  have hy_t1 : y.rep.size ≤ 1048576 := by omega
  clear hl1
  have X1_0 := (X1.cell 0).trans (show _ = some (.string y.cmd) from rfl)
  have X1_1 := (X1.cell 1).trans (show _ = some (.string y.rep) from rfl)
  go_wp2_with fail
  refine (toLogRecordR_is y hy_t0 hy_t1 _ ).mono ?_
  rintro e w2 ⟨rfl, hb2⟩
  clear X1_0 X1_1
  have hq2 : Below w1.heap.size w1 w2 := bth (by repeat (first | exact Below.refl _ _ | refine Below.alloc ?_ (by first | exact Nat.le_refl _ | (simp <;> omega)) _ | refine Below.setCell ?_ (by first | exact Nat.le_refl _ | (simp <;> omega)) _)) hb2
  have z2 := hq2.size
  replace HB := bth HB hq2
  replace X1 := X1.below hq2 X1.lt
  have X1_0 := (X1.cell 0).trans (show _ = some (.string y.cmd) from rfl)
  have X1_1 := (X1.cell 1).trans (show _ = some (.string y.rep) from rfl)
  go_wp2_with fail
  refine (sEncodeRecordR_is k y hy_t0 hy_t1 _ ).mono ?_
  rintro e w3 ⟨rfl, hb3⟩
  clear X1_0 X1_1
  have hq3 : Below w2.heap.size w2 w3 := bth (by repeat (first | exact Below.refl _ _ | refine Below.alloc ?_ (by first | exact Nat.le_refl _ | (simp <;> omega)) _ | refine Below.setCell ?_ (by first | exact Nat.le_refl _ | (simp <;> omega)) _)) hb3
  have z3 := hq3.size
  replace HB := bth HB hq3
  replace X1 := X1.below hq3 X1.lt
  have X1_0 := (X1.cell 0).trans (show _ = some (.string y.cmd) from rfl)
  have X1_1 := (X1.cell 1).trans (show _ = some (.string y.rep) from rfl)
  go_wp2_with fail
  refine (toLogRecordR_is y hy_t0 hy_t1 _ ).mono ?_
  rintro e w4 ⟨rfl, hb4⟩
  clear X1_0 X1_1
  have hq4 : Below w3.heap.size w3 w4 := bth (by repeat (first | exact Below.refl _ _ | refine Below.alloc ?_ (by first | exact Nat.le_refl _ | (simp <;> omega)) _ | refine Below.setCell ?_ (by first | exact Nat.le_refl _ | (simp <;> omega)) _)) hb4
  have z4 := hq4.size
  replace HB := bth HB hq4
  replace X1 := X1.below hq4 X1.lt
  have X1_0 := (X1.cell 0).trans (show _ = some (.string y.cmd) from rfl)
  have X1_1 := (X1.cell 1).trans (show _ = some (.string y.rep) from rfl)
  go_wp2_with fail
  refine (iEncodeRecordR_is k y hy_t0 hy_t1 _  (HT.below (bth HB (by repeat (first | exact Below.refl _ _ | refine Below.alloc ?_ (by first | exact Nat.le_refl _ | (simp <;> omega)) _ | refine Below.setCell ?_ (by first | exact Nat.le_refl _ | (simp <;> omega)) _))))).mono ?_
  rintro e w5 ⟨rfl, hb5⟩
  clear X1_0 X1_1
  have hq5 : Below w4.heap.size w4 w5 := bth (by repeat (first | exact Below.refl _ _ | refine Below.alloc ?_ (by first | exact Nat.le_refl _ | (simp <;> omega)) _ | refine Below.setCell ?_ (by first | exact Nat.le_refl _ | (simp <;> omega)) _)) hb5
  have z5 := hq5.size
  replace HB := bth HB hq5
  replace X1 := X1.below hq5 X1.lt
  have X1_0 := (X1.cell 0).trans (show _ = some (.string y.cmd) from rfl)
  have X1_1 := (X1.cell 1).trans (show _ = some (.string y.rep) from rfl)
  go_wp2
  go_ret
  exact ⟨rfl, bth HB (by repeat (first | exact Below.refl _ _ | refine Below.alloc ?_ (by first | exact Nat.le_refl _ | (simp <;> omega)) _ | refine Below.setCell ?_ (by first | exact Nat.le_refl _ | (simp <;> omega)) _))⟩
set_option maxHeartbeats 8000000 in
set_option maxRecDepth 100000 in
theorem law_crashLog (x : LogT) (hx_s0 : x.dur.size ≤ maxLen) (hx_s1 : x.pen.size ≤ maxLen) (k : Int) (t : Bool) (w : World) (HT : Tab w) :
  Calls Tryd.prog 6 #[.agg #[.string x.dur, .string x.pen, .int .i64 x.cnt], .int .i64 k, .bool t] w fun e w' => e = .returned (.bool true) ∧ Below w.heap.size w w' := by
  go_enter Tryd.func6, Tryd.ntmps6
  go_wp2_with fail
  refine (szLog_is x hx_s0 hx_s1 1048576 (by omega) (by omega) _).mono ?_
  rintro e w1 ⟨r0, rfl, hr0, hs0, hl0, hb1⟩
  have hq1 : Below w.heap.size w w1 := bth (by repeat (first | exact Below.refl _ _ | refine Below.alloc ?_ (by first | exact Nat.le_refl _ | (simp <;> omega)) _ | refine Below.setCell ?_ (by first | exact Nat.le_refl _ | (simp <;> omega)) _)) hb1
  have z1 := hq1.size
  have HB : Below w.heap.size w w1 := hq1
  have X1 : Blk w1 (w.heap.size) 36 #[.string x.dur, .string x.pen, .int .i64 x.cnt] := Blk.below (by repeat (first | exact Blk.new _ _ _ | refine Blk.alloc ?_ _)) hb1 (by simp <;> omega)
  have yX1 := X1.lt
  have X1_0 := (X1.cell 0).trans (show _ = some (.string x.dur) from rfl)
  have X1_1 := (X1.cell 1).trans (show _ = some (.string x.pen) from rfl)
  have X1_2 := (X1.cell 2).trans (show _ = some (.int .i64 x.cnt) from rfl)
  by_cases h00 : r0 < 0
  · go_wp2
    go_ret
    exact ⟨rfl, bth HB (by repeat (first | exact Below.refl _ _ | refine Below.alloc ?_ (by first | exact Nat.le_refl _ | (simp <;> omega)) _ | refine Below.setCell ?_ (by first | exact Nat.le_refl _ | (simp <;> omega)) _))⟩
  clear X1_0 X1_1 X1_2
  have hx_t0 : x.dur.size + x.pen.size ≤ 1048576 := by omega
  clear hl0
  have X1_0 := (X1.cell 0).trans (show _ = some (.string x.dur) from rfl)
  have X1_1 := (X1.cell 1).trans (show _ = some (.string x.pen) from rfl)
  have X1_2 := (X1.cell 2).trans (show _ = some (.int .i64 x.cnt) from rfl)
  go_wp2_with fail
  refine (toLog_is x hx_t0 _ ).mono ?_
  rintro e w2 ⟨rfl, hb2⟩
  clear X1_0 X1_1 X1_2
  have hq2 : Below w1.heap.size w1 w2 := bth (by repeat (first | exact Below.refl _ _ | refine Below.alloc ?_ (by first | exact Nat.le_refl _ | (simp <;> omega)) _ | refine Below.setCell ?_ (by first | exact Nat.le_refl _ | (simp <;> omega)) _)) hb2
  have z2 := hq2.size
  replace HB := bth HB hq2
  replace X1 := X1.below hq2 X1.lt
  have X1_0 := (X1.cell 0).trans (show _ = some (.string x.dur) from rfl)
  have X1_1 := (X1.cell 1).trans (show _ = some (.string x.pen) from rfl)
  have X1_2 := (X1.cell 2).trans (show _ = some (.int .i64 x.cnt) from rfl)
  go_wp2_with fail
  refine (sCrashLogR_is x hx_t0 k t _ ).mono ?_
  rintro e w3 ⟨rfl, hb3⟩
  clear X1_0 X1_1 X1_2
  have hq3 : Below w2.heap.size w2 w3 := bth (by repeat (first | exact Below.refl _ _ | refine Below.alloc ?_ (by first | exact Nat.le_refl _ | (simp <;> omega)) _ | refine Below.setCell ?_ (by first | exact Nat.le_refl _ | (simp <;> omega)) _)) hb3
  have z3 := hq3.size
  replace HB := bth HB hq3
  replace X1 := X1.below hq3 X1.lt
  have X1_0 := (X1.cell 0).trans (show _ = some (.string x.dur) from rfl)
  have X1_1 := (X1.cell 1).trans (show _ = some (.string x.pen) from rfl)
  have X1_2 := (X1.cell 2).trans (show _ = some (.int .i64 x.cnt) from rfl)
  go_wp2_with fail
  refine (toLog_is x hx_t0 _ ).mono ?_
  rintro e w4 ⟨rfl, hb4⟩
  clear X1_0 X1_1 X1_2
  have hq4 : Below w3.heap.size w3 w4 := bth (by repeat (first | exact Below.refl _ _ | refine Below.alloc ?_ (by first | exact Nat.le_refl _ | (simp <;> omega)) _ | refine Below.setCell ?_ (by first | exact Nat.le_refl _ | (simp <;> omega)) _)) hb4
  have z4 := hq4.size
  replace HB := bth HB hq4
  replace X1 := X1.below hq4 X1.lt
  have X1_0 := (X1.cell 0).trans (show _ = some (.string x.dur) from rfl)
  have X1_1 := (X1.cell 1).trans (show _ = some (.string x.pen) from rfl)
  have X1_2 := (X1.cell 2).trans (show _ = some (.int .i64 x.cnt) from rfl)
  go_wp2_with fail
  refine (iCrashLogR_is x hx_t0 k t _  (HT.below (bth HB (by repeat (first | exact Below.refl _ _ | refine Below.alloc ?_ (by first | exact Nat.le_refl _ | (simp <;> omega)) _ | refine Below.setCell ?_ (by first | exact Nat.le_refl _ | (simp <;> omega)) _))))).mono ?_
  rintro e w5 ⟨rfl, hb5⟩
  clear X1_0 X1_1 X1_2
  have hq5 : Below w4.heap.size w4 w5 := bth (by repeat (first | exact Below.refl _ _ | refine Below.alloc ?_ (by first | exact Nat.le_refl _ | (simp <;> omega)) _ | refine Below.setCell ?_ (by first | exact Nat.le_refl _ | (simp <;> omega)) _)) hb5
  have z5 := hq5.size
  replace HB := bth HB hq5
  replace X1 := X1.below hq5 X1.lt
  have X1_0 := (X1.cell 0).trans (show _ = some (.string x.dur) from rfl)
  have X1_1 := (X1.cell 1).trans (show _ = some (.string x.pen) from rfl)
  have X1_2 := (X1.cell 2).trans (show _ = some (.int .i64 x.cnt) from rfl)
  go_wp2
  go_ret
  exact ⟨rfl, bth HB (by repeat (first | exact Below.refl _ _ | refine Below.alloc ?_ (by first | exact Nat.le_refl _ | (simp <;> omega)) _ | refine Below.setCell ?_ (by first | exact Nat.le_refl _ | (simp <;> omega)) _))⟩
set_option maxHeartbeats 8000000 in
set_option maxRecDepth 100000 in
theorem law_logRecords (x : LogT) (hx_s0 : x.dur.size ≤ maxLen) (hx_s1 : x.pen.size ≤ maxLen) (w : World) (HT : Tab w) :
  Calls Tryd.prog 9 #[.agg #[.string x.dur, .string x.pen, .int .i64 x.cnt]] w fun e w' => e = .returned (.bool true) ∧ Below w.heap.size w w' := by
  go_enter Tryd.func9, Tryd.ntmps9
  go_wp2_with fail
  refine (szLog_is x hx_s0 hx_s1 1048576 (by omega) (by omega) _).mono ?_
  rintro e w1 ⟨r0, rfl, hr0, hs0, hl0, hb1⟩
  have hq1 : Below w.heap.size w w1 := bth (by repeat (first | exact Below.refl _ _ | refine Below.alloc ?_ (by first | exact Nat.le_refl _ | (simp <;> omega)) _ | refine Below.setCell ?_ (by first | exact Nat.le_refl _ | (simp <;> omega)) _)) hb1
  have z1 := hq1.size
  have HB : Below w.heap.size w w1 := hq1
  have X1 : Blk w1 (w.heap.size) 36 #[.string x.dur, .string x.pen, .int .i64 x.cnt] := Blk.below (by repeat (first | exact Blk.new _ _ _ | refine Blk.alloc ?_ _)) hb1 (by simp <;> omega)
  have yX1 := X1.lt
  have X1_0 := (X1.cell 0).trans (show _ = some (.string x.dur) from rfl)
  have X1_1 := (X1.cell 1).trans (show _ = some (.string x.pen) from rfl)
  have X1_2 := (X1.cell 2).trans (show _ = some (.int .i64 x.cnt) from rfl)
  by_cases h00 : r0 < 0
  · go_wp2
    go_ret
    exact ⟨rfl, bth HB (by repeat (first | exact Below.refl _ _ | refine Below.alloc ?_ (by first | exact Nat.le_refl _ | (simp <;> omega)) _ | refine Below.setCell ?_ (by first | exact Nat.le_refl _ | (simp <;> omega)) _))⟩
  clear X1_0 X1_1 X1_2
  have hx_t0 : x.dur.size + x.pen.size ≤ 1048576 := by omega
  clear hl0
  have X1_0 := (X1.cell 0).trans (show _ = some (.string x.dur) from rfl)
  have X1_1 := (X1.cell 1).trans (show _ = some (.string x.pen) from rfl)
  have X1_2 := (X1.cell 2).trans (show _ = some (.int .i64 x.cnt) from rfl)
  go_wp2_with fail
  refine (toLog_is x hx_t0 _ ).mono ?_
  rintro e w2 ⟨rfl, hb2⟩
  clear X1_0 X1_1 X1_2
  have hq2 : Below w1.heap.size w1 w2 := bth (by repeat (first | exact Below.refl _ _ | refine Below.alloc ?_ (by first | exact Nat.le_refl _ | (simp <;> omega)) _ | refine Below.setCell ?_ (by first | exact Nat.le_refl _ | (simp <;> omega)) _)) hb2
  have z2 := hq2.size
  replace HB := bth HB hq2
  replace X1 := X1.below hq2 X1.lt
  have X1_0 := (X1.cell 0).trans (show _ = some (.string x.dur) from rfl)
  have X1_1 := (X1.cell 1).trans (show _ = some (.string x.pen) from rfl)
  have X1_2 := (X1.cell 2).trans (show _ = some (.int .i64 x.cnt) from rfl)
  go_wp2_with fail
  refine (sLogRecordsR_is x hx_t0 _ ).mono ?_
  rintro e w3 ⟨Aw0, cw0, rfl, Ow0, hb3⟩
  clear X1_0 X1_1 X1_2
  have hq3 : Below w2.heap.size w2 w3 := bth (by repeat (first | exact Below.refl _ _ | refine Below.alloc ?_ (by first | exact Nat.le_refl _ | (simp <;> omega)) _ | refine Below.setCell ?_ (by first | exact Nat.le_refl _ | (simp <;> omega)) _)) hb3
  have z3 := hq3.size
  replace HB := bth HB hq3
  replace X1 := X1.below hq3 X1.lt
  have inw0 : Within [.slice Aw0 (lrT x).length cw0] (w2.heap.size) (w3.heap.size) := by
    intro v hv k hk
    simp only [List.mem_cons, List.not_mem_nil, or_false] at hv
    subst hv
    have h := Ow0.lt k hk; (try simp at h); omega
  have X1_0 := (X1.cell 0).trans (show _ = some (.string x.dur) from rfl)
  have X1_1 := (X1.cell 1).trans (show _ = some (.string x.pen) from rfl)
  have X1_2 := (X1.cell 2).trans (show _ = some (.int .i64 x.cnt) from rfl)
  go_wp2_with fail
  refine (toLog_is x hx_t0 _ ).mono ?_
  rintro e w4 ⟨rfl, hb4⟩
  clear X1_0 X1_1 X1_2
  have hq4 : Below w3.heap.size w3 w4 := bth (by repeat (first | exact Below.refl _ _ | refine Below.alloc ?_ (by first | exact Nat.le_refl _ | (simp <;> omega)) _ | refine Below.setCell ?_ (by first | exact Nat.le_refl _ | (simp <;> omega)) _)) hb4
  have z4 := hq4.size
  replace HB := bth HB hq4
  replace Ow0 := Ow0.later hq4
  replace X1 := X1.below hq4 X1.lt
  have X1_0 := (X1.cell 0).trans (show _ = some (.string x.dur) from rfl)
  have X1_1 := (X1.cell 1).trans (show _ = some (.string x.pen) from rfl)
  have X1_2 := (X1.cell 2).trans (show _ = some (.int .i64 x.cnt) from rfl)
  go_wp2_with fail
  refine (iLogRecordsR_is x hx_t0 _  (HT.below (bth HB (by repeat (first | exact Below.refl _ _ | refine Below.alloc ?_ (by first | exact Nat.le_refl _ | (simp <;> omega)) _ | refine Below.setCell ?_ (by first | exact Nat.le_refl _ | (simp <;> omega)) _))))).mono ?_
  rintro e w5 ⟨Ag0, cg0, rfl, Og0, hb5⟩
  clear X1_0 X1_1 X1_2
  have hq5 : Below w4.heap.size w4 w5 := bth (by repeat (first | exact Below.refl _ _ | refine Below.alloc ?_ (by first | exact Nat.le_refl _ | (simp <;> omega)) _ | refine Below.setCell ?_ (by first | exact Nat.le_refl _ | (simp <;> omega)) _)) hb5
  have z5 := hq5.size
  replace HB := bth HB hq5
  replace Ow0 := Ow0.later hq5
  replace X1 := X1.below hq5 X1.lt
  have ing0 : Within [.slice Ag0 (lrT x).length cg0] (w4.heap.size) (w5.heap.size) := by
    intro v hv k hk
    simp only [List.mem_cons, List.not_mem_nil, or_false] at hv
    subst hv
    have h := Og0.lt k hk; (try simp at h); omega
  have X1_0 := (X1.cell 0).trans (show _ = some (.string x.dur) from rfl)
  have X1_1 := (X1.cell 1).trans (show _ = some (.string x.pen) from rfl)
  have X1_2 := (X1.cell 2).trans (show _ = some (.int .i64 x.cnt) from rfl)
  go_wp2_with fail
  refine (eqLogRecordS_is Ag0 Aw0 cg0 cw0 (lrT x) (lrT_len x) _ (Og0.rds.below (by repeat (first | exact Below.refl _ _ | refine Below.alloc ?_ (by first | exact Nat.le_refl _ | (simp <;> omega)) _ | refine Below.setCell ?_ (by first | exact Nat.le_refl _ | (simp <;> omega)) _))) (Ow0.rds.below (by repeat (first | exact Below.refl _ _ | refine Below.alloc ?_ (by first | exact Nat.le_refl _ | (simp <;> omega)) _ | refine Below.setCell ?_ (by first | exact Nat.le_refl _ | (simp <;> omega)) _)))).mono ?_
  rintro e w6 ⟨rfl, hb6⟩
  clear X1_0 X1_1 X1_2
  have hq6 : Below w5.heap.size w5 w6 := bth (by repeat (first | exact Below.refl _ _ | refine Below.alloc ?_ (by first | exact Nat.le_refl _ | (simp <;> omega)) _ | refine Below.setCell ?_ (by first | exact Nat.le_refl _ | (simp <;> omega)) _)) hb6
  have z6 := hq6.size
  replace HB := bth HB hq6
  replace Ow0 := Ow0.later hq6
  replace Og0 := Og0.later hq6
  replace X1 := X1.below hq6 X1.lt
  have X1_0 := (X1.cell 0).trans (show _ = some (.string x.dur) from rfl)
  have X1_1 := (X1.cell 1).trans (show _ = some (.string x.pen) from rfl)
  have X1_2 := (X1.cell 2).trans (show _ = some (.int .i64 x.cnt) from rfl)
  go_wp2_with fail
  refine (mkLogRecordS_is _ Ag0 cg0 (lrT x) (lrT_len x) (1) (by omega) (by omega) _ Og0).mono ?_
  rintro e w7 ⟨rfl, M7_0, hg7⟩
  have HG7 := grownL_one hg7
  clear X1_0 X1_1 X1_2
  have z7 := HG7.size
  replace HB := HB.trans (HG7.below ing0 (by omega) HB.size)
  replace Ow0 := Ow0.keptL HG7 inw0 ing0 (by simp) (by omega)
  replace X1 := X1.keptL HG7 ing0 (by omega)
  have X1_0 := (X1.cell 0).trans (show _ = some (.string x.dur) from rfl)
  have X1_1 := (X1.cell 1).trans (show _ = some (.string x.pen) from rfl)
  have X1_2 := (X1.cell 2).trans (show _ = some (.int .i64 x.cnt) from rfl)
  go_wp2_with fail
  refine (hdLogRecordS_is Ag0 cg0 _ (lrT_len x) (1) (by omega) (by omega) _ (M7_0.rds.below (by repeat (first | exact Below.refl _ _ | refine Below.alloc ?_ (by first | exact Nat.le_refl _ | (simp <;> omega)) _ | refine Below.setCell ?_ (by first | exact Nat.le_refl _ | (simp <;> omega)) _)))).mono ?_
  rintro e w8 ⟨rfl, hb8⟩
  clear X1_0 X1_1 X1_2
  have hq8 : Below w7.heap.size w7 w8 := bth (by repeat (first | exact Below.refl _ _ | refine Below.alloc ?_ (by first | exact Nat.le_refl _ | (simp <;> omega)) _ | refine Below.setCell ?_ (by first | exact Nat.le_refl _ | (simp <;> omega)) _)) hb8
  have z8 := hq8.size
  replace HB := bth HB hq8
  replace Ow0 := Ow0.later hq8
  replace M7_0 := M7_0.later hq8
  replace X1 := X1.below hq8 X1.lt
  have X1_0 := (X1.cell 0).trans (show _ = some (.string x.dur) from rfl)
  have X1_1 := (X1.cell 1).trans (show _ = some (.string x.pen) from rfl)
  have X1_2 := (X1.cell 2).trans (show _ = some (.int .i64 x.cnt) from rfl)
  go_wp2_with fail
  refine (toLog_is x hx_t0 _ ).mono ?_
  rintro e w9 ⟨rfl, hb9⟩
  clear X1_0 X1_1 X1_2
  have hq9 : Below w8.heap.size w8 w9 := bth (by repeat (first | exact Below.refl _ _ | refine Below.alloc ?_ (by first | exact Nat.le_refl _ | (simp <;> omega)) _ | refine Below.setCell ?_ (by first | exact Nat.le_refl _ | (simp <;> omega)) _)) hb9
  have z9 := hq9.size
  replace HB := bth HB hq9
  replace Ow0 := Ow0.later hq9
  replace M7_0 := M7_0.later hq9
  replace X1 := X1.below hq9 X1.lt
  have X1_0 := (X1.cell 0).trans (show _ = some (.string x.dur) from rfl)
  have X1_1 := (X1.cell 1).trans (show _ = some (.string x.pen) from rfl)
  have X1_2 := (X1.cell 2).trans (show _ = some (.int .i64 x.cnt) from rfl)
  go_wp2_with fail
  refine (iLogRecordsR_is x hx_t0 _  (HT.below (bth HB (by repeat (first | exact Below.refl _ _ | refine Below.alloc ?_ (by first | exact Nat.le_refl _ | (simp <;> omega)) _ | refine Below.setCell ?_ (by first | exact Nat.le_refl _ | (simp <;> omega)) _))))).mono ?_
  rintro e w10 ⟨Ah0, ch0, rfl, Oh0, hb10⟩
  clear X1_0 X1_1 X1_2
  have hq10 : Below w9.heap.size w9 w10 := bth (by repeat (first | exact Below.refl _ _ | refine Below.alloc ?_ (by first | exact Nat.le_refl _ | (simp <;> omega)) _ | refine Below.setCell ?_ (by first | exact Nat.le_refl _ | (simp <;> omega)) _)) hb10
  have z10 := hq10.size
  replace HB := bth HB hq10
  replace Ow0 := Ow0.later hq10
  replace M7_0 := M7_0.later hq10
  replace X1 := X1.below hq10 X1.lt
  have inh0 : Within [.slice Ah0 (lrT x).length ch0] (w9.heap.size) (w10.heap.size) := by
    intro v hv k hk
    simp only [List.mem_cons, List.not_mem_nil, or_false] at hv
    subst hv
    have h := Oh0.lt k hk; (try simp at h); omega
  have X1_0 := (X1.cell 0).trans (show _ = some (.string x.dur) from rfl)
  have X1_1 := (X1.cell 1).trans (show _ = some (.string x.pen) from rfl)
  have X1_2 := (X1.cell 2).trans (show _ = some (.int .i64 x.cnt) from rfl)
  go_wp2_with fail
  refine (eqLogRecordS_is Ah0 Aw0 ch0 cw0 (lrT x) (lrT_len x) _ (Oh0.rds.below (by repeat (first | exact Below.refl _ _ | refine Below.alloc ?_ (by first | exact Nat.le_refl _ | (simp <;> omega)) _ | refine Below.setCell ?_ (by first | exact Nat.le_refl _ | (simp <;> omega)) _))) (Ow0.rds.below (by repeat (first | exact Below.refl _ _ | refine Below.alloc ?_ (by first | exact Nat.le_refl _ | (simp <;> omega)) _ | refine Below.setCell ?_ (by first | exact Nat.le_refl _ | (simp <;> omega)) _)))).mono ?_
  rintro e w11 ⟨rfl, hb11⟩
  clear X1_0 X1_1 X1_2
  have hq11 : Below w10.heap.size w10 w11 := bth (by repeat (first | exact Below.refl _ _ | refine Below.alloc ?_ (by first | exact Nat.le_refl _ | (simp <;> omega)) _ | refine Below.setCell ?_ (by first | exact Nat.le_refl _ | (simp <;> omega)) _)) hb11
  have z11 := hq11.size
  replace HB := bth HB hq11
  replace Ow0 := Ow0.later hq11
  replace M7_0 := M7_0.later hq11
  replace Oh0 := Oh0.later hq11
  replace X1 := X1.below hq11 X1.lt
  have X1_0 := (X1.cell 0).trans (show _ = some (.string x.dur) from rfl)
  have X1_1 := (X1.cell 1).trans (show _ = some (.string x.pen) from rfl)
  have X1_2 := (X1.cell 2).trans (show _ = some (.int .i64 x.cnt) from rfl)
  go_wp2_with fail
  refine (hdLogRecordS_is Ag0 cg0 _ (lrT_len x) (1) (by omega) (by omega) _ (M7_0.rds.below (by repeat (first | exact Below.refl _ _ | refine Below.alloc ?_ (by first | exact Nat.le_refl _ | (simp <;> omega)) _ | refine Below.setCell ?_ (by first | exact Nat.le_refl _ | (simp <;> omega)) _)))).mono ?_
  rintro e w12 ⟨rfl, hb12⟩
  clear X1_0 X1_1 X1_2
  have hq12 : Below w11.heap.size w11 w12 := bth (by repeat (first | exact Below.refl _ _ | refine Below.alloc ?_ (by first | exact Nat.le_refl _ | (simp <;> omega)) _ | refine Below.setCell ?_ (by first | exact Nat.le_refl _ | (simp <;> omega)) _)) hb12
  have z12 := hq12.size
  replace HB := bth HB hq12
  replace Ow0 := Ow0.later hq12
  replace M7_0 := M7_0.later hq12
  replace Oh0 := Oh0.later hq12
  replace X1 := X1.below hq12 X1.lt
  have X1_0 := (X1.cell 0).trans (show _ = some (.string x.dur) from rfl)
  have X1_1 := (X1.cell 1).trans (show _ = some (.string x.pen) from rfl)
  have X1_2 := (X1.cell 2).trans (show _ = some (.int .i64 x.cnt) from rfl)
  go_wp2
  go_ret
  exact ⟨rfl, bth HB (by repeat (first | exact Below.refl _ _ | refine Below.alloc ?_ (by first | exact Nat.le_refl _ | (simp <;> omega)) _ | refine Below.setCell ?_ (by first | exact Nat.le_refl _ | (simp <;> omega)) _))⟩
end Go.Proofs.YtpejnfhenpdobaaDoor
