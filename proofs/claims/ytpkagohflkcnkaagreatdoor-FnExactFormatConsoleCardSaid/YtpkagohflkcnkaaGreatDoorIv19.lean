/- A console's validity: its meeting's and its log's. -/
import Derived.Test.YtpkagohflkcnkaaGreatDoorIv13
import Derived.Test.YtpkagohflkcnkaaGreatDoorIv12
import Derived.Test.YtpkagohflkcnkaaGreatDoorIv18
import Derived.Deep.Cut
namespace Go.Proofs.YtpkagohflkcnkaaGreatDoor
open Go.RowKit Go.G9
def Con.log (x : Con) : LogT := ⟨x.dur, x.pen, x.cnt⟩
def conB (x : Con) : Bool := meetB x.mee && x.log.ok
theorem conB_no {x : Con} (h : meetB x.mee = false) : conB x = false := by rw [conB, h]; rfl
theorem conB_yes {x : Con} (h : meetB x.mee = true) : conB x = x.log.ok := by rw [conB, h]; rfl
set_option maxHeartbeats 4000000 in
set_option maxRecDepth 100000 in
theorem iIsValidConsole_is (x : Con) (A0 A1 A2 A3 A4 : Option Addr) (c0 c1 c2 c3 c4 : Nat) (h0 : x.rules.length ≤ 1048576) (h1 : x.pend.length ≤ 1048576) (h2 : x.wait.length ≤ 1048576) (h3 : x.shares.length ≤ 1048576) (h4 : x.outs.length ≤ 1048576) (hz : x.dur.size + x.pen.size ≤ 1048576) (v : Bool) (hv : conB x = v) (w : World) (R0 : Rds 7 Rul.cells w A0 x.rules) (R1 : Rds 3 Que.cells w A1 x.pend) (R2 : Rds 1 intC w A2 x.wait) (R3 : Rds 3 Sha.cells w A3 x.shares) (R4 : Rds 3 Out.cells w A4 x.outs) (k0 : x.rules.length ≤ c0) (k1 : x.pend.length ≤ c1) (k2 : x.wait.length ≤ c2) (k3 : x.shares.length ≤ c3) (k4 : x.outs.length ≤ c4) (HT : Tab w) :
  Calls Tryz.prog 8 #[.agg #[.slice A0 x.rules.length c0, .slice A1 x.pend.length c1, .int .i64 x.turns, .int .i64 x.secs, .int .i64 x.spk, .slice A2 x.wait.length c2, .slice A3 x.shares.length c3, .slice A4 x.outs.length c4, .string x.dur, .string x.pen, .int .i64 x.cnt]] w fun e w' => e = .returned (.bool v) ∧ Below w.heap.size w w' := by
  cases hm : meetB x.mee
  · have HV := Lib.hid hm
    rw [conB_no hm] at hv
    subst hv
    clear hm
    go_enter Tryz.func8, Tryz.ntmps8
    go_upto_region 1 with fail
    have hq1 : Below w.heap.size w (World.alloc w (.cells #[.slice A0 x.rules.length c0, .slice A1 x.pend.length c1, .int .i64 x.turns, .int .i64 x.secs, .int .i64 x.spk, .slice A2 x.wait.length c2, .slice A3 x.shares.length c3, .slice A4 x.outs.length c4, .string x.dur, .string x.pen, .int .i64 x.cnt] 47)) := bl1 w _
    have hX : Blk (World.alloc w (.cells #[.slice A0 x.rules.length c0, .slice A1 x.pend.length c1, .int .i64 x.turns, .int .i64 x.secs, .int .i64 x.spk, .slice A2 x.wait.length c2, .slice A3 x.shares.length c3, .slice A4 x.outs.length c4, .string x.dur, .string x.pen, .int .i64 x.cnt] 47)) (w.heap.size) 47 #[.slice A0 x.rules.length c0, .slice A1 x.pend.length c1, .int .i64 x.turns, .int .i64 x.secs, .int .i64 x.spk, .slice A2 x.wait.length c2, .slice A3 x.shares.length c3, .slice A4 x.outs.length c4, .string x.dur, .string x.pen, .int .i64 x.cnt] := by repeat (first | exact Blk.new _ _ _ | exact Blk.new2 _ _ _ _ | exact Blk.new3 _ _ _ _ _ | exact Blk.new4 _ _ _ _ _ _ | refine Blk.alloc ?_ _)
    replace R0 := R0.below hq1
    replace R1 := R1.below hq1
    replace R2 := R2.below hq1
    replace R3 := R3.below hq1
    replace R4 := R4.below hq1
    replace HT := HT.below hq1
    generalize World.alloc w (.cells #[.slice A0 x.rules.length c0, .slice A1 x.pend.length c1, .int .i64 x.turns, .int .i64 x.secs, .int .i64 x.spk, .slice A2 x.wait.length c2, .slice A3 x.shares.length c3, .slice A4 x.outs.length c4, .string x.dur, .string x.pen, .int .i64 x.cnt] 47) = wX at *
    have HB := hq1
    have z0 := (hX.cell 0).trans (show _ = some (.slice A0 x.rules.length c0) from rfl)
    have z1 := (hX.cell 1).trans (show _ = some (.slice A1 x.pend.length c1) from rfl)
    have z2 := (hX.cell 2).trans (show _ = some (.int .i64 x.turns) from rfl)
    have z3 := (hX.cell 3).trans (show _ = some (.int .i64 x.secs) from rfl)
    have z4 := (hX.cell 4).trans (show _ = some (.int .i64 x.spk) from rfl)
    have z5 := (hX.cell 5).trans (show _ = some (.slice A2 x.wait.length c2) from rfl)
    have z6 := (hX.cell 6).trans (show _ = some (.slice A3 x.shares.length c3) from rfl)
    have z7 := (hX.cell 7).trans (show _ = some (.slice A4 x.outs.length c4) from rfl)
    have z8 := (hX.cell 8).trans (show _ = some (.string x.dur) from rfl)
    have z9 := (hX.cell 9).trans (show _ = some (.string x.pen) from rfl)
    have z10 := (hX.cell 10).trans (show _ = some (.int .i64 x.cnt) from rfl)
    have yhX := hX.lt
    go_wp2_with fail
    refine (iIsValidMeeting_is x.mee A0 A1 A2 A3 A4 c0 c1 c2 c3 c4 h0 h1 h2 h3 h4 _ HV.out _ (R0.below (by repeat (first | exact Below.refl _ _ | refine Below.alloc ?_ (by first | exact Nat.le_refl _ | (simp <;> omega)) _ | refine Below.setCell ?_ (by first | exact Nat.le_refl _ | (simp <;> omega)) _))) (R1.below (by repeat (first | exact Below.refl _ _ | refine Below.alloc ?_ (by first | exact Nat.le_refl _ | (simp <;> omega)) _ | refine Below.setCell ?_ (by first | exact Nat.le_refl _ | (simp <;> omega)) _))) (R2.below (by repeat (first | exact Below.refl _ _ | refine Below.alloc ?_ (by first | exact Nat.le_refl _ | (simp <;> omega)) _ | refine Below.setCell ?_ (by first | exact Nat.le_refl _ | (simp <;> omega)) _))) (R3.below (by repeat (first | exact Below.refl _ _ | refine Below.alloc ?_ (by first | exact Nat.le_refl _ | (simp <;> omega)) _ | refine Below.setCell ?_ (by first | exact Nat.le_refl _ | (simp <;> omega)) _))) (R4.below (by repeat (first | exact Below.refl _ _ | refine Below.alloc ?_ (by first | exact Nat.le_refl _ | (simp <;> omega)) _ | refine Below.setCell ?_ (by first | exact Nat.le_refl _ | (simp <;> omega)) _))) k0 k1 k2 k3 k4).mono ?_
    rintro e w2 ⟨rfl, hb2⟩
    have hq2 : Below wX.heap.size wX w2 := bth (by repeat (first | exact Below.refl _ _ | refine Below.alloc ?_ (by first | exact Nat.le_refl _ | (simp <;> omega)) _ | refine Below.setCell ?_ (by first | exact Nat.le_refl _ | (simp <;> omega)) _)) hb2
    replace HB := bth HB hq2
    replace R0 := R0.below hq2
    replace R1 := R1.below hq2
    replace R2 := R2.below hq2
    replace R3 := R3.below hq2
    replace R4 := R4.below hq2
    replace HT := HT.below hq2
    replace hX := hX.below hq2 hX.lt
    replace z0 := (hX.cell 0).trans (show _ = some (.slice A0 x.rules.length c0) from rfl)
    replace z1 := (hX.cell 1).trans (show _ = some (.slice A1 x.pend.length c1) from rfl)
    replace z2 := (hX.cell 2).trans (show _ = some (.int .i64 x.turns) from rfl)
    replace z3 := (hX.cell 3).trans (show _ = some (.int .i64 x.secs) from rfl)
    replace z4 := (hX.cell 4).trans (show _ = some (.int .i64 x.spk) from rfl)
    replace z5 := (hX.cell 5).trans (show _ = some (.slice A2 x.wait.length c2) from rfl)
    replace z6 := (hX.cell 6).trans (show _ = some (.slice A3 x.shares.length c3) from rfl)
    replace z7 := (hX.cell 7).trans (show _ = some (.slice A4 x.outs.length c4) from rfl)
    replace z8 := (hX.cell 8).trans (show _ = some (.string x.dur) from rfl)
    replace z9 := (hX.cell 9).trans (show _ = some (.string x.pen) from rfl)
    replace z10 := (hX.cell 10).trans (show _ = some (.int .i64 x.cnt) from rfl)
    go_wp2
    go_ret
    exact ⟨rfl, (bth HB (by repeat (first | exact Below.refl _ _ | refine Below.alloc ?_ (by first | exact Nat.le_refl _ | (simp <;> omega)) _ | refine Below.setCell ?_ (by first | exact Nat.le_refl _ | (simp <;> omega)) _)))⟩
  · have HV := Lib.hid hm
    rw [conB_yes hm] at hv
    subst hv
    clear hm
    go_enter Tryz.func8, Tryz.ntmps8
    go_upto_region 1 with fail
    have hq1 : Below w.heap.size w (World.alloc w (.cells #[.slice A0 x.rules.length c0, .slice A1 x.pend.length c1, .int .i64 x.turns, .int .i64 x.secs, .int .i64 x.spk, .slice A2 x.wait.length c2, .slice A3 x.shares.length c3, .slice A4 x.outs.length c4, .string x.dur, .string x.pen, .int .i64 x.cnt] 47)) := bl1 w _
    have hX : Blk (World.alloc w (.cells #[.slice A0 x.rules.length c0, .slice A1 x.pend.length c1, .int .i64 x.turns, .int .i64 x.secs, .int .i64 x.spk, .slice A2 x.wait.length c2, .slice A3 x.shares.length c3, .slice A4 x.outs.length c4, .string x.dur, .string x.pen, .int .i64 x.cnt] 47)) (w.heap.size) 47 #[.slice A0 x.rules.length c0, .slice A1 x.pend.length c1, .int .i64 x.turns, .int .i64 x.secs, .int .i64 x.spk, .slice A2 x.wait.length c2, .slice A3 x.shares.length c3, .slice A4 x.outs.length c4, .string x.dur, .string x.pen, .int .i64 x.cnt] := by repeat (first | exact Blk.new _ _ _ | exact Blk.new2 _ _ _ _ | exact Blk.new3 _ _ _ _ _ | exact Blk.new4 _ _ _ _ _ _ | refine Blk.alloc ?_ _)
    replace R0 := R0.below hq1
    replace R1 := R1.below hq1
    replace R2 := R2.below hq1
    replace R3 := R3.below hq1
    replace R4 := R4.below hq1
    replace HT := HT.below hq1
    generalize World.alloc w (.cells #[.slice A0 x.rules.length c0, .slice A1 x.pend.length c1, .int .i64 x.turns, .int .i64 x.secs, .int .i64 x.spk, .slice A2 x.wait.length c2, .slice A3 x.shares.length c3, .slice A4 x.outs.length c4, .string x.dur, .string x.pen, .int .i64 x.cnt] 47) = wX at *
    have HB := hq1
    have z0 := (hX.cell 0).trans (show _ = some (.slice A0 x.rules.length c0) from rfl)
    have z1 := (hX.cell 1).trans (show _ = some (.slice A1 x.pend.length c1) from rfl)
    have z2 := (hX.cell 2).trans (show _ = some (.int .i64 x.turns) from rfl)
    have z3 := (hX.cell 3).trans (show _ = some (.int .i64 x.secs) from rfl)
    have z4 := (hX.cell 4).trans (show _ = some (.int .i64 x.spk) from rfl)
    have z5 := (hX.cell 5).trans (show _ = some (.slice A2 x.wait.length c2) from rfl)
    have z6 := (hX.cell 6).trans (show _ = some (.slice A3 x.shares.length c3) from rfl)
    have z7 := (hX.cell 7).trans (show _ = some (.slice A4 x.outs.length c4) from rfl)
    have z8 := (hX.cell 8).trans (show _ = some (.string x.dur) from rfl)
    have z9 := (hX.cell 9).trans (show _ = some (.string x.pen) from rfl)
    have z10 := (hX.cell 10).trans (show _ = some (.int .i64 x.cnt) from rfl)
    have yhX := hX.lt
    go_wp2_with fail
    refine (iIsValidMeeting_is x.mee A0 A1 A2 A3 A4 c0 c1 c2 c3 c4 h0 h1 h2 h3 h4 _ HV.out _ (R0.below (by repeat (first | exact Below.refl _ _ | refine Below.alloc ?_ (by first | exact Nat.le_refl _ | (simp <;> omega)) _ | refine Below.setCell ?_ (by first | exact Nat.le_refl _ | (simp <;> omega)) _))) (R1.below (by repeat (first | exact Below.refl _ _ | refine Below.alloc ?_ (by first | exact Nat.le_refl _ | (simp <;> omega)) _ | refine Below.setCell ?_ (by first | exact Nat.le_refl _ | (simp <;> omega)) _))) (R2.below (by repeat (first | exact Below.refl _ _ | refine Below.alloc ?_ (by first | exact Nat.le_refl _ | (simp <;> omega)) _ | refine Below.setCell ?_ (by first | exact Nat.le_refl _ | (simp <;> omega)) _))) (R3.below (by repeat (first | exact Below.refl _ _ | refine Below.alloc ?_ (by first | exact Nat.le_refl _ | (simp <;> omega)) _ | refine Below.setCell ?_ (by first | exact Nat.le_refl _ | (simp <;> omega)) _))) (R4.below (by repeat (first | exact Below.refl _ _ | refine Below.alloc ?_ (by first | exact Nat.le_refl _ | (simp <;> omega)) _ | refine Below.setCell ?_ (by first | exact Nat.le_refl _ | (simp <;> omega)) _))) k0 k1 k2 k3 k4).mono ?_
    rintro e w2 ⟨rfl, hb2⟩
    have hq2 : Below wX.heap.size wX w2 := bth (by repeat (first | exact Below.refl _ _ | refine Below.alloc ?_ (by first | exact Nat.le_refl _ | (simp <;> omega)) _ | refine Below.setCell ?_ (by first | exact Nat.le_refl _ | (simp <;> omega)) _)) hb2
    replace HB := bth HB hq2
    replace R0 := R0.below hq2
    replace R1 := R1.below hq2
    replace R2 := R2.below hq2
    replace R3 := R3.below hq2
    replace R4 := R4.below hq2
    replace HT := HT.below hq2
    replace hX := hX.below hq2 hX.lt
    replace z0 := (hX.cell 0).trans (show _ = some (.slice A0 x.rules.length c0) from rfl)
    replace z1 := (hX.cell 1).trans (show _ = some (.slice A1 x.pend.length c1) from rfl)
    replace z2 := (hX.cell 2).trans (show _ = some (.int .i64 x.turns) from rfl)
    replace z3 := (hX.cell 3).trans (show _ = some (.int .i64 x.secs) from rfl)
    replace z4 := (hX.cell 4).trans (show _ = some (.int .i64 x.spk) from rfl)
    replace z5 := (hX.cell 5).trans (show _ = some (.slice A2 x.wait.length c2) from rfl)
    replace z6 := (hX.cell 6).trans (show _ = some (.slice A3 x.shares.length c3) from rfl)
    replace z7 := (hX.cell 7).trans (show _ = some (.slice A4 x.outs.length c4) from rfl)
    replace z8 := (hX.cell 8).trans (show _ = some (.string x.dur) from rfl)
    replace z9 := (hX.cell 9).trans (show _ = some (.string x.pen) from rfl)
    replace z10 := (hX.cell 10).trans (show _ = some (.int .i64 x.cnt) from rfl)
    have yhX := hX.lt
    go_wp2_with fail
    refine (iIsValidLogT_is x.log hz _ (HT.below (by repeat (first | exact Below.refl _ _ | refine Below.alloc ?_ (by first | exact Nat.le_refl _ | (simp <;> omega)) _ | refine Below.setCell ?_ (by first | exact Nat.le_refl _ | (simp <;> omega)) _)))).mono ?_
    rintro e w3 ⟨rfl, hb3⟩
    have hq3 : Below w2.heap.size w2 w3 := bth (by repeat (first | exact Below.refl _ _ | refine Below.alloc ?_ (by first | exact Nat.le_refl _ | (simp <;> omega)) _ | refine Below.setCell ?_ (by first | exact Nat.le_refl _ | (simp <;> omega)) _)) hb3
    replace HB := bth HB hq3
    replace R0 := R0.below hq3
    replace R1 := R1.below hq3
    replace R2 := R2.below hq3
    replace R3 := R3.below hq3
    replace R4 := R4.below hq3
    replace HT := HT.below hq3
    replace hX := hX.below hq3 hX.lt
    replace z0 := (hX.cell 0).trans (show _ = some (.slice A0 x.rules.length c0) from rfl)
    replace z1 := (hX.cell 1).trans (show _ = some (.slice A1 x.pend.length c1) from rfl)
    replace z2 := (hX.cell 2).trans (show _ = some (.int .i64 x.turns) from rfl)
    replace z3 := (hX.cell 3).trans (show _ = some (.int .i64 x.secs) from rfl)
    replace z4 := (hX.cell 4).trans (show _ = some (.int .i64 x.spk) from rfl)
    replace z5 := (hX.cell 5).trans (show _ = some (.slice A2 x.wait.length c2) from rfl)
    replace z6 := (hX.cell 6).trans (show _ = some (.slice A3 x.shares.length c3) from rfl)
    replace z7 := (hX.cell 7).trans (show _ = some (.slice A4 x.outs.length c4) from rfl)
    replace z8 := (hX.cell 8).trans (show _ = some (.string x.dur) from rfl)
    replace z9 := (hX.cell 9).trans (show _ = some (.string x.pen) from rfl)
    replace z10 := (hX.cell 10).trans (show _ = some (.int .i64 x.cnt) from rfl)
    go_wp2
    go_ret
    exact ⟨rfl, (bth HB (by repeat (first | exact Below.refl _ _ | refine Below.alloc ?_ (by first | exact Nat.le_refl _ | (simp <;> omega)) _ | refine Below.setCell ?_ (by first | exact Nat.le_refl _ | (simp <;> omega)) _)))⟩
set_option maxHeartbeats 4000000 in
set_option maxRecDepth 100000 in
theorem l28Good_is (x : Con) (A0 A1 A2 A3 A4 : Option Addr) (c0 c1 c2 c3 c4 : Nat) (h0 : x.rules.length ≤ 1048576) (h1 : x.pend.length ≤ 1048576) (h2 : x.wait.length ≤ 1048576) (h3 : x.shares.length ≤ 1048576) (h4 : x.outs.length ≤ 1048576) (hz : x.dur.size + x.pen.size ≤ 1048576) (v : Bool) (hv : conB x = v) (w : World) (R0 : Rds 7 Rul.cells w A0 x.rules) (R1 : Rds 3 Que.cells w A1 x.pend) (R2 : Rds 1 intC w A2 x.wait) (R3 : Rds 3 Sha.cells w A3 x.shares) (R4 : Rds 3 Out.cells w A4 x.outs) (k0 : x.rules.length ≤ c0) (k1 : x.pend.length ≤ c1) (k2 : x.wait.length ≤ c2) (k3 : x.shares.length ≤ c3) (k4 : x.outs.length ≤ c4) :
  Calls Tryz.prog 14 #[.agg #[.slice A0 x.rules.length c0, .slice A1 x.pend.length c1, .int .i64 x.turns, .int .i64 x.secs, .int .i64 x.spk, .slice A2 x.wait.length c2, .slice A3 x.shares.length c3, .slice A4 x.outs.length c4, .string x.dur, .string x.pen, .int .i64 x.cnt]] w fun e w' => e = .returned (.bool v) ∧ Below w.heap.size w w' := by
  cases hm : meetB x.mee
  · have HV := Lib.hid hm
    rw [conB_no hm] at hv
    subst hv
    clear hm
    go_enter Tryz.func14, Tryz.ntmps14
    go_upto_region 1 with fail
    have hq1 : Below w.heap.size w (World.alloc w (.cells #[.slice A0 x.rules.length c0, .slice A1 x.pend.length c1, .int .i64 x.turns, .int .i64 x.secs, .int .i64 x.spk, .slice A2 x.wait.length c2, .slice A3 x.shares.length c3, .slice A4 x.outs.length c4, .string x.dur, .string x.pen, .int .i64 x.cnt] 47)) := bl1 w _
    have hX : Blk (World.alloc w (.cells #[.slice A0 x.rules.length c0, .slice A1 x.pend.length c1, .int .i64 x.turns, .int .i64 x.secs, .int .i64 x.spk, .slice A2 x.wait.length c2, .slice A3 x.shares.length c3, .slice A4 x.outs.length c4, .string x.dur, .string x.pen, .int .i64 x.cnt] 47)) (w.heap.size) 47 #[.slice A0 x.rules.length c0, .slice A1 x.pend.length c1, .int .i64 x.turns, .int .i64 x.secs, .int .i64 x.spk, .slice A2 x.wait.length c2, .slice A3 x.shares.length c3, .slice A4 x.outs.length c4, .string x.dur, .string x.pen, .int .i64 x.cnt] := by repeat (first | exact Blk.new _ _ _ | exact Blk.new2 _ _ _ _ | exact Blk.new3 _ _ _ _ _ | exact Blk.new4 _ _ _ _ _ _ | refine Blk.alloc ?_ _)
    replace R0 := R0.below hq1
    replace R1 := R1.below hq1
    replace R2 := R2.below hq1
    replace R3 := R3.below hq1
    replace R4 := R4.below hq1
    generalize World.alloc w (.cells #[.slice A0 x.rules.length c0, .slice A1 x.pend.length c1, .int .i64 x.turns, .int .i64 x.secs, .int .i64 x.spk, .slice A2 x.wait.length c2, .slice A3 x.shares.length c3, .slice A4 x.outs.length c4, .string x.dur, .string x.pen, .int .i64 x.cnt] 47) = wX at *
    have HB := hq1
    have z0 := (hX.cell 0).trans (show _ = some (.slice A0 x.rules.length c0) from rfl)
    have z1 := (hX.cell 1).trans (show _ = some (.slice A1 x.pend.length c1) from rfl)
    have z2 := (hX.cell 2).trans (show _ = some (.int .i64 x.turns) from rfl)
    have z3 := (hX.cell 3).trans (show _ = some (.int .i64 x.secs) from rfl)
    have z4 := (hX.cell 4).trans (show _ = some (.int .i64 x.spk) from rfl)
    have z5 := (hX.cell 5).trans (show _ = some (.slice A2 x.wait.length c2) from rfl)
    have z6 := (hX.cell 6).trans (show _ = some (.slice A3 x.shares.length c3) from rfl)
    have z7 := (hX.cell 7).trans (show _ = some (.slice A4 x.outs.length c4) from rfl)
    have z8 := (hX.cell 8).trans (show _ = some (.string x.dur) from rfl)
    have z9 := (hX.cell 9).trans (show _ = some (.string x.pen) from rfl)
    have z10 := (hX.cell 10).trans (show _ = some (.int .i64 x.cnt) from rfl)
    have yhX := hX.lt
    go_wp2_with fail
    refine (l25Good_is x.mee A0 A1 A2 A3 A4 c0 c1 c2 c3 c4 h0 h1 h2 h3 h4 _ HV.out _ (R0.below (by repeat (first | exact Below.refl _ _ | refine Below.alloc ?_ (by first | exact Nat.le_refl _ | (simp <;> omega)) _ | refine Below.setCell ?_ (by first | exact Nat.le_refl _ | (simp <;> omega)) _))) (R1.below (by repeat (first | exact Below.refl _ _ | refine Below.alloc ?_ (by first | exact Nat.le_refl _ | (simp <;> omega)) _ | refine Below.setCell ?_ (by first | exact Nat.le_refl _ | (simp <;> omega)) _))) (R2.below (by repeat (first | exact Below.refl _ _ | refine Below.alloc ?_ (by first | exact Nat.le_refl _ | (simp <;> omega)) _ | refine Below.setCell ?_ (by first | exact Nat.le_refl _ | (simp <;> omega)) _))) (R3.below (by repeat (first | exact Below.refl _ _ | refine Below.alloc ?_ (by first | exact Nat.le_refl _ | (simp <;> omega)) _ | refine Below.setCell ?_ (by first | exact Nat.le_refl _ | (simp <;> omega)) _))) (R4.below (by repeat (first | exact Below.refl _ _ | refine Below.alloc ?_ (by first | exact Nat.le_refl _ | (simp <;> omega)) _ | refine Below.setCell ?_ (by first | exact Nat.le_refl _ | (simp <;> omega)) _))) k0 k1 k2 k3 k4).mono ?_
    rintro e w2 ⟨rfl, hb2⟩
    have hq2 : Below wX.heap.size wX w2 := bth (by repeat (first | exact Below.refl _ _ | refine Below.alloc ?_ (by first | exact Nat.le_refl _ | (simp <;> omega)) _ | refine Below.setCell ?_ (by first | exact Nat.le_refl _ | (simp <;> omega)) _)) hb2
    replace HB := bth HB hq2
    replace R0 := R0.below hq2
    replace R1 := R1.below hq2
    replace R2 := R2.below hq2
    replace R3 := R3.below hq2
    replace R4 := R4.below hq2
    replace hX := hX.below hq2 hX.lt
    replace z0 := (hX.cell 0).trans (show _ = some (.slice A0 x.rules.length c0) from rfl)
    replace z1 := (hX.cell 1).trans (show _ = some (.slice A1 x.pend.length c1) from rfl)
    replace z2 := (hX.cell 2).trans (show _ = some (.int .i64 x.turns) from rfl)
    replace z3 := (hX.cell 3).trans (show _ = some (.int .i64 x.secs) from rfl)
    replace z4 := (hX.cell 4).trans (show _ = some (.int .i64 x.spk) from rfl)
    replace z5 := (hX.cell 5).trans (show _ = some (.slice A2 x.wait.length c2) from rfl)
    replace z6 := (hX.cell 6).trans (show _ = some (.slice A3 x.shares.length c3) from rfl)
    replace z7 := (hX.cell 7).trans (show _ = some (.slice A4 x.outs.length c4) from rfl)
    replace z8 := (hX.cell 8).trans (show _ = some (.string x.dur) from rfl)
    replace z9 := (hX.cell 9).trans (show _ = some (.string x.pen) from rfl)
    replace z10 := (hX.cell 10).trans (show _ = some (.int .i64 x.cnt) from rfl)
    go_wp2
    go_ret
    exact ⟨rfl, (bth HB (by repeat (first | exact Below.refl _ _ | refine Below.alloc ?_ (by first | exact Nat.le_refl _ | (simp <;> omega)) _ | refine Below.setCell ?_ (by first | exact Nat.le_refl _ | (simp <;> omega)) _)))⟩
  · have HV := Lib.hid hm
    rw [conB_yes hm] at hv
    subst hv
    clear hm
    go_enter Tryz.func14, Tryz.ntmps14
    go_upto_region 1 with fail
    have hq1 : Below w.heap.size w (World.alloc w (.cells #[.slice A0 x.rules.length c0, .slice A1 x.pend.length c1, .int .i64 x.turns, .int .i64 x.secs, .int .i64 x.spk, .slice A2 x.wait.length c2, .slice A3 x.shares.length c3, .slice A4 x.outs.length c4, .string x.dur, .string x.pen, .int .i64 x.cnt] 47)) := bl1 w _
    have hX : Blk (World.alloc w (.cells #[.slice A0 x.rules.length c0, .slice A1 x.pend.length c1, .int .i64 x.turns, .int .i64 x.secs, .int .i64 x.spk, .slice A2 x.wait.length c2, .slice A3 x.shares.length c3, .slice A4 x.outs.length c4, .string x.dur, .string x.pen, .int .i64 x.cnt] 47)) (w.heap.size) 47 #[.slice A0 x.rules.length c0, .slice A1 x.pend.length c1, .int .i64 x.turns, .int .i64 x.secs, .int .i64 x.spk, .slice A2 x.wait.length c2, .slice A3 x.shares.length c3, .slice A4 x.outs.length c4, .string x.dur, .string x.pen, .int .i64 x.cnt] := by repeat (first | exact Blk.new _ _ _ | exact Blk.new2 _ _ _ _ | exact Blk.new3 _ _ _ _ _ | exact Blk.new4 _ _ _ _ _ _ | refine Blk.alloc ?_ _)
    replace R0 := R0.below hq1
    replace R1 := R1.below hq1
    replace R2 := R2.below hq1
    replace R3 := R3.below hq1
    replace R4 := R4.below hq1
    generalize World.alloc w (.cells #[.slice A0 x.rules.length c0, .slice A1 x.pend.length c1, .int .i64 x.turns, .int .i64 x.secs, .int .i64 x.spk, .slice A2 x.wait.length c2, .slice A3 x.shares.length c3, .slice A4 x.outs.length c4, .string x.dur, .string x.pen, .int .i64 x.cnt] 47) = wX at *
    have HB := hq1
    have z0 := (hX.cell 0).trans (show _ = some (.slice A0 x.rules.length c0) from rfl)
    have z1 := (hX.cell 1).trans (show _ = some (.slice A1 x.pend.length c1) from rfl)
    have z2 := (hX.cell 2).trans (show _ = some (.int .i64 x.turns) from rfl)
    have z3 := (hX.cell 3).trans (show _ = some (.int .i64 x.secs) from rfl)
    have z4 := (hX.cell 4).trans (show _ = some (.int .i64 x.spk) from rfl)
    have z5 := (hX.cell 5).trans (show _ = some (.slice A2 x.wait.length c2) from rfl)
    have z6 := (hX.cell 6).trans (show _ = some (.slice A3 x.shares.length c3) from rfl)
    have z7 := (hX.cell 7).trans (show _ = some (.slice A4 x.outs.length c4) from rfl)
    have z8 := (hX.cell 8).trans (show _ = some (.string x.dur) from rfl)
    have z9 := (hX.cell 9).trans (show _ = some (.string x.pen) from rfl)
    have z10 := (hX.cell 10).trans (show _ = some (.int .i64 x.cnt) from rfl)
    have yhX := hX.lt
    go_wp2_with fail
    refine (l25Good_is x.mee A0 A1 A2 A3 A4 c0 c1 c2 c3 c4 h0 h1 h2 h3 h4 _ HV.out _ (R0.below (by repeat (first | exact Below.refl _ _ | refine Below.alloc ?_ (by first | exact Nat.le_refl _ | (simp <;> omega)) _ | refine Below.setCell ?_ (by first | exact Nat.le_refl _ | (simp <;> omega)) _))) (R1.below (by repeat (first | exact Below.refl _ _ | refine Below.alloc ?_ (by first | exact Nat.le_refl _ | (simp <;> omega)) _ | refine Below.setCell ?_ (by first | exact Nat.le_refl _ | (simp <;> omega)) _))) (R2.below (by repeat (first | exact Below.refl _ _ | refine Below.alloc ?_ (by first | exact Nat.le_refl _ | (simp <;> omega)) _ | refine Below.setCell ?_ (by first | exact Nat.le_refl _ | (simp <;> omega)) _))) (R3.below (by repeat (first | exact Below.refl _ _ | refine Below.alloc ?_ (by first | exact Nat.le_refl _ | (simp <;> omega)) _ | refine Below.setCell ?_ (by first | exact Nat.le_refl _ | (simp <;> omega)) _))) (R4.below (by repeat (first | exact Below.refl _ _ | refine Below.alloc ?_ (by first | exact Nat.le_refl _ | (simp <;> omega)) _ | refine Below.setCell ?_ (by first | exact Nat.le_refl _ | (simp <;> omega)) _))) k0 k1 k2 k3 k4).mono ?_
    rintro e w2 ⟨rfl, hb2⟩
    have hq2 : Below wX.heap.size wX w2 := bth (by repeat (first | exact Below.refl _ _ | refine Below.alloc ?_ (by first | exact Nat.le_refl _ | (simp <;> omega)) _ | refine Below.setCell ?_ (by first | exact Nat.le_refl _ | (simp <;> omega)) _)) hb2
    replace HB := bth HB hq2
    replace R0 := R0.below hq2
    replace R1 := R1.below hq2
    replace R2 := R2.below hq2
    replace R3 := R3.below hq2
    replace R4 := R4.below hq2
    replace hX := hX.below hq2 hX.lt
    replace z0 := (hX.cell 0).trans (show _ = some (.slice A0 x.rules.length c0) from rfl)
    replace z1 := (hX.cell 1).trans (show _ = some (.slice A1 x.pend.length c1) from rfl)
    replace z2 := (hX.cell 2).trans (show _ = some (.int .i64 x.turns) from rfl)
    replace z3 := (hX.cell 3).trans (show _ = some (.int .i64 x.secs) from rfl)
    replace z4 := (hX.cell 4).trans (show _ = some (.int .i64 x.spk) from rfl)
    replace z5 := (hX.cell 5).trans (show _ = some (.slice A2 x.wait.length c2) from rfl)
    replace z6 := (hX.cell 6).trans (show _ = some (.slice A3 x.shares.length c3) from rfl)
    replace z7 := (hX.cell 7).trans (show _ = some (.slice A4 x.outs.length c4) from rfl)
    replace z8 := (hX.cell 8).trans (show _ = some (.string x.dur) from rfl)
    replace z9 := (hX.cell 9).trans (show _ = some (.string x.pen) from rfl)
    replace z10 := (hX.cell 10).trans (show _ = some (.int .i64 x.cnt) from rfl)
    have yhX := hX.lt
    go_wp2_with fail
    refine (l27LogT_is x.log hz _).mono ?_
    rintro e w3 ⟨rfl, hb3⟩
    have hq3 : Below w2.heap.size w2 w3 := bth (by repeat (first | exact Below.refl _ _ | refine Below.alloc ?_ (by first | exact Nat.le_refl _ | (simp <;> omega)) _ | refine Below.setCell ?_ (by first | exact Nat.le_refl _ | (simp <;> omega)) _)) hb3
    replace HB := bth HB hq3
    replace R0 := R0.below hq3
    replace R1 := R1.below hq3
    replace R2 := R2.below hq3
    replace R3 := R3.below hq3
    replace R4 := R4.below hq3
    replace hX := hX.below hq3 hX.lt
    replace z0 := (hX.cell 0).trans (show _ = some (.slice A0 x.rules.length c0) from rfl)
    replace z1 := (hX.cell 1).trans (show _ = some (.slice A1 x.pend.length c1) from rfl)
    replace z2 := (hX.cell 2).trans (show _ = some (.int .i64 x.turns) from rfl)
    replace z3 := (hX.cell 3).trans (show _ = some (.int .i64 x.secs) from rfl)
    replace z4 := (hX.cell 4).trans (show _ = some (.int .i64 x.spk) from rfl)
    replace z5 := (hX.cell 5).trans (show _ = some (.slice A2 x.wait.length c2) from rfl)
    replace z6 := (hX.cell 6).trans (show _ = some (.slice A3 x.shares.length c3) from rfl)
    replace z7 := (hX.cell 7).trans (show _ = some (.slice A4 x.outs.length c4) from rfl)
    replace z8 := (hX.cell 8).trans (show _ = some (.string x.dur) from rfl)
    replace z9 := (hX.cell 9).trans (show _ = some (.string x.pen) from rfl)
    replace z10 := (hX.cell 10).trans (show _ = some (.int .i64 x.cnt) from rfl)
    go_wp2
    go_ret
    exact ⟨rfl, (bth HB (by repeat (first | exact Below.refl _ _ | refine Below.alloc ?_ (by first | exact Nat.le_refl _ | (simp <;> omega)) _ | refine Below.setCell ?_ (by first | exact Nat.le_refl _ | (simp <;> omega)) _)))⟩
set_option maxHeartbeats 4000000 in
set_option maxRecDepth 100000 in
theorem sIsValidConsole_is (x : Con) (A0 A1 A2 A3 A4 : Option Addr) (c0 c1 c2 c3 c4 : Nat) (h0 : x.rules.length ≤ 1048576) (h1 : x.pend.length ≤ 1048576) (h2 : x.wait.length ≤ 1048576) (h3 : x.shares.length ≤ 1048576) (h4 : x.outs.length ≤ 1048576) (hz : x.dur.size + x.pen.size ≤ 1048576) (v : Bool) (hv : conB x = v) (w : World) (R0 : Rds 7 Rul.cells w A0 x.rules) (R1 : Rds 3 Que.cells w A1 x.pend) (R2 : Rds 1 intC w A2 x.wait) (R3 : Rds 3 Sha.cells w A3 x.shares) (R4 : Rds 3 Out.cells w A4 x.outs) (k0 : x.rules.length ≤ c0) (k1 : x.pend.length ≤ c1) (k2 : x.wait.length ≤ c2) (k3 : x.shares.length ≤ c3) (k4 : x.outs.length ≤ c4) :
  Calls Tryz.prog 6 #[.agg #[.slice A0 x.rules.length c0, .slice A1 x.pend.length c1, .int .i64 x.turns, .int .i64 x.secs, .int .i64 x.spk, .slice A2 x.wait.length c2, .slice A3 x.shares.length c3, .slice A4 x.outs.length c4, .string x.dur, .string x.pen, .int .i64 x.cnt]] w fun e w' => e = .returned (.bool v) ∧ Below w.heap.size w w' := by
  go_enter Tryz.func6, Tryz.ntmps6
  go_upto_region 1 with fail
  have hq1 : Below w.heap.size w (World.alloc w (.cells #[.slice A0 x.rules.length c0, .slice A1 x.pend.length c1, .int .i64 x.turns, .int .i64 x.secs, .int .i64 x.spk, .slice A2 x.wait.length c2, .slice A3 x.shares.length c3, .slice A4 x.outs.length c4, .string x.dur, .string x.pen, .int .i64 x.cnt] 47)) := bl1 w _
  have hX : Blk (World.alloc w (.cells #[.slice A0 x.rules.length c0, .slice A1 x.pend.length c1, .int .i64 x.turns, .int .i64 x.secs, .int .i64 x.spk, .slice A2 x.wait.length c2, .slice A3 x.shares.length c3, .slice A4 x.outs.length c4, .string x.dur, .string x.pen, .int .i64 x.cnt] 47)) (w.heap.size) 47 #[.slice A0 x.rules.length c0, .slice A1 x.pend.length c1, .int .i64 x.turns, .int .i64 x.secs, .int .i64 x.spk, .slice A2 x.wait.length c2, .slice A3 x.shares.length c3, .slice A4 x.outs.length c4, .string x.dur, .string x.pen, .int .i64 x.cnt] := by repeat (first | exact Blk.new _ _ _ | exact Blk.new2 _ _ _ _ | exact Blk.new3 _ _ _ _ _ | exact Blk.new4 _ _ _ _ _ _ | refine Blk.alloc ?_ _)
  replace R0 := R0.below hq1
  replace R1 := R1.below hq1
  replace R2 := R2.below hq1
  replace R3 := R3.below hq1
  replace R4 := R4.below hq1
  generalize World.alloc w (.cells #[.slice A0 x.rules.length c0, .slice A1 x.pend.length c1, .int .i64 x.turns, .int .i64 x.secs, .int .i64 x.spk, .slice A2 x.wait.length c2, .slice A3 x.shares.length c3, .slice A4 x.outs.length c4, .string x.dur, .string x.pen, .int .i64 x.cnt] 47) = wX at *
  have HB := hq1
  have z0 := (hX.cell 0).trans (show _ = some (.slice A0 x.rules.length c0) from rfl)
  have z1 := (hX.cell 1).trans (show _ = some (.slice A1 x.pend.length c1) from rfl)
  have z2 := (hX.cell 2).trans (show _ = some (.int .i64 x.turns) from rfl)
  have z3 := (hX.cell 3).trans (show _ = some (.int .i64 x.secs) from rfl)
  have z4 := (hX.cell 4).trans (show _ = some (.int .i64 x.spk) from rfl)
  have z5 := (hX.cell 5).trans (show _ = some (.slice A2 x.wait.length c2) from rfl)
  have z6 := (hX.cell 6).trans (show _ = some (.slice A3 x.shares.length c3) from rfl)
  have z7 := (hX.cell 7).trans (show _ = some (.slice A4 x.outs.length c4) from rfl)
  have z8 := (hX.cell 8).trans (show _ = some (.string x.dur) from rfl)
  have z9 := (hX.cell 9).trans (show _ = some (.string x.pen) from rfl)
  have z10 := (hX.cell 10).trans (show _ = some (.int .i64 x.cnt) from rfl)
  have yhX := hX.lt
  go_wp2_with fail
  refine (l28Good_is x A0 A1 A2 A3 A4 c0 c1 c2 c3 c4 h0 h1 h2 h3 h4 hz v hv _ (R0.below (by repeat (first | exact Below.refl _ _ | refine Below.alloc ?_ (by first | exact Nat.le_refl _ | (simp <;> omega)) _ | refine Below.setCell ?_ (by first | exact Nat.le_refl _ | (simp <;> omega)) _))) (R1.below (by repeat (first | exact Below.refl _ _ | refine Below.alloc ?_ (by first | exact Nat.le_refl _ | (simp <;> omega)) _ | refine Below.setCell ?_ (by first | exact Nat.le_refl _ | (simp <;> omega)) _))) (R2.below (by repeat (first | exact Below.refl _ _ | refine Below.alloc ?_ (by first | exact Nat.le_refl _ | (simp <;> omega)) _ | refine Below.setCell ?_ (by first | exact Nat.le_refl _ | (simp <;> omega)) _))) (R3.below (by repeat (first | exact Below.refl _ _ | refine Below.alloc ?_ (by first | exact Nat.le_refl _ | (simp <;> omega)) _ | refine Below.setCell ?_ (by first | exact Nat.le_refl _ | (simp <;> omega)) _))) (R4.below (by repeat (first | exact Below.refl _ _ | refine Below.alloc ?_ (by first | exact Nat.le_refl _ | (simp <;> omega)) _ | refine Below.setCell ?_ (by first | exact Nat.le_refl _ | (simp <;> omega)) _))) k0 k1 k2 k3 k4).mono ?_
  rintro e w2 ⟨rfl, hb2⟩
  have hq2 : Below wX.heap.size wX w2 := bth (by repeat (first | exact Below.refl _ _ | refine Below.alloc ?_ (by first | exact Nat.le_refl _ | (simp <;> omega)) _ | refine Below.setCell ?_ (by first | exact Nat.le_refl _ | (simp <;> omega)) _)) hb2
  replace HB := bth HB hq2
  replace R0 := R0.below hq2
  replace R1 := R1.below hq2
  replace R2 := R2.below hq2
  replace R3 := R3.below hq2
  replace R4 := R4.below hq2
  replace hX := hX.below hq2 hX.lt
  replace z0 := (hX.cell 0).trans (show _ = some (.slice A0 x.rules.length c0) from rfl)
  replace z1 := (hX.cell 1).trans (show _ = some (.slice A1 x.pend.length c1) from rfl)
  replace z2 := (hX.cell 2).trans (show _ = some (.int .i64 x.turns) from rfl)
  replace z3 := (hX.cell 3).trans (show _ = some (.int .i64 x.secs) from rfl)
  replace z4 := (hX.cell 4).trans (show _ = some (.int .i64 x.spk) from rfl)
  replace z5 := (hX.cell 5).trans (show _ = some (.slice A2 x.wait.length c2) from rfl)
  replace z6 := (hX.cell 6).trans (show _ = some (.slice A3 x.shares.length c3) from rfl)
  replace z7 := (hX.cell 7).trans (show _ = some (.slice A4 x.outs.length c4) from rfl)
  replace z8 := (hX.cell 8).trans (show _ = some (.string x.dur) from rfl)
  replace z9 := (hX.cell 9).trans (show _ = some (.string x.pen) from rfl)
  replace z10 := (hX.cell 10).trans (show _ = some (.int .i64 x.cnt) from rfl)
  go_wp2
  go_ret
  exact ⟨rfl, (bth HB (by repeat (first | exact Below.refl _ _ | refine Below.alloc ?_ (by first | exact Nat.le_refl _ | (simp <;> omega)) _ | refine Below.setCell ?_ (by first | exact Nat.le_refl _ | (simp <;> omega)) _)))⟩
end Go.Proofs.YtpkagohflkcnkaaGreatDoor
