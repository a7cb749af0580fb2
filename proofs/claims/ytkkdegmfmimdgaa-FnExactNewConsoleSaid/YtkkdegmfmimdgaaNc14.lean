/- The contracts of the meeting laws. -/
import Derived.Test.YtkkdegmfmimdgaaNc11
import Derived.Deep.Cut
namespace Go.Proofs.Ytkkdegmfmimdgaa
open Go.RowKit Go.G9
def mbOut (m : Mee) : Value := if meetB m then .tuple #[.bool (debB m.rules m.pend), .bool true] else .tuple #[.bool false, .bool false]
theorem mbOut_form (m : Mee) : ∃ a b, mbOut m = .tuple #[.bool a, .bool b] := by unfold mbOut; split <;> exact ⟨_, _, rfl⟩
def lastR (rs : List Rul) (qs : List Que) : Option Rul := match qs[qs.length - 1]? with | some q => fnd rs q.rule | none => none
def pnOut (m : Mee) : Value := if meetB m then (match lastR m.rules m.pend with | some r => .tuple #[.string r.name, .bool true] | none => .tuple #[.string ⟨#[]⟩, .bool false]) else .tuple #[.string ⟨#[]⟩, .bool false]
theorem pnOut_form (m : Mee) : ∃ a b, pnOut m = .tuple #[.string a, .bool b] := by
  unfold pnOut; split
  · split <;> exact ⟨_, _, rfl⟩
  · exact ⟨_, _, rfl⟩
def movd (os : List Out) (n : Int) : Nat → Int × Int
  | 0 => (0, 0)
  | k + 1 => match os[k]? with | some o => if o.mover == n then ((movd os n k).1 + 1, (movd os n k).2 + (if o.ado then 1 else 0)) else movd os n k | none => movd os n k
theorem movd_bd (os : List Out) (n : Int) : ∀ k, 0 ≤ (movd os n k).1 ∧ (movd os n k).1 ≤ k ∧ 0 ≤ (movd os n k).2 ∧ (movd os n k).2 ≤ k
  | 0 => by simp [movd]
  | k + 1 => by
    have := movd_bd os n k
    unfold movd
    split
    · split
      · dsimp only; split <;> omega
      · omega
    · omega
def mvOut (m : Mee) (n : Int) : Value := if meetB m && memB n then .tuple #[.int .i64 (movd m.outs n m.outs.length).1, .int .i64 (movd m.outs n m.outs.length).2, .bool true] else .tuple #[.int .i64 0, .int .i64 0, .bool false]
theorem mvOut_form (m : Mee) (n : Int) : ∃ a b c, mvOut m n = .tuple #[.int .i64 a, .int .i64 b, .bool c] := by unfold mvOut; split <;> exact ⟨_, _, _, rfl⟩
theorem iIsValidMeeting_is (m : Mee) (A0 A1 A2 A3 A4 : Option Addr) (c0 c1 c2 c3 c4 : Nat) (h0 : m.rules.length ≤ 1048576) (h1 : m.pend.length ≤ 1048576) (h2 : m.wait.length ≤ 1048576) (h3 : m.shares.length ≤ 1048576) (h4 : m.outs.length ≤ 1048576) (v : Bool) (hv : meetB m = v) (w : World) (R0 : Rds 7 Rul.cells w A0 m.rules) (R1 : Rds 3 Que.cells w A1 m.pend) (R2 : Rds 1 intC w A2 m.wait) (R3 : Rds 3 Sha.cells w A3 m.shares) (R4 : Rds 3 Out.cells w A4 m.outs) (k0 : m.rules.length ≤ c0) (k1 : m.pend.length ≤ c1) (k2 : m.wait.length ≤ c2) (k3 : m.shares.length ≤ c3) (k4 : m.outs.length ≤ c4) :
  Calls Try.prog 13 #[.agg #[.slice A0 m.rules.length c0, .slice A1 m.pend.length c1, .int .i64 m.turns, .int .i64 m.secs, .int .i64 m.spk, .slice A2 m.wait.length c2, .slice A3 m.shares.length c3, .slice A4 m.outs.length c4]] w fun e w' => e = .returned (.bool v) ∧ Below w.heap.size w w' :=
  iMeet_is m.rules m.pend m.turns m.secs m.spk m.wait m.shares m.outs A0 A1 A2 A3 A4 c0 c1 c2 c3 c4 h0 h1 h2 h3 h4 v hv w R0 R1 R2 R3 R4 k0 k2
theorem l25Good_is (m : Mee) (A0 A1 A2 A3 A4 : Option Addr) (c0 c1 c2 c3 c4 : Nat) (h0 : m.rules.length ≤ 1048576) (h1 : m.pend.length ≤ 1048576) (h2 : m.wait.length ≤ 1048576) (h3 : m.shares.length ≤ 1048576) (h4 : m.outs.length ≤ 1048576) (v : Bool) (hv : meetB m = v) (w : World) (R0 : Rds 7 Rul.cells w A0 m.rules) (R1 : Rds 3 Que.cells w A1 m.pend) (R2 : Rds 1 intC w A2 m.wait) (R3 : Rds 3 Sha.cells w A3 m.shares) (R4 : Rds 3 Out.cells w A4 m.outs) (k0 : m.rules.length ≤ c0) (k1 : m.pend.length ≤ c1) (k2 : m.wait.length ≤ c2) (k3 : m.shares.length ≤ c3) (k4 : m.outs.length ≤ c4) :
  Calls Try.prog 42 #[.agg #[.slice A0 m.rules.length c0, .slice A1 m.pend.length c1, .int .i64 m.turns, .int .i64 m.secs, .int .i64 m.spk, .slice A2 m.wait.length c2, .slice A3 m.shares.length c3, .slice A4 m.outs.length c4]] w fun e w' => e = .returned (.bool v) ∧ Below w.heap.size w w' :=
  sMeet_is m.rules m.pend m.turns m.secs m.spk m.wait m.shares m.outs A0 A1 A2 A3 A4 c0 c1 c2 c3 c4 h0 h1 h2 h3 h4 v hv w R0 R1 R2 R3 R4 k0 k2
set_option maxHeartbeats 1000000 in
set_option maxRecDepth 100000 in
theorem sIsValidMeeting_is (m : Mee) (A0 A1 A2 A3 A4 : Option Addr) (c0 c1 c2 c3 c4 : Nat) (h0 : m.rules.length ≤ 1048576) (h1 : m.pend.length ≤ 1048576) (h2 : m.wait.length ≤ 1048576) (h3 : m.shares.length ≤ 1048576) (h4 : m.outs.length ≤ 1048576) (v : Bool) (hv : meetB m = v) (w : World) (R0 : Rds 7 Rul.cells w A0 m.rules) (R1 : Rds 3 Que.cells w A1 m.pend) (R2 : Rds 1 intC w A2 m.wait) (R3 : Rds 3 Sha.cells w A3 m.shares) (R4 : Rds 3 Out.cells w A4 m.outs) (k0 : m.rules.length ≤ c0) (k1 : m.pend.length ≤ c1) (k2 : m.wait.length ≤ c2) (k3 : m.shares.length ≤ c3) (k4 : m.outs.length ≤ c4) :
  Calls Try.prog 11 #[.agg #[.slice A0 m.rules.length c0, .slice A1 m.pend.length c1, .int .i64 m.turns, .int .i64 m.secs, .int .i64 m.spk, .slice A2 m.wait.length c2, .slice A3 m.shares.length c3, .slice A4 m.outs.length c4]] w fun e w' => e = .returned (.bool v) ∧ Below w.heap.size w w' := by
  have HV := Lib.hid hv
  go_enter Try.func11, Try.ntmps11
  go_upto_region 1 with fail
  have hq1 : Below w.heap.size w (World.alloc w (.cells #[.slice A0 m.rules.length c0, .slice A1 m.pend.length c1, .int .i64 m.turns, .int .i64 m.secs, .int .i64 m.spk, .slice A2 m.wait.length c2, .slice A3 m.shares.length c3, .slice A4 m.outs.length c4] 40)) := bl1 w _
  have hM : Blk (World.alloc w (.cells #[.slice A0 m.rules.length c0, .slice A1 m.pend.length c1, .int .i64 m.turns, .int .i64 m.secs, .int .i64 m.spk, .slice A2 m.wait.length c2, .slice A3 m.shares.length c3, .slice A4 m.outs.length c4] 40)) (w.heap.size) 40 #[.slice A0 m.rules.length c0, .slice A1 m.pend.length c1, .int .i64 m.turns, .int .i64 m.secs, .int .i64 m.spk, .slice A2 m.wait.length c2, .slice A3 m.shares.length c3, .slice A4 m.outs.length c4] := by repeat (first | exact Blk.new _ _ _ | exact Blk.new2 _ _ _ _ | exact Blk.new3 _ _ _ _ _ | exact Blk.new4 _ _ _ _ _ _ | refine Blk.alloc ?_ _)
  replace R0 := R0.below hq1
  replace R1 := R1.below hq1
  replace R2 := R2.below hq1
  replace R3 := R3.below hq1
  replace R4 := R4.below hq1
  generalize World.alloc w (.cells #[.slice A0 m.rules.length c0, .slice A1 m.pend.length c1, .int .i64 m.turns, .int .i64 m.secs, .int .i64 m.spk, .slice A2 m.wait.length c2, .slice A3 m.shares.length c3, .slice A4 m.outs.length c4] 40) = wX at *
  have HB := hq1
  have b0 := (hM.cell 0).trans (show _ = some (.slice A0 m.rules.length c0) from rfl)
  have b1 := (hM.cell 1).trans (show _ = some (.slice A1 m.pend.length c1) from rfl)
  have b2 := (hM.cell 2).trans (show _ = some (.int .i64 m.turns) from rfl)
  have b3 := (hM.cell 3).trans (show _ = some (.int .i64 m.secs) from rfl)
  have b4 := (hM.cell 4).trans (show _ = some (.int .i64 m.spk) from rfl)
  have b5 := (hM.cell 5).trans (show _ = some (.slice A2 m.wait.length c2) from rfl)
  have b6 := (hM.cell 6).trans (show _ = some (.slice A3 m.shares.length c3) from rfl)
  have b7 := (hM.cell 7).trans (show _ = some (.slice A4 m.outs.length c4) from rfl)
  go_wp2_with fail
  refine (l25Good_is m A0 A1 A2 A3 A4 c0 c1 c2 c3 c4 h0 h1 h2 h3 h4 _ HV.out _ (R0.below (by repeat (first | exact Below.refl _ _ | refine Below.alloc ?_ (by first | exact Nat.le_refl _ | (simp <;> omega)) _ | refine Below.setCell ?_ (by first | exact Nat.le_refl _ | (simp <;> omega)) _))) (R1.below (by repeat (first | exact Below.refl _ _ | refine Below.alloc ?_ (by first | exact Nat.le_refl _ | (simp <;> omega)) _ | refine Below.setCell ?_ (by first | exact Nat.le_refl _ | (simp <;> omega)) _))) (R2.below (by repeat (first | exact Below.refl _ _ | refine Below.alloc ?_ (by first | exact Nat.le_refl _ | (simp <;> omega)) _ | refine Below.setCell ?_ (by first | exact Nat.le_refl _ | (simp <;> omega)) _))) (R3.below (by repeat (first | exact Below.refl _ _ | refine Below.alloc ?_ (by first | exact Nat.le_refl _ | (simp <;> omega)) _ | refine Below.setCell ?_ (by first | exact Nat.le_refl _ | (simp <;> omega)) _))) (R4.below (by repeat (first | exact Below.refl _ _ | refine Below.alloc ?_ (by first | exact Nat.le_refl _ | (simp <;> omega)) _ | refine Below.setCell ?_ (by first | exact Nat.le_refl _ | (simp <;> omega)) _))) k0 k1 k2 k3 k4).mono ?_
  rintro e w2 ⟨rfl, hb2⟩
  have hq2 : Below wX.heap.size wX w2 := bth (by repeat (first | exact Below.refl _ _ | refine Below.alloc ?_ (by first | exact Nat.le_refl _ | (simp <;> omega)) _ | refine Below.setCell ?_ (by first | exact Nat.le_refl _ | (simp <;> omega)) _)) hb2
  replace HB := bth HB hq2
  replace R0 := R0.below hq2
  replace R1 := R1.below hq2
  replace R2 := R2.below hq2
  replace R3 := R3.below hq2
  replace R4 := R4.below hq2
  replace hM := hM.below hq2 hM.lt
  replace b0 := (hM.cell 0).trans (show _ = some (.slice A0 m.rules.length c0) from rfl)
  replace b1 := (hM.cell 1).trans (show _ = some (.slice A1 m.pend.length c1) from rfl)
  replace b2 := (hM.cell 2).trans (show _ = some (.int .i64 m.turns) from rfl)
  replace b3 := (hM.cell 3).trans (show _ = some (.int .i64 m.secs) from rfl)
  replace b4 := (hM.cell 4).trans (show _ = some (.int .i64 m.spk) from rfl)
  replace b5 := (hM.cell 5).trans (show _ = some (.slice A2 m.wait.length c2) from rfl)
  replace b6 := (hM.cell 6).trans (show _ = some (.slice A3 m.shares.length c3) from rfl)
  replace b7 := (hM.cell 7).trans (show _ = some (.slice A4 m.outs.length c4) from rfl)
  go_wp2
  go_ret
  exact ⟨rfl, (bth HB (by repeat (first | exact Below.refl _ _ | refine Below.alloc ?_ (by first | exact Nat.le_refl _ | (simp <;> omega)) _ | refine Below.setCell ?_ (by first | exact Nat.le_refl _ | (simp <;> omega)) _)))⟩
set_option maxHeartbeats 2000000 in
set_option maxRecDepth 100000 in
theorem iIsDebatable_is (m : Mee) (A0 A1 A2 A3 A4 : Option Addr) (c0 c1 c2 c3 c4 : Nat) (h0 : m.rules.length ≤ 1048576) (h1 : m.pend.length ≤ 1048576) (h2 : m.wait.length ≤ 1048576) (h3 : m.shares.length ≤ 1048576) (h4 : m.outs.length ≤ 1048576) (v : Value) (hv : mbOut m = v) (w : World) (R0 : Rds 7 Rul.cells w A0 m.rules) (R1 : Rds 3 Que.cells w A1 m.pend) (R2 : Rds 1 intC w A2 m.wait) (R3 : Rds 3 Sha.cells w A3 m.shares) (R4 : Rds 3 Out.cells w A4 m.outs) (k0 : m.rules.length ≤ c0) (k1 : m.pend.length ≤ c1) (k2 : m.wait.length ≤ c2) (k3 : m.shares.length ≤ c3) (k4 : m.outs.length ≤ c4) :
  Calls Try.prog 16 #[.agg #[.slice A0 m.rules.length c0, .slice A1 m.pend.length c1, .int .i64 m.turns, .int .i64 m.secs, .int .i64 m.spk, .slice A2 m.wait.length c2, .slice A3 m.shares.length c3, .slice A4 m.outs.length c4]] w fun e w' => e = .returned (v) ∧ Below w.heap.size w w' := by
  subst hv
  cases hb : meetB m
  · have HV := Lib.hid hb
    go_enter Try.func16, Try.ntmps16
    go_upto_region 1 with fail
    have hq1 : Below w.heap.size w (World.alloc w (.cells #[.slice A0 m.rules.length c0, .slice A1 m.pend.length c1, .int .i64 m.turns, .int .i64 m.secs, .int .i64 m.spk, .slice A2 m.wait.length c2, .slice A3 m.shares.length c3, .slice A4 m.outs.length c4] 40)) := bl1 w _
    have hM : Blk (World.alloc w (.cells #[.slice A0 m.rules.length c0, .slice A1 m.pend.length c1, .int .i64 m.turns, .int .i64 m.secs, .int .i64 m.spk, .slice A2 m.wait.length c2, .slice A3 m.shares.length c3, .slice A4 m.outs.length c4] 40)) (w.heap.size) 40 #[.slice A0 m.rules.length c0, .slice A1 m.pend.length c1, .int .i64 m.turns, .int .i64 m.secs, .int .i64 m.spk, .slice A2 m.wait.length c2, .slice A3 m.shares.length c3, .slice A4 m.outs.length c4] := by repeat (first | exact Blk.new _ _ _ | exact Blk.new2 _ _ _ _ | exact Blk.new3 _ _ _ _ _ | exact Blk.new4 _ _ _ _ _ _ | refine Blk.alloc ?_ _)
    replace R0 := R0.below hq1
    replace R1 := R1.below hq1
    replace R2 := R2.below hq1
    replace R3 := R3.below hq1
    replace R4 := R4.below hq1
    generalize World.alloc w (.cells #[.slice A0 m.rules.length c0, .slice A1 m.pend.length c1, .int .i64 m.turns, .int .i64 m.secs, .int .i64 m.spk, .slice A2 m.wait.length c2, .slice A3 m.shares.length c3, .slice A4 m.outs.length c4] 40) = wX at *
    have HB := hq1
    have b0 := (hM.cell 0).trans (show _ = some (.slice A0 m.rules.length c0) from rfl)
    have b1 := (hM.cell 1).trans (show _ = some (.slice A1 m.pend.length c1) from rfl)
    have b2 := (hM.cell 2).trans (show _ = some (.int .i64 m.turns) from rfl)
    have b3 := (hM.cell 3).trans (show _ = some (.int .i64 m.secs) from rfl)
    have b4 := (hM.cell 4).trans (show _ = some (.int .i64 m.spk) from rfl)
    have b5 := (hM.cell 5).trans (show _ = some (.slice A2 m.wait.length c2) from rfl)
    have b6 := (hM.cell 6).trans (show _ = some (.slice A3 m.shares.length c3) from rfl)
    have b7 := (hM.cell 7).trans (show _ = some (.slice A4 m.outs.length c4) from rfl)
    go_wp2_with fail
    refine (iIsValidMeeting_is m A0 A1 A2 A3 A4 c0 c1 c2 c3 c4 h0 h1 h2 h3 h4 _ HV.out _ (R0.below (by repeat (first | exact Below.refl _ _ | refine Below.alloc ?_ (by first | exact Nat.le_refl _ | (simp <;> omega)) _ | refine Below.setCell ?_ (by first | exact Nat.le_refl _ | (simp <;> omega)) _))) (R1.below (by repeat (first | exact Below.refl _ _ | refine Below.alloc ?_ (by first | exact Nat.le_refl _ | (simp <;> omega)) _ | refine Below.setCell ?_ (by first | exact Nat.le_refl _ | (simp <;> omega)) _))) (R2.below (by repeat (first | exact Below.refl _ _ | refine Below.alloc ?_ (by first | exact Nat.le_refl _ | (simp <;> omega)) _ | refine Below.setCell ?_ (by first | exact Nat.le_refl _ | (simp <;> omega)) _))) (R3.below (by repeat (first | exact Below.refl _ _ | refine Below.alloc ?_ (by first | exact Nat.le_refl _ | (simp <;> omega)) _ | refine Below.setCell ?_ (by first | exact Nat.le_refl _ | (simp <;> omega)) _))) (R4.below (by repeat (first | exact Below.refl _ _ | refine Below.alloc ?_ (by first | exact Nat.le_refl _ | (simp <;> omega)) _ | refine Below.setCell ?_ (by first | exact Nat.le_refl _ | (simp <;> omega)) _))) k0 k1 k2 k3 k4).mono ?_
    rintro e w2 ⟨rfl, hb2⟩
    have hq2 : Below wX.heap.size wX w2 := bth (by repeat (first | exact Below.refl _ _ | refine Below.alloc ?_ (by first | exact Nat.le_refl _ | (simp <;> omega)) _ | refine Below.setCell ?_ (by first | exact Nat.le_refl _ | (simp <;> omega)) _)) hb2
    replace HB := bth HB hq2
    replace R0 := R0.below hq2
    replace R1 := R1.below hq2
    replace R2 := R2.below hq2
    replace R3 := R3.below hq2
    replace R4 := R4.below hq2
    replace hM := hM.below hq2 hM.lt
    replace b0 := (hM.cell 0).trans (show _ = some (.slice A0 m.rules.length c0) from rfl)
    replace b1 := (hM.cell 1).trans (show _ = some (.slice A1 m.pend.length c1) from rfl)
    replace b2 := (hM.cell 2).trans (show _ = some (.int .i64 m.turns) from rfl)
    replace b3 := (hM.cell 3).trans (show _ = some (.int .i64 m.secs) from rfl)
    replace b4 := (hM.cell 4).trans (show _ = some (.int .i64 m.spk) from rfl)
    replace b5 := (hM.cell 5).trans (show _ = some (.slice A2 m.wait.length c2) from rfl)
    replace b6 := (hM.cell 6).trans (show _ = some (.slice A3 m.shares.length c3) from rfl)
    replace b7 := (hM.cell 7).trans (show _ = some (.slice A4 m.outs.length c4) from rfl)
    go_wp2
    go_ret2
    rw [mbOut, HV.out]
    exact ⟨rfl, (bth HB (by repeat (first | exact Below.refl _ _ | refine Below.alloc ?_ (by first | exact Nat.le_refl _ | (simp <;> omega)) _ | refine Below.setCell ?_ (by first | exact Nat.le_refl _ | (simp <;> omega)) _)))⟩
  · have HV := Lib.hid hb
    have hp := meetB_pend hb
    obtain ⟨d, hd⟩ : ∃ d, debB m.rules m.pend = d := ⟨_, rfl⟩
    have HP := Lib.hid hp; have HD := Lib.hid hd; clear hp hd hb
    go_enter Try.func16, Try.ntmps16
    go_upto_region 1 with fail
    have hq1 : Below w.heap.size w (World.alloc w (.cells #[.slice A0 m.rules.length c0, .slice A1 m.pend.length c1, .int .i64 m.turns, .int .i64 m.secs, .int .i64 m.spk, .slice A2 m.wait.length c2, .slice A3 m.shares.length c3, .slice A4 m.outs.length c4] 40)) := bl1 w _
    have hM : Blk (World.alloc w (.cells #[.slice A0 m.rules.length c0, .slice A1 m.pend.length c1, .int .i64 m.turns, .int .i64 m.secs, .int .i64 m.spk, .slice A2 m.wait.length c2, .slice A3 m.shares.length c3, .slice A4 m.outs.length c4] 40)) (w.heap.size) 40 #[.slice A0 m.rules.length c0, .slice A1 m.pend.length c1, .int .i64 m.turns, .int .i64 m.secs, .int .i64 m.spk, .slice A2 m.wait.length c2, .slice A3 m.shares.length c3, .slice A4 m.outs.length c4] := by repeat (first | exact Blk.new _ _ _ | exact Blk.new2 _ _ _ _ | exact Blk.new3 _ _ _ _ _ | exact Blk.new4 _ _ _ _ _ _ | refine Blk.alloc ?_ _)
    replace R0 := R0.below hq1
    replace R1 := R1.below hq1
    replace R2 := R2.below hq1
    replace R3 := R3.below hq1
    replace R4 := R4.below hq1
    generalize World.alloc w (.cells #[.slice A0 m.rules.length c0, .slice A1 m.pend.length c1, .int .i64 m.turns, .int .i64 m.secs, .int .i64 m.spk, .slice A2 m.wait.length c2, .slice A3 m.shares.length c3, .slice A4 m.outs.length c4] 40) = wX at *
    have HB := hq1
    have b0 := (hM.cell 0).trans (show _ = some (.slice A0 m.rules.length c0) from rfl)
    have b1 := (hM.cell 1).trans (show _ = some (.slice A1 m.pend.length c1) from rfl)
    have b2 := (hM.cell 2).trans (show _ = some (.int .i64 m.turns) from rfl)
    have b3 := (hM.cell 3).trans (show _ = some (.int .i64 m.secs) from rfl)
    have b4 := (hM.cell 4).trans (show _ = some (.int .i64 m.spk) from rfl)
    have b5 := (hM.cell 5).trans (show _ = some (.slice A2 m.wait.length c2) from rfl)
    have b6 := (hM.cell 6).trans (show _ = some (.slice A3 m.shares.length c3) from rfl)
    have b7 := (hM.cell 7).trans (show _ = some (.slice A4 m.outs.length c4) from rfl)
    go_wp2_with fail
    refine (iIsValidMeeting_is m A0 A1 A2 A3 A4 c0 c1 c2 c3 c4 h0 h1 h2 h3 h4 _ HV.out _ (R0.below (by repeat (first | exact Below.refl _ _ | refine Below.alloc ?_ (by first | exact Nat.le_refl _ | (simp <;> omega)) _ | refine Below.setCell ?_ (by first | exact Nat.le_refl _ | (simp <;> omega)) _))) (R1.below (by repeat (first | exact Below.refl _ _ | refine Below.alloc ?_ (by first | exact Nat.le_refl _ | (simp <;> omega)) _ | refine Below.setCell ?_ (by first | exact Nat.le_refl _ | (simp <;> omega)) _))) (R2.below (by repeat (first | exact Below.refl _ _ | refine Below.alloc ?_ (by first | exact Nat.le_refl _ | (simp <;> omega)) _ | refine Below.setCell ?_ (by first | exact Nat.le_refl _ | (simp <;> omega)) _))) (R3.below (by repeat (first | exact Below.refl _ _ | refine Below.alloc ?_ (by first | exact Nat.le_refl _ | (simp <;> omega)) _ | refine Below.setCell ?_ (by first | exact Nat.le_refl _ | (simp <;> omega)) _))) (R4.below (by repeat (first | exact Below.refl _ _ | refine Below.alloc ?_ (by first | exact Nat.le_refl _ | (simp <;> omega)) _ | refine Below.setCell ?_ (by first | exact Nat.le_refl _ | (simp <;> omega)) _))) k0 k1 k2 k3 k4).mono ?_
    rintro e w2 ⟨rfl, hb2⟩
    have hq2 : Below wX.heap.size wX w2 := bth (by repeat (first | exact Below.refl _ _ | refine Below.alloc ?_ (by first | exact Nat.le_refl _ | (simp <;> omega)) _ | refine Below.setCell ?_ (by first | exact Nat.le_refl _ | (simp <;> omega)) _)) hb2
    replace HB := bth HB hq2
    replace R0 := R0.below hq2
    replace R1 := R1.below hq2
    replace R2 := R2.below hq2
    replace R3 := R3.below hq2
    replace R4 := R4.below hq2
    replace hM := hM.below hq2 hM.lt
    replace b0 := (hM.cell 0).trans (show _ = some (.slice A0 m.rules.length c0) from rfl)
    replace b1 := (hM.cell 1).trans (show _ = some (.slice A1 m.pend.length c1) from rfl)
    replace b2 := (hM.cell 2).trans (show _ = some (.int .i64 m.turns) from rfl)
    replace b3 := (hM.cell 3).trans (show _ = some (.int .i64 m.secs) from rfl)
    replace b4 := (hM.cell 4).trans (show _ = some (.int .i64 m.spk) from rfl)
    replace b5 := (hM.cell 5).trans (show _ = some (.slice A2 m.wait.length c2) from rfl)
    replace b6 := (hM.cell 6).trans (show _ = some (.slice A3 m.shares.length c3) from rfl)
    replace b7 := (hM.cell 7).trans (show _ = some (.slice A4 m.outs.length c4) from rfl)
    go_wp2_with fail
    refine (isDebatable_is m.rules m.pend m.turns m.secs m.spk m.wait m.shares m.outs A0 A1 A2 A3 A4 c0 c1 c2 c3 c4 h0 h1 h2 h3 h4 HP.out _ HD.out _ (R0.below (by repeat (first | exact Below.refl _ _ | refine Below.alloc ?_ (by first | exact Nat.le_refl _ | (simp <;> omega)) _ | refine Below.setCell ?_ (by first | exact Nat.le_refl _ | (simp <;> omega)) _))) (R1.below (by repeat (first | exact Below.refl _ _ | refine Below.alloc ?_ (by first | exact Nat.le_refl _ | (simp <;> omega)) _ | refine Below.setCell ?_ (by first | exact Nat.le_refl _ | (simp <;> omega)) _))) (R2.below (by repeat (first | exact Below.refl _ _ | refine Below.alloc ?_ (by first | exact Nat.le_refl _ | (simp <;> omega)) _ | refine Below.setCell ?_ (by first | exact Nat.le_refl _ | (simp <;> omega)) _))) (R3.below (by repeat (first | exact Below.refl _ _ | refine Below.alloc ?_ (by first | exact Nat.le_refl _ | (simp <;> omega)) _ | refine Below.setCell ?_ (by first | exact Nat.le_refl _ | (simp <;> omega)) _))) (R4.below (by repeat (first | exact Below.refl _ _ | refine Below.alloc ?_ (by first | exact Nat.le_refl _ | (simp <;> omega)) _ | refine Below.setCell ?_ (by first | exact Nat.le_refl _ | (simp <;> omega)) _)))).mono ?_
    rintro e w3 ⟨rfl, hb3⟩
    have hq3 : Below w2.heap.size w2 w3 := bth (by repeat (first | exact Below.refl _ _ | refine Below.alloc ?_ (by first | exact Nat.le_refl _ | (simp <;> omega)) _ | refine Below.setCell ?_ (by first | exact Nat.le_refl _ | (simp <;> omega)) _)) hb3
    replace HB := bth HB hq3
    replace R0 := R0.below hq3
    replace R1 := R1.below hq3
    replace R2 := R2.below hq3
    replace R3 := R3.below hq3
    replace R4 := R4.below hq3
    replace hM := hM.below hq3 hM.lt
    replace b0 := (hM.cell 0).trans (show _ = some (.slice A0 m.rules.length c0) from rfl)
    replace b1 := (hM.cell 1).trans (show _ = some (.slice A1 m.pend.length c1) from rfl)
    replace b2 := (hM.cell 2).trans (show _ = some (.int .i64 m.turns) from rfl)
    replace b3 := (hM.cell 3).trans (show _ = some (.int .i64 m.secs) from rfl)
    replace b4 := (hM.cell 4).trans (show _ = some (.int .i64 m.spk) from rfl)
    replace b5 := (hM.cell 5).trans (show _ = some (.slice A2 m.wait.length c2) from rfl)
    replace b6 := (hM.cell 6).trans (show _ = some (.slice A3 m.shares.length c3) from rfl)
    replace b7 := (hM.cell 7).trans (show _ = some (.slice A4 m.outs.length c4) from rfl)
    go_wp2
    go_ret2
    rw [mbOut, HV.out, HD.out]
    exact ⟨rfl, (bth HB (by repeat (first | exact Below.refl _ _ | refine Below.alloc ?_ (by first | exact Nat.le_refl _ | (simp <;> omega)) _ | refine Below.setCell ?_ (by first | exact Nat.le_refl _ | (simp <;> omega)) _)))⟩
set_option maxHeartbeats 2000000 in
set_option maxRecDepth 100000 in
theorem sIsDebatable_is (m : Mee) (A0 A1 A2 A3 A4 : Option Addr) (c0 c1 c2 c3 c4 : Nat) (h0 : m.rules.length ≤ 1048576) (h1 : m.pend.length ≤ 1048576) (h2 : m.wait.length ≤ 1048576) (h3 : m.shares.length ≤ 1048576) (h4 : m.outs.length ≤ 1048576) (v : Value) (hv : mbOut m = v) (w : World) (R0 : Rds 7 Rul.cells w A0 m.rules) (R1 : Rds 3 Que.cells w A1 m.pend) (R2 : Rds 1 intC w A2 m.wait) (R3 : Rds 3 Sha.cells w A3 m.shares) (R4 : Rds 3 Out.cells w A4 m.outs) (k0 : m.rules.length ≤ c0) (k1 : m.pend.length ≤ c1) (k2 : m.wait.length ≤ c2) (k3 : m.shares.length ≤ c3) (k4 : m.outs.length ≤ c4) :
  Calls Try.prog 15 #[.agg #[.slice A0 m.rules.length c0, .slice A1 m.pend.length c1, .int .i64 m.turns, .int .i64 m.secs, .int .i64 m.spk, .slice A2 m.wait.length c2, .slice A3 m.shares.length c3, .slice A4 m.outs.length c4]] w fun e w' => e = .returned (v) ∧ Below w.heap.size w w' := by
  subst hv
  cases hb : meetB m
  · have HV := Lib.hid hb
    go_enter Try.func15, Try.ntmps15
    go_upto_region 1 with fail
    have hq1 : Below w.heap.size w (World.alloc w (.cells #[.slice A0 m.rules.length c0, .slice A1 m.pend.length c1, .int .i64 m.turns, .int .i64 m.secs, .int .i64 m.spk, .slice A2 m.wait.length c2, .slice A3 m.shares.length c3, .slice A4 m.outs.length c4] 40)) := bl1 w _
    have hM : Blk (World.alloc w (.cells #[.slice A0 m.rules.length c0, .slice A1 m.pend.length c1, .int .i64 m.turns, .int .i64 m.secs, .int .i64 m.spk, .slice A2 m.wait.length c2, .slice A3 m.shares.length c3, .slice A4 m.outs.length c4] 40)) (w.heap.size) 40 #[.slice A0 m.rules.length c0, .slice A1 m.pend.length c1, .int .i64 m.turns, .int .i64 m.secs, .int .i64 m.spk, .slice A2 m.wait.length c2, .slice A3 m.shares.length c3, .slice A4 m.outs.length c4] := by repeat (first | exact Blk.new _ _ _ | exact Blk.new2 _ _ _ _ | exact Blk.new3 _ _ _ _ _ | exact Blk.new4 _ _ _ _ _ _ | refine Blk.alloc ?_ _)
    replace R0 := R0.below hq1
    replace R1 := R1.below hq1
    replace R2 := R2.below hq1
    replace R3 := R3.below hq1
    replace R4 := R4.below hq1
    generalize World.alloc w (.cells #[.slice A0 m.rules.length c0, .slice A1 m.pend.length c1, .int .i64 m.turns, .int .i64 m.secs, .int .i64 m.spk, .slice A2 m.wait.length c2, .slice A3 m.shares.length c3, .slice A4 m.outs.length c4] 40) = wX at *
    have HB := hq1
    have b0 := (hM.cell 0).trans (show _ = some (.slice A0 m.rules.length c0) from rfl)
    have b1 := (hM.cell 1).trans (show _ = some (.slice A1 m.pend.length c1) from rfl)
    have b2 := (hM.cell 2).trans (show _ = some (.int .i64 m.turns) from rfl)
    have b3 := (hM.cell 3).trans (show _ = some (.int .i64 m.secs) from rfl)
    have b4 := (hM.cell 4).trans (show _ = some (.int .i64 m.spk) from rfl)
    have b5 := (hM.cell 5).trans (show _ = some (.slice A2 m.wait.length c2) from rfl)
    have b6 := (hM.cell 6).trans (show _ = some (.slice A3 m.shares.length c3) from rfl)
    have b7 := (hM.cell 7).trans (show _ = some (.slice A4 m.outs.length c4) from rfl)
    go_wp2_with fail
    refine (l25Good_is m A0 A1 A2 A3 A4 c0 c1 c2 c3 c4 h0 h1 h2 h3 h4 _ HV.out _ (R0.below (by repeat (first | exact Below.refl _ _ | refine Below.alloc ?_ (by first | exact Nat.le_refl _ | (simp <;> omega)) _ | refine Below.setCell ?_ (by first | exact Nat.le_refl _ | (simp <;> omega)) _))) (R1.below (by repeat (first | exact Below.refl _ _ | refine Below.alloc ?_ (by first | exact Nat.le_refl _ | (simp <;> omega)) _ | refine Below.setCell ?_ (by first | exact Nat.le_refl _ | (simp <;> omega)) _))) (R2.below (by repeat (first | exact Below.refl _ _ | refine Below.alloc ?_ (by first | exact Nat.le_refl _ | (simp <;> omega)) _ | refine Below.setCell ?_ (by first | exact Nat.le_refl _ | (simp <;> omega)) _))) (R3.below (by repeat (first | exact Below.refl _ _ | refine Below.alloc ?_ (by first | exact Nat.le_refl _ | (simp <;> omega)) _ | refine Below.setCell ?_ (by first | exact Nat.le_refl _ | (simp <;> omega)) _))) (R4.below (by repeat (first | exact Below.refl _ _ | refine Below.alloc ?_ (by first | exact Nat.le_refl _ | (simp <;> omega)) _ | refine Below.setCell ?_ (by first | exact Nat.le_refl _ | (simp <;> omega)) _))) k0 k1 k2 k3 k4).mono ?_
    rintro e w2 ⟨rfl, hb2⟩
    have hq2 : Below wX.heap.size wX w2 := bth (by repeat (first | exact Below.refl _ _ | refine Below.alloc ?_ (by first | exact Nat.le_refl _ | (simp <;> omega)) _ | refine Below.setCell ?_ (by first | exact Nat.le_refl _ | (simp <;> omega)) _)) hb2
    replace HB := bth HB hq2
    replace R0 := R0.below hq2
    replace R1 := R1.below hq2
    replace R2 := R2.below hq2
    replace R3 := R3.below hq2
    replace R4 := R4.below hq2
    replace hM := hM.below hq2 hM.lt
    replace b0 := (hM.cell 0).trans (show _ = some (.slice A0 m.rules.length c0) from rfl)
    replace b1 := (hM.cell 1).trans (show _ = some (.slice A1 m.pend.length c1) from rfl)
    replace b2 := (hM.cell 2).trans (show _ = some (.int .i64 m.turns) from rfl)
    replace b3 := (hM.cell 3).trans (show _ = some (.int .i64 m.secs) from rfl)
    replace b4 := (hM.cell 4).trans (show _ = some (.int .i64 m.spk) from rfl)
    replace b5 := (hM.cell 5).trans (show _ = some (.slice A2 m.wait.length c2) from rfl)
    replace b6 := (hM.cell 6).trans (show _ = some (.slice A3 m.shares.length c3) from rfl)
    replace b7 := (hM.cell 7).trans (show _ = some (.slice A4 m.outs.length c4) from rfl)
    go_wp2
    go_ret2
    rw [mbOut, HV.out]
    exact ⟨rfl, (bth HB (by repeat (first | exact Below.refl _ _ | refine Below.alloc ?_ (by first | exact Nat.le_refl _ | (simp <;> omega)) _ | refine Below.setCell ?_ (by first | exact Nat.le_refl _ | (simp <;> omega)) _)))⟩
  · have HV := Lib.hid hb
    have hp := meetB_pend hb
    obtain ⟨d, hd⟩ : ∃ d, debB m.rules m.pend = d := ⟨_, rfl⟩
    have HP := Lib.hid hp; have HD := Lib.hid hd; clear hp hd hb
    go_enter Try.func15, Try.ntmps15
    go_upto_region 1 with fail
    have hq1 : Below w.heap.size w (World.alloc w (.cells #[.slice A0 m.rules.length c0, .slice A1 m.pend.length c1, .int .i64 m.turns, .int .i64 m.secs, .int .i64 m.spk, .slice A2 m.wait.length c2, .slice A3 m.shares.length c3, .slice A4 m.outs.length c4] 40)) := bl1 w _
    have hM : Blk (World.alloc w (.cells #[.slice A0 m.rules.length c0, .slice A1 m.pend.length c1, .int .i64 m.turns, .int .i64 m.secs, .int .i64 m.spk, .slice A2 m.wait.length c2, .slice A3 m.shares.length c3, .slice A4 m.outs.length c4] 40)) (w.heap.size) 40 #[.slice A0 m.rules.length c0, .slice A1 m.pend.length c1, .int .i64 m.turns, .int .i64 m.secs, .int .i64 m.spk, .slice A2 m.wait.length c2, .slice A3 m.shares.length c3, .slice A4 m.outs.length c4] := by repeat (first | exact Blk.new _ _ _ | exact Blk.new2 _ _ _ _ | exact Blk.new3 _ _ _ _ _ | exact Blk.new4 _ _ _ _ _ _ | refine Blk.alloc ?_ _)
    replace R0 := R0.below hq1
    replace R1 := R1.below hq1
    replace R2 := R2.below hq1
    replace R3 := R3.below hq1
    replace R4 := R4.below hq1
    generalize World.alloc w (.cells #[.slice A0 m.rules.length c0, .slice A1 m.pend.length c1, .int .i64 m.turns, .int .i64 m.secs, .int .i64 m.spk, .slice A2 m.wait.length c2, .slice A3 m.shares.length c3, .slice A4 m.outs.length c4] 40) = wX at *
    have HB := hq1
    have b0 := (hM.cell 0).trans (show _ = some (.slice A0 m.rules.length c0) from rfl)
    have b1 := (hM.cell 1).trans (show _ = some (.slice A1 m.pend.length c1) from rfl)
    have b2 := (hM.cell 2).trans (show _ = some (.int .i64 m.turns) from rfl)
    have b3 := (hM.cell 3).trans (show _ = some (.int .i64 m.secs) from rfl)
    have b4 := (hM.cell 4).trans (show _ = some (.int .i64 m.spk) from rfl)
    have b5 := (hM.cell 5).trans (show _ = some (.slice A2 m.wait.length c2) from rfl)
    have b6 := (hM.cell 6).trans (show _ = some (.slice A3 m.shares.length c3) from rfl)
    have b7 := (hM.cell 7).trans (show _ = some (.slice A4 m.outs.length c4) from rfl)
    go_wp2_with fail
    refine (l25Good_is m A0 A1 A2 A3 A4 c0 c1 c2 c3 c4 h0 h1 h2 h3 h4 _ HV.out _ (R0.below (by repeat (first | exact Below.refl _ _ | refine Below.alloc ?_ (by first | exact Nat.le_refl _ | (simp <;> omega)) _ | refine Below.setCell ?_ (by first | exact Nat.le_refl _ | (simp <;> omega)) _))) (R1.below (by repeat (first | exact Below.refl _ _ | refine Below.alloc ?_ (by first | exact Nat.le_refl _ | (simp <;> omega)) _ | refine Below.setCell ?_ (by first | exact Nat.le_refl _ | (simp <;> omega)) _))) (R2.below (by repeat (first | exact Below.refl _ _ | refine Below.alloc ?_ (by first | exact Nat.le_refl _ | (simp <;> omega)) _ | refine Below.setCell ?_ (by first | exact Nat.le_refl _ | (simp <;> omega)) _))) (R3.below (by repeat (first | exact Below.refl _ _ | refine Below.alloc ?_ (by first | exact Nat.le_refl _ | (simp <;> omega)) _ | refine Below.setCell ?_ (by first | exact Nat.le_refl _ | (simp <;> omega)) _))) (R4.below (by repeat (first | exact Below.refl _ _ | refine Below.alloc ?_ (by first | exact Nat.le_refl _ | (simp <;> omega)) _ | refine Below.setCell ?_ (by first | exact Nat.le_refl _ | (simp <;> omega)) _))) k0 k1 k2 k3 k4).mono ?_
    rintro e w2 ⟨rfl, hb2⟩
    have hq2 : Below wX.heap.size wX w2 := bth (by repeat (first | exact Below.refl _ _ | refine Below.alloc ?_ (by first | exact Nat.le_refl _ | (simp <;> omega)) _ | refine Below.setCell ?_ (by first | exact Nat.le_refl _ | (simp <;> omega)) _)) hb2
    replace HB := bth HB hq2
    replace R0 := R0.below hq2
    replace R1 := R1.below hq2
    replace R2 := R2.below hq2
    replace R3 := R3.below hq2
    replace R4 := R4.below hq2
    replace hM := hM.below hq2 hM.lt
    replace b0 := (hM.cell 0).trans (show _ = some (.slice A0 m.rules.length c0) from rfl)
    replace b1 := (hM.cell 1).trans (show _ = some (.slice A1 m.pend.length c1) from rfl)
    replace b2 := (hM.cell 2).trans (show _ = some (.int .i64 m.turns) from rfl)
    replace b3 := (hM.cell 3).trans (show _ = some (.int .i64 m.secs) from rfl)
    replace b4 := (hM.cell 4).trans (show _ = some (.int .i64 m.spk) from rfl)
    replace b5 := (hM.cell 5).trans (show _ = some (.slice A2 m.wait.length c2) from rfl)
    replace b6 := (hM.cell 6).trans (show _ = some (.slice A3 m.shares.length c3) from rfl)
    replace b7 := (hM.cell 7).trans (show _ = some (.slice A4 m.outs.length c4) from rfl)
    go_wp2_with fail
    refine (l25Debate_is m.rules m.pend A0 A1 c0 c1 h0 h1 HP.out _ HD.out _ (R0.below (by repeat (first | exact Below.refl _ _ | refine Below.alloc ?_ (by first | exact Nat.le_refl _ | (simp <;> omega)) _ | refine Below.setCell ?_ (by first | exact Nat.le_refl _ | (simp <;> omega)) _))) (R1.below (by repeat (first | exact Below.refl _ _ | refine Below.alloc ?_ (by first | exact Nat.le_refl _ | (simp <;> omega)) _ | refine Below.setCell ?_ (by first | exact Nat.le_refl _ | (simp <;> omega)) _)))).mono ?_
    rintro e w3 ⟨rfl, hb3⟩
    have hq3 : Below w2.heap.size w2 w3 := bth (by repeat (first | exact Below.refl _ _ | refine Below.alloc ?_ (by first | exact Nat.le_refl _ | (simp <;> omega)) _ | refine Below.setCell ?_ (by first | exact Nat.le_refl _ | (simp <;> omega)) _)) hb3
    replace HB := bth HB hq3
    replace R0 := R0.below hq3
    replace R1 := R1.below hq3
    replace R2 := R2.below hq3
    replace R3 := R3.below hq3
    replace R4 := R4.below hq3
    replace hM := hM.below hq3 hM.lt
    replace b0 := (hM.cell 0).trans (show _ = some (.slice A0 m.rules.length c0) from rfl)
    replace b1 := (hM.cell 1).trans (show _ = some (.slice A1 m.pend.length c1) from rfl)
    replace b2 := (hM.cell 2).trans (show _ = some (.int .i64 m.turns) from rfl)
    replace b3 := (hM.cell 3).trans (show _ = some (.int .i64 m.secs) from rfl)
    replace b4 := (hM.cell 4).trans (show _ = some (.int .i64 m.spk) from rfl)
    replace b5 := (hM.cell 5).trans (show _ = some (.slice A2 m.wait.length c2) from rfl)
    replace b6 := (hM.cell 6).trans (show _ = some (.slice A3 m.shares.length c3) from rfl)
    replace b7 := (hM.cell 7).trans (show _ = some (.slice A4 m.outs.length c4) from rfl)
    go_wp2
    go_ret2
    rw [mbOut, HV.out, HD.out]
    exact ⟨rfl, (bth HB (by repeat (first | exact Below.refl _ _ | refine Below.alloc ?_ (by first | exact Nat.le_refl _ | (simp <;> omega)) _ | refine Below.setCell ?_ (by first | exact Nat.le_refl _ | (simp <;> omega)) _)))⟩
end Go.Proofs.Ytkkdegmfmimdgaa
