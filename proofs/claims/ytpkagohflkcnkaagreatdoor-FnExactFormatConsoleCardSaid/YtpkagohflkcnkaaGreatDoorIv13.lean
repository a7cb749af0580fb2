/- A console: counted, copied, compared, marked. -/
import Derived.Test.YtpkagohflkcnkaaGreatDoorIv12
import Derived.Deep.Cut
namespace Go.Proofs.YtpkagohflkcnkaaGreatDoor
open Go.RowKit Go.G9
structure Con where
  rules : List Rul
  pend : List Que
  turns : Int
  secs : Int
  spk : Int
  wait : List Int
  shares : List Sha
  outs : List Out
  dur : ByteArray
  pen : ByteArray
  cnt : Int
def Con.mee (c : Con) : Mee := ⟨c.rules, c.pend, c.turns, c.secs, c.spk, c.wait, c.shares, c.outs⟩
def Mee.con (m : Mee) (d p : ByteArray) (n : Int) : Con := ⟨m.rules, m.pend, m.turns, m.secs, m.spk, m.wait, m.shares, m.outs, d, p, n⟩
theorem eqLogC_is (d p : ByteArray) (n : Int) (w : World) : Calls Tryz.prog 20 #[.agg #[.string d, .string p, .int .i64 n], .agg #[.string d, .string p, .int .i64 n]] w fun e w' => e = .returned (.bool true) ∧ Below w.heap.size w w' := by
  go_enter Tryz.func20, Tryz.ntmps20
  go_wp2
  go_ret
  exact ⟨rfl, bl2 _ _ _⟩
set_option maxHeartbeats 2000000 in
set_option maxRecDepth 100000 in
theorem eqConsole_is (x : Con) (A0 A1 A2 A3 A4 D0 D1 D2 D3 D4 : Option Addr) (c0 c1 c2 c3 c4 d0 d1 d2 d3 d4 : Nat) (h0 : x.rules.length ≤ 1048576) (h1 : x.pend.length ≤ 1048576) (h2 : x.wait.length ≤ 1048576) (h3 : x.shares.length ≤ 1048576) (h4 : x.outs.length ≤ 1048576) (w : World) (R0 : Rds 7 Rul.cells w A0 x.rules) (R1 : Rds 3 Que.cells w A1 x.pend) (R2 : Rds 1 intC w A2 x.wait) (R3 : Rds 3 Sha.cells w A3 x.shares) (R4 : Rds 3 Out.cells w A4 x.outs) (Q0 : Rds 7 Rul.cells w D0 x.rules) (Q1 : Rds 3 Que.cells w D1 x.pend) (Q2 : Rds 1 intC w D2 x.wait) (Q3 : Rds 3 Sha.cells w D3 x.shares) (Q4 : Rds 3 Out.cells w D4 x.outs) :
  Calls Tryz.prog 9 #[.agg #[.slice A0 x.rules.length c0, .slice A1 x.pend.length c1, .int .i64 x.turns, .int .i64 x.secs, .int .i64 x.spk, .slice A2 x.wait.length c2, .slice A3 x.shares.length c3, .slice A4 x.outs.length c4, .string x.dur, .string x.pen, .int .i64 x.cnt], .agg #[.slice D0 x.rules.length d0, .slice D1 x.pend.length d1, .int .i64 x.turns, .int .i64 x.secs, .int .i64 x.spk, .slice D2 x.wait.length d2, .slice D3 x.shares.length d3, .slice D4 x.outs.length d4, .string x.dur, .string x.pen, .int .i64 x.cnt]] w fun e w' => e = .returned (.bool true) ∧ Below w.heap.size w w' := by
  go_enter Tryz.func9, Tryz.ntmps9
  go_upto_region 1 with fail
  have hq1 : Below w.heap.size w (World.alloc (World.alloc w (.cells #[.slice A0 x.rules.length c0, .slice A1 x.pend.length c1, .int .i64 x.turns, .int .i64 x.secs, .int .i64 x.spk, .slice A2 x.wait.length c2, .slice A3 x.shares.length c3, .slice A4 x.outs.length c4, .string x.dur, .string x.pen, .int .i64 x.cnt] 47)) (.cells #[.slice D0 x.rules.length d0, .slice D1 x.pend.length d1, .int .i64 x.turns, .int .i64 x.secs, .int .i64 x.spk, .slice D2 x.wait.length d2, .slice D3 x.shares.length d3, .slice D4 x.outs.length d4, .string x.dur, .string x.pen, .int .i64 x.cnt] 47)) := bl2 w _ _
  have hA : Blk (World.alloc (World.alloc w (.cells #[.slice A0 x.rules.length c0, .slice A1 x.pend.length c1, .int .i64 x.turns, .int .i64 x.secs, .int .i64 x.spk, .slice A2 x.wait.length c2, .slice A3 x.shares.length c3, .slice A4 x.outs.length c4, .string x.dur, .string x.pen, .int .i64 x.cnt] 47)) (.cells #[.slice D0 x.rules.length d0, .slice D1 x.pend.length d1, .int .i64 x.turns, .int .i64 x.secs, .int .i64 x.spk, .slice D2 x.wait.length d2, .slice D3 x.shares.length d3, .slice D4 x.outs.length d4, .string x.dur, .string x.pen, .int .i64 x.cnt] 47)) (w.heap.size) 47 #[.slice A0 x.rules.length c0, .slice A1 x.pend.length c1, .int .i64 x.turns, .int .i64 x.secs, .int .i64 x.spk, .slice A2 x.wait.length c2, .slice A3 x.shares.length c3, .slice A4 x.outs.length c4, .string x.dur, .string x.pen, .int .i64 x.cnt] := by repeat (first | exact Blk.new _ _ _ | exact Blk.new2 _ _ _ _ | exact Blk.new3 _ _ _ _ _ | exact Blk.new4 _ _ _ _ _ _ | refine Blk.alloc ?_ _)
  have hB : Blk (World.alloc (World.alloc w (.cells #[.slice A0 x.rules.length c0, .slice A1 x.pend.length c1, .int .i64 x.turns, .int .i64 x.secs, .int .i64 x.spk, .slice A2 x.wait.length c2, .slice A3 x.shares.length c3, .slice A4 x.outs.length c4, .string x.dur, .string x.pen, .int .i64 x.cnt] 47)) (.cells #[.slice D0 x.rules.length d0, .slice D1 x.pend.length d1, .int .i64 x.turns, .int .i64 x.secs, .int .i64 x.spk, .slice D2 x.wait.length d2, .slice D3 x.shares.length d3, .slice D4 x.outs.length d4, .string x.dur, .string x.pen, .int .i64 x.cnt] 47)) (w.heap.size + 1) 47 #[.slice D0 x.rules.length d0, .slice D1 x.pend.length d1, .int .i64 x.turns, .int .i64 x.secs, .int .i64 x.spk, .slice D2 x.wait.length d2, .slice D3 x.shares.length d3, .slice D4 x.outs.length d4, .string x.dur, .string x.pen, .int .i64 x.cnt] := by repeat (first | exact Blk.new _ _ _ | exact Blk.new2 _ _ _ _ | exact Blk.new3 _ _ _ _ _ | exact Blk.new4 _ _ _ _ _ _ | refine Blk.alloc ?_ _)
  replace R0 := R0.below hq1
  replace R1 := R1.below hq1
  replace R2 := R2.below hq1
  replace R3 := R3.below hq1
  replace R4 := R4.below hq1
  replace Q0 := Q0.below hq1
  replace Q1 := Q1.below hq1
  replace Q2 := Q2.below hq1
  replace Q3 := Q3.below hq1
  replace Q4 := Q4.below hq1
  generalize World.alloc (World.alloc w (.cells #[.slice A0 x.rules.length c0, .slice A1 x.pend.length c1, .int .i64 x.turns, .int .i64 x.secs, .int .i64 x.spk, .slice A2 x.wait.length c2, .slice A3 x.shares.length c3, .slice A4 x.outs.length c4, .string x.dur, .string x.pen, .int .i64 x.cnt] 47)) (.cells #[.slice D0 x.rules.length d0, .slice D1 x.pend.length d1, .int .i64 x.turns, .int .i64 x.secs, .int .i64 x.spk, .slice D2 x.wait.length d2, .slice D3 x.shares.length d3, .slice D4 x.outs.length d4, .string x.dur, .string x.pen, .int .i64 x.cnt] 47) = wX at *
  have HB := hq1
  have a0 := (hA.cell 0).trans (show _ = some (.slice A0 x.rules.length c0) from rfl)
  have a1 := (hA.cell 1).trans (show _ = some (.slice A1 x.pend.length c1) from rfl)
  have a2 := (hA.cell 2).trans (show _ = some (.int .i64 x.turns) from rfl)
  have a3 := (hA.cell 3).trans (show _ = some (.int .i64 x.secs) from rfl)
  have a4 := (hA.cell 4).trans (show _ = some (.int .i64 x.spk) from rfl)
  have a5 := (hA.cell 5).trans (show _ = some (.slice A2 x.wait.length c2) from rfl)
  have a6 := (hA.cell 6).trans (show _ = some (.slice A3 x.shares.length c3) from rfl)
  have a7 := (hA.cell 7).trans (show _ = some (.slice A4 x.outs.length c4) from rfl)
  have a8 := (hA.cell 8).trans (show _ = some (.string x.dur) from rfl)
  have a9 := (hA.cell 9).trans (show _ = some (.string x.pen) from rfl)
  have a10 := (hA.cell 10).trans (show _ = some (.int .i64 x.cnt) from rfl)
  have b0 := (hB.cell 0).trans (show _ = some (.slice D0 x.rules.length d0) from rfl)
  have b1 := (hB.cell 1).trans (show _ = some (.slice D1 x.pend.length d1) from rfl)
  have b2 := (hB.cell 2).trans (show _ = some (.int .i64 x.turns) from rfl)
  have b3 := (hB.cell 3).trans (show _ = some (.int .i64 x.secs) from rfl)
  have b4 := (hB.cell 4).trans (show _ = some (.int .i64 x.spk) from rfl)
  have b5 := (hB.cell 5).trans (show _ = some (.slice D2 x.wait.length d2) from rfl)
  have b6 := (hB.cell 6).trans (show _ = some (.slice D3 x.shares.length d3) from rfl)
  have b7 := (hB.cell 7).trans (show _ = some (.slice D4 x.outs.length d4) from rfl)
  have b8 := (hB.cell 8).trans (show _ = some (.string x.dur) from rfl)
  have b9 := (hB.cell 9).trans (show _ = some (.string x.pen) from rfl)
  have b10 := (hB.cell 10).trans (show _ = some (.int .i64 x.cnt) from rfl)
  have yhA := hA.lt
  have yhB := hB.lt
  go_wp2_with fail
  refine (eqMeeting_is x.mee A0 A1 A2 A3 A4 D0 D1 D2 D3 D4 c0 c1 c2 c3 c4 d0 d1 d2 d3 d4 h0 h1 h2 h3 h4 _ (R0.below (by repeat (first | exact Below.refl _ _ | refine Below.alloc ?_ (by first | exact Nat.le_refl _ | (simp <;> omega)) _ | refine Below.setCell ?_ (by first | exact Nat.le_refl _ | (simp <;> omega)) _))) (R1.below (by repeat (first | exact Below.refl _ _ | refine Below.alloc ?_ (by first | exact Nat.le_refl _ | (simp <;> omega)) _ | refine Below.setCell ?_ (by first | exact Nat.le_refl _ | (simp <;> omega)) _))) (R2.below (by repeat (first | exact Below.refl _ _ | refine Below.alloc ?_ (by first | exact Nat.le_refl _ | (simp <;> omega)) _ | refine Below.setCell ?_ (by first | exact Nat.le_refl _ | (simp <;> omega)) _))) (R3.below (by repeat (first | exact Below.refl _ _ | refine Below.alloc ?_ (by first | exact Nat.le_refl _ | (simp <;> omega)) _ | refine Below.setCell ?_ (by first | exact Nat.le_refl _ | (simp <;> omega)) _))) (R4.below (by repeat (first | exact Below.refl _ _ | refine Below.alloc ?_ (by first | exact Nat.le_refl _ | (simp <;> omega)) _ | refine Below.setCell ?_ (by first | exact Nat.le_refl _ | (simp <;> omega)) _))) (Q0.below (by repeat (first | exact Below.refl _ _ | refine Below.alloc ?_ (by first | exact Nat.le_refl _ | (simp <;> omega)) _ | refine Below.setCell ?_ (by first | exact Nat.le_refl _ | (simp <;> omega)) _))) (Q1.below (by repeat (first | exact Below.refl _ _ | refine Below.alloc ?_ (by first | exact Nat.le_refl _ | (simp <;> omega)) _ | refine Below.setCell ?_ (by first | exact Nat.le_refl _ | (simp <;> omega)) _))) (Q2.below (by repeat (first | exact Below.refl _ _ | refine Below.alloc ?_ (by first | exact Nat.le_refl _ | (simp <;> omega)) _ | refine Below.setCell ?_ (by first | exact Nat.le_refl _ | (simp <;> omega)) _))) (Q3.below (by repeat (first | exact Below.refl _ _ | refine Below.alloc ?_ (by first | exact Nat.le_refl _ | (simp <;> omega)) _ | refine Below.setCell ?_ (by first | exact Nat.le_refl _ | (simp <;> omega)) _))) (Q4.below (by repeat (first | exact Below.refl _ _ | refine Below.alloc ?_ (by first | exact Nat.le_refl _ | (simp <;> omega)) _ | refine Below.setCell ?_ (by first | exact Nat.le_refl _ | (simp <;> omega)) _)))).mono ?_
  rintro e w2 ⟨rfl, hb2⟩
  have hq2 : Below wX.heap.size wX w2 := bth (by repeat (first | exact Below.refl _ _ | refine Below.alloc ?_ (by first | exact Nat.le_refl _ | (simp <;> omega)) _ | refine Below.setCell ?_ (by first | exact Nat.le_refl _ | (simp <;> omega)) _)) hb2
  replace HB := bth HB hq2
  replace R0 := R0.below hq2
  replace R1 := R1.below hq2
  replace R2 := R2.below hq2
  replace R3 := R3.below hq2
  replace R4 := R4.below hq2
  replace Q0 := Q0.below hq2
  replace Q1 := Q1.below hq2
  replace Q2 := Q2.below hq2
  replace Q3 := Q3.below hq2
  replace Q4 := Q4.below hq2
  replace hA := hA.below hq2 hA.lt
  replace a0 := (hA.cell 0).trans (show _ = some (.slice A0 x.rules.length c0) from rfl)
  replace a1 := (hA.cell 1).trans (show _ = some (.slice A1 x.pend.length c1) from rfl)
  replace a2 := (hA.cell 2).trans (show _ = some (.int .i64 x.turns) from rfl)
  replace a3 := (hA.cell 3).trans (show _ = some (.int .i64 x.secs) from rfl)
  replace a4 := (hA.cell 4).trans (show _ = some (.int .i64 x.spk) from rfl)
  replace a5 := (hA.cell 5).trans (show _ = some (.slice A2 x.wait.length c2) from rfl)
  replace a6 := (hA.cell 6).trans (show _ = some (.slice A3 x.shares.length c3) from rfl)
  replace a7 := (hA.cell 7).trans (show _ = some (.slice A4 x.outs.length c4) from rfl)
  replace a8 := (hA.cell 8).trans (show _ = some (.string x.dur) from rfl)
  replace a9 := (hA.cell 9).trans (show _ = some (.string x.pen) from rfl)
  replace a10 := (hA.cell 10).trans (show _ = some (.int .i64 x.cnt) from rfl)
  replace hB := hB.below hq2 hB.lt
  replace b0 := (hB.cell 0).trans (show _ = some (.slice D0 x.rules.length d0) from rfl)
  replace b1 := (hB.cell 1).trans (show _ = some (.slice D1 x.pend.length d1) from rfl)
  replace b2 := (hB.cell 2).trans (show _ = some (.int .i64 x.turns) from rfl)
  replace b3 := (hB.cell 3).trans (show _ = some (.int .i64 x.secs) from rfl)
  replace b4 := (hB.cell 4).trans (show _ = some (.int .i64 x.spk) from rfl)
  replace b5 := (hB.cell 5).trans (show _ = some (.slice D2 x.wait.length d2) from rfl)
  replace b6 := (hB.cell 6).trans (show _ = some (.slice D3 x.shares.length d3) from rfl)
  replace b7 := (hB.cell 7).trans (show _ = some (.slice D4 x.outs.length d4) from rfl)
  replace b8 := (hB.cell 8).trans (show _ = some (.string x.dur) from rfl)
  replace b9 := (hB.cell 9).trans (show _ = some (.string x.pen) from rfl)
  replace b10 := (hB.cell 10).trans (show _ = some (.int .i64 x.cnt) from rfl)
  have yhA := hA.lt
  have yhB := hB.lt
  go_wp2_with fail
  refine (eqLogC_is x.dur x.pen x.cnt _).mono ?_
  rintro e w3 ⟨rfl, hb3⟩
  have hq3 : Below w2.heap.size w2 w3 := bth (by repeat (first | exact Below.refl _ _ | refine Below.alloc ?_ (by first | exact Nat.le_refl _ | (simp <;> omega)) _ | refine Below.setCell ?_ (by first | exact Nat.le_refl _ | (simp <;> omega)) _)) hb3
  replace HB := bth HB hq3
  replace R0 := R0.below hq3
  replace R1 := R1.below hq3
  replace R2 := R2.below hq3
  replace R3 := R3.below hq3
  replace R4 := R4.below hq3
  replace Q0 := Q0.below hq3
  replace Q1 := Q1.below hq3
  replace Q2 := Q2.below hq3
  replace Q3 := Q3.below hq3
  replace Q4 := Q4.below hq3
  replace hA := hA.below hq3 hA.lt
  replace a0 := (hA.cell 0).trans (show _ = some (.slice A0 x.rules.length c0) from rfl)
  replace a1 := (hA.cell 1).trans (show _ = some (.slice A1 x.pend.length c1) from rfl)
  replace a2 := (hA.cell 2).trans (show _ = some (.int .i64 x.turns) from rfl)
  replace a3 := (hA.cell 3).trans (show _ = some (.int .i64 x.secs) from rfl)
  replace a4 := (hA.cell 4).trans (show _ = some (.int .i64 x.spk) from rfl)
  replace a5 := (hA.cell 5).trans (show _ = some (.slice A2 x.wait.length c2) from rfl)
  replace a6 := (hA.cell 6).trans (show _ = some (.slice A3 x.shares.length c3) from rfl)
  replace a7 := (hA.cell 7).trans (show _ = some (.slice A4 x.outs.length c4) from rfl)
  replace a8 := (hA.cell 8).trans (show _ = some (.string x.dur) from rfl)
  replace a9 := (hA.cell 9).trans (show _ = some (.string x.pen) from rfl)
  replace a10 := (hA.cell 10).trans (show _ = some (.int .i64 x.cnt) from rfl)
  replace hB := hB.below hq3 hB.lt
  replace b0 := (hB.cell 0).trans (show _ = some (.slice D0 x.rules.length d0) from rfl)
  replace b1 := (hB.cell 1).trans (show _ = some (.slice D1 x.pend.length d1) from rfl)
  replace b2 := (hB.cell 2).trans (show _ = some (.int .i64 x.turns) from rfl)
  replace b3 := (hB.cell 3).trans (show _ = some (.int .i64 x.secs) from rfl)
  replace b4 := (hB.cell 4).trans (show _ = some (.int .i64 x.spk) from rfl)
  replace b5 := (hB.cell 5).trans (show _ = some (.slice D2 x.wait.length d2) from rfl)
  replace b6 := (hB.cell 6).trans (show _ = some (.slice D3 x.shares.length d3) from rfl)
  replace b7 := (hB.cell 7).trans (show _ = some (.slice D4 x.outs.length d4) from rfl)
  replace b8 := (hB.cell 8).trans (show _ = some (.string x.dur) from rfl)
  replace b9 := (hB.cell 9).trans (show _ = some (.string x.pen) from rfl)
  replace b10 := (hB.cell 10).trans (show _ = some (.int .i64 x.cnt) from rfl)
  have yhA := hA.lt
  have yhB := hB.lt
  go_wp2
  go_ret
  exact ⟨rfl, (bth HB (by repeat (first | exact Below.refl _ _ | refine Below.alloc ?_ (by first | exact Nat.le_refl _ | (simp <;> omega)) _ | refine Below.setCell ?_ (by first | exact Nat.le_refl _ | (simp <;> omega)) _)))⟩
theorem szLogC_is (d p : ByteArray) (n : Int) (hd : d.size ≤ maxLen) (hp : p.size ≤ maxLen) (l : Int) (h0 : 0 ≤ l) (h1 : l ≤ 1048576) (w : World) :
  Calls Tryz.prog 13 #[.agg #[.string d, .string p, .int .i64 n], .int .i64 l] w fun e w' => ∃ q : Int, e = .returned (.int .i64 q) ∧ -1 ≤ q ∧ q ≤ l ∧ (q < 0 ∨ d.size + p.size ≤ l) ∧ Below w.heap.size w w' := by
  unfold maxLen at hd hp
  go_enter Tryz.func13, Tryz.ntmps13
  go_wp2
  all_goals go_ret
  all_goals exact ⟨_, rfl, by omega, by omega, by omega, bl1 _ _⟩
set_option maxHeartbeats 2000000 in
set_option maxRecDepth 100000 in
theorem szConsole_is (x : Con) (A0 A1 A2 A3 A4 : Option Addr) (c0 c1 c2 c3 c4 : Nat) (h0 : x.rules.length ≤ maxLen) (h1 : x.pend.length ≤ maxLen) (h2 : x.wait.length ≤ maxLen) (h3 : x.shares.length ≤ maxLen) (h4 : x.outs.length ≤ maxLen) (s0 : x.dur.size ≤ maxLen) (s1 : x.pen.size ≤ maxLen) (l : Int) (l0 : 0 ≤ l) (l1 : l ≤ 1048576) (w : World) (R0 : Rds 7 Rul.cells w A0 x.rules) :
  Calls Tryz.prog 5 #[.agg #[.slice A0 x.rules.length c0, .slice A1 x.pend.length c1, .int .i64 x.turns, .int .i64 x.secs, .int .i64 x.spk, .slice A2 x.wait.length c2, .slice A3 x.shares.length c3, .slice A4 x.outs.length c4, .string x.dur, .string x.pen, .int .i64 x.cnt], .int .i64 l] w fun e w' => ∃ r : Int, e = .returned (.int .i64 r) ∧ -1 ≤ r ∧ r ≤ l ∧ (r < 0 ∨ x.rules.length ≤ 1048576 ∧ x.pend.length ≤ 1048576 ∧ x.wait.length ≤ 1048576 ∧ x.shares.length ≤ 1048576 ∧ x.outs.length ≤ 1048576 ∧ x.dur.size + x.pen.size ≤ 1048576) ∧ Below w.heap.size w w' := by
  go_enter Tryz.func5, Tryz.ntmps5
  go_upto_region 1 with fail
  have hq1 : Below w.heap.size w (World.alloc w (.cells #[.slice A0 x.rules.length c0, .slice A1 x.pend.length c1, .int .i64 x.turns, .int .i64 x.secs, .int .i64 x.spk, .slice A2 x.wait.length c2, .slice A3 x.shares.length c3, .slice A4 x.outs.length c4, .string x.dur, .string x.pen, .int .i64 x.cnt] 34)) := bl1 w _
  have hA : Blk (World.alloc w (.cells #[.slice A0 x.rules.length c0, .slice A1 x.pend.length c1, .int .i64 x.turns, .int .i64 x.secs, .int .i64 x.spk, .slice A2 x.wait.length c2, .slice A3 x.shares.length c3, .slice A4 x.outs.length c4, .string x.dur, .string x.pen, .int .i64 x.cnt] 34)) (w.heap.size) 34 #[.slice A0 x.rules.length c0, .slice A1 x.pend.length c1, .int .i64 x.turns, .int .i64 x.secs, .int .i64 x.spk, .slice A2 x.wait.length c2, .slice A3 x.shares.length c3, .slice A4 x.outs.length c4, .string x.dur, .string x.pen, .int .i64 x.cnt] := by repeat (first | exact Blk.new _ _ _ | exact Blk.new2 _ _ _ _ | exact Blk.new3 _ _ _ _ _ | exact Blk.new4 _ _ _ _ _ _ | refine Blk.alloc ?_ _)
  replace R0 := R0.below hq1
  generalize World.alloc w (.cells #[.slice A0 x.rules.length c0, .slice A1 x.pend.length c1, .int .i64 x.turns, .int .i64 x.secs, .int .i64 x.spk, .slice A2 x.wait.length c2, .slice A3 x.shares.length c3, .slice A4 x.outs.length c4, .string x.dur, .string x.pen, .int .i64 x.cnt] 34) = wX at *
  have HB := hq1
  have a0 := (hA.cell 0).trans (show _ = some (.slice A0 x.rules.length c0) from rfl)
  have a1 := (hA.cell 1).trans (show _ = some (.slice A1 x.pend.length c1) from rfl)
  have a2 := (hA.cell 2).trans (show _ = some (.int .i64 x.turns) from rfl)
  have a3 := (hA.cell 3).trans (show _ = some (.int .i64 x.secs) from rfl)
  have a4 := (hA.cell 4).trans (show _ = some (.int .i64 x.spk) from rfl)
  have a5 := (hA.cell 5).trans (show _ = some (.slice A2 x.wait.length c2) from rfl)
  have a6 := (hA.cell 6).trans (show _ = some (.slice A3 x.shares.length c3) from rfl)
  have a7 := (hA.cell 7).trans (show _ = some (.slice A4 x.outs.length c4) from rfl)
  have a8 := (hA.cell 8).trans (show _ = some (.string x.dur) from rfl)
  have a9 := (hA.cell 9).trans (show _ = some (.string x.pen) from rfl)
  have a10 := (hA.cell 10).trans (show _ = some (.int .i64 x.cnt) from rfl)
  have yhA := hA.lt
  go_wp2_with fail
  refine (szMeeting_is x.mee A0 A1 A2 A3 A4 c0 c1 c2 c3 c4 h0 h1 h2 h3 h4 l l0 l1 _ (R0.below (by repeat (first | exact Below.refl _ _ | refine Below.alloc ?_ (by first | exact Nat.le_refl _ | (simp <;> omega)) _ | refine Below.setCell ?_ (by first | exact Nat.le_refl _ | (simp <;> omega)) _)))).mono ?_
  rintro e w2 ⟨r1, rfl, x0, y0, z0, hb2⟩
  have hq2 : Below wX.heap.size wX w2 := bth (by repeat (first | exact Below.refl _ _ | refine Below.alloc ?_ (by first | exact Nat.le_refl _ | (simp <;> omega)) _ | refine Below.setCell ?_ (by first | exact Nat.le_refl _ | (simp <;> omega)) _)) hb2
  replace HB := bth HB hq2
  replace R0 := R0.below hq2
  replace hA := hA.below hq2 hA.lt
  replace a0 := (hA.cell 0).trans (show _ = some (.slice A0 x.rules.length c0) from rfl)
  replace a1 := (hA.cell 1).trans (show _ = some (.slice A1 x.pend.length c1) from rfl)
  replace a2 := (hA.cell 2).trans (show _ = some (.int .i64 x.turns) from rfl)
  replace a3 := (hA.cell 3).trans (show _ = some (.int .i64 x.secs) from rfl)
  replace a4 := (hA.cell 4).trans (show _ = some (.int .i64 x.spk) from rfl)
  replace a5 := (hA.cell 5).trans (show _ = some (.slice A2 x.wait.length c2) from rfl)
  replace a6 := (hA.cell 6).trans (show _ = some (.slice A3 x.shares.length c3) from rfl)
  replace a7 := (hA.cell 7).trans (show _ = some (.slice A4 x.outs.length c4) from rfl)
  replace a8 := (hA.cell 8).trans (show _ = some (.string x.dur) from rfl)
  replace a9 := (hA.cell 9).trans (show _ = some (.string x.pen) from rfl)
  replace a10 := (hA.cell 10).trans (show _ = some (.int .i64 x.cnt) from rfl)
  have zz := Lib.hid z0; clear z0
  have yhA := hA.lt
  by_cases n0 : r1 < 0
  · go_wp2
    go_ret
    exact ⟨_, rfl, by omega, by omega, .inl (by omega), (bth HB (by repeat (first | exact Below.refl _ _ | refine Below.alloc ?_ (by first | exact Nat.le_refl _ | (simp <;> omega)) _ | refine Below.setCell ?_ (by first | exact Nat.le_refl _ | (simp <;> omega)) _)))⟩
  go_wp2_with fail
  refine (szLogC_is x.dur x.pen x.cnt s0 s1 r1 (by omega) (by omega) _).mono ?_
  rintro e w3 ⟨r2, rfl, x1, y1, z1, hb3⟩
  have hq3 : Below w2.heap.size w2 w3 := bth (by repeat (first | exact Below.refl _ _ | refine Below.alloc ?_ (by first | exact Nat.le_refl _ | (simp <;> omega)) _ | refine Below.setCell ?_ (by first | exact Nat.le_refl _ | (simp <;> omega)) _)) hb3
  replace HB := bth HB hq3
  replace R0 := R0.below hq3
  replace hA := hA.below hq3 hA.lt
  replace a0 := (hA.cell 0).trans (show _ = some (.slice A0 x.rules.length c0) from rfl)
  replace a1 := (hA.cell 1).trans (show _ = some (.slice A1 x.pend.length c1) from rfl)
  replace a2 := (hA.cell 2).trans (show _ = some (.int .i64 x.turns) from rfl)
  replace a3 := (hA.cell 3).trans (show _ = some (.int .i64 x.secs) from rfl)
  replace a4 := (hA.cell 4).trans (show _ = some (.int .i64 x.spk) from rfl)
  replace a5 := (hA.cell 5).trans (show _ = some (.slice A2 x.wait.length c2) from rfl)
  replace a6 := (hA.cell 6).trans (show _ = some (.slice A3 x.shares.length c3) from rfl)
  replace a7 := (hA.cell 7).trans (show _ = some (.slice A4 x.outs.length c4) from rfl)
  replace a8 := (hA.cell 8).trans (show _ = some (.string x.dur) from rfl)
  replace a9 := (hA.cell 9).trans (show _ = some (.string x.pen) from rfl)
  replace a10 := (hA.cell 10).trans (show _ = some (.int .i64 x.cnt) from rfl)
  have zy := Lib.hid z1; clear z1
  have yhA := hA.lt
  by_cases n1 : r2 < 0
  · go_wp2
    go_ret
    exact ⟨_, rfl, by omega, by omega, .inl (by omega), (bth HB (by repeat (first | exact Below.refl _ _ | refine Below.alloc ?_ (by first | exact Nat.le_refl _ | (simp <;> omega)) _ | refine Below.setCell ?_ (by first | exact Nat.le_refl _ | (simp <;> omega)) _)))⟩
  go_wp2
  go_ret
  have z0 := zz.out
  have z1 := zy.out
  rcases z0 with z0 | ⟨b0, b1, b2, b3, b4⟩
  · omega
  · exact ⟨_, rfl, by omega, by omega, .inr ⟨b0, b1, b2, b3, b4, by omega⟩, (bth HB (by repeat (first | exact Below.refl _ _ | refine Below.alloc ?_ (by first | exact Nat.le_refl _ | (simp <;> omega)) _ | refine Below.setCell ?_ (by first | exact Nat.le_refl _ | (simp <;> omega)) _)))⟩
theorem toLogC_is (d p : ByteArray) (n : Int) (w : World) : Calls Tryz.prog 16 #[.agg #[.string d, .string p, .int .i64 n]] w fun e w' => e = .returned (.agg #[.string d, .string p, .int .i64 n]) ∧ Below w.heap.size w w' := by
  go_enter Tryz.func16, Tryz.ntmps16
  go_wp2
  exact bodyPost_ret (v := .agg #[.string d, .string p, .int .i64 n]) (by simp [results, Tryz.results16, go_sem]) rfl ⟨rfl, bl3 _ _ _ _⟩
theorem toMeetC_is (x : Con) (A0 A1 A2 A3 A4 : Option Addr) (c0 c1 c2 c3 c4 : Nat) (h0 : x.rules.length ≤ 1048576) (h1 : x.pend.length ≤ 1048576) (h2 : x.wait.length ≤ 1048576) (h3 : x.shares.length ≤ 1048576) (h4 : x.outs.length ≤ 1048576) (w : World) (R0 : Rds 7 Rul.cells w A0 x.rules) (R1 : Rds 3 Que.cells w A1 x.pend) (R2 : Rds 1 intC w A2 x.wait) (R3 : Rds 3 Sha.cells w A3 x.shares) (R4 : Rds 3 Out.cells w A4 x.outs) :
  Calls Tryz.prog 15 #[.agg #[.slice A0 x.rules.length c0, .slice A1 x.pend.length c1, .int .i64 x.turns, .int .i64 x.secs, .int .i64 x.spk, .slice A2 x.wait.length c2, .slice A3 x.shares.length c3, .slice A4 x.outs.length c4]] w fun e w' => ∃ X0 X1 X2 X3 X4, e = .returned (.agg #[.slice X0 x.rules.length x.rules.length, .slice X1 x.pend.length x.pend.length, .int .i64 x.turns, .int .i64 x.secs, .int .i64 x.spk, .slice X2 x.wait.length x.wait.length, .slice X3 x.shares.length x.shares.length, .slice X4 x.outs.length x.outs.length]) ∧ OwnV w.heap.size 65 7 Rul.cells w' (.slice X0 x.rules.length x.rules.length) x.rules ∧ OwnV w.heap.size 63 3 Que.cells w' (.slice X1 x.pend.length x.pend.length) x.pend ∧ OwnV w.heap.size 3 1 intC w' (.slice X2 x.wait.length x.wait.length) x.wait ∧ OwnV w.heap.size 109 3 Sha.cells w' (.slice X3 x.shares.length x.shares.length) x.shares ∧ OwnV w.heap.size 81 3 Out.cells w' (.slice X4 x.outs.length x.outs.length) x.outs ∧ Apart [.slice X0 x.rules.length x.rules.length, .slice X1 x.pend.length x.pend.length, .slice X2 x.wait.length x.wait.length, .slice X3 x.shares.length x.shares.length, .slice X4 x.outs.length x.outs.length] ∧ Below w.heap.size w w' :=
  toMeeting_is x.mee A0 A1 A2 A3 A4 c0 c1 c2 c3 c4 h0 h1 h2 h3 h4 w R0 R1 R2 R3 R4
set_option maxHeartbeats 8000000 in
set_option maxRecDepth 100000 in
theorem toConsole_is (x : Con) (A0 A1 A2 A3 A4 : Option Addr) (c0 c1 c2 c3 c4 : Nat) (h0 : x.rules.length ≤ 1048576) (h1 : x.pend.length ≤ 1048576) (h2 : x.wait.length ≤ 1048576) (h3 : x.shares.length ≤ 1048576) (h4 : x.outs.length ≤ 1048576) (_hs : x.dur.size + x.pen.size ≤ 1048576) (w : World) (R0 : Rds 7 Rul.cells w A0 x.rules) (R1 : Rds 3 Que.cells w A1 x.pend) (R2 : Rds 1 intC w A2 x.wait) (R3 : Rds 3 Sha.cells w A3 x.shares) (R4 : Rds 3 Out.cells w A4 x.outs) :
  Calls Tryz.prog 7 #[.agg #[.slice A0 x.rules.length c0, .slice A1 x.pend.length c1, .int .i64 x.turns, .int .i64 x.secs, .int .i64 x.spk, .slice A2 x.wait.length c2, .slice A3 x.shares.length c3, .slice A4 x.outs.length c4, .string x.dur, .string x.pen, .int .i64 x.cnt]] w fun e w' => ∃ X0 X1 X2 X3 X4, e = .returned (.agg #[.slice X0 x.rules.length x.rules.length, .slice X1 x.pend.length x.pend.length, .int .i64 x.turns, .int .i64 x.secs, .int .i64 x.spk, .slice X2 x.wait.length x.wait.length, .slice X3 x.shares.length x.shares.length, .slice X4 x.outs.length x.outs.length, .string x.dur, .string x.pen, .int .i64 x.cnt]) ∧ OwnV w.heap.size 65 7 Rul.cells w' (.slice X0 x.rules.length x.rules.length) x.rules ∧ OwnV w.heap.size 63 3 Que.cells w' (.slice X1 x.pend.length x.pend.length) x.pend ∧ OwnV w.heap.size 3 1 intC w' (.slice X2 x.wait.length x.wait.length) x.wait ∧ OwnV w.heap.size 109 3 Sha.cells w' (.slice X3 x.shares.length x.shares.length) x.shares ∧ OwnV w.heap.size 81 3 Out.cells w' (.slice X4 x.outs.length x.outs.length) x.outs ∧ Apart [.slice X0 x.rules.length x.rules.length, .slice X1 x.pend.length x.pend.length, .slice X2 x.wait.length x.wait.length, .slice X3 x.shares.length x.shares.length, .slice X4 x.outs.length x.outs.length] ∧ Below w.heap.size w w' := by
  have S0 := Lib.hid R0; have S1 := Lib.hid R1; have S2 := Lib.hid R2; have S3 := Lib.hid R3; have S4 := Lib.hid R4; clear R0 R1 R2 R3 R4
  go_enter Tryz.func7, Tryz.ntmps7
  go_upto_region 2 with fail
  have hq1 : Below w.heap.size w (World.alloc (World.alloc (World.alloc w (.cells #[.slice A0 x.rules.length c0, .slice A1 x.pend.length c1, .int .i64 x.turns, .int .i64 x.secs, .int .i64 x.spk, .slice A2 x.wait.length c2, .slice A3 x.shares.length c3, .slice A4 x.outs.length c4, .string x.dur, .string x.pen, .int .i64 x.cnt] 34)) (.cells #[.slice none 0 0, .slice none 0 0, .int .i64 0, .int .i64 0, .int .i64 0, .slice none 0 0, .slice none 0 0, .slice none 0 0, .string ⟨#[]⟩, .string ⟨#[]⟩, .int .i64 0] 47)) (.cells #[.slice none 0 0, .slice none 0 0, .int .i64 0, .int .i64 0, .int .i64 0, .slice none 0 0, .slice none 0 0, .slice none 0 0, .string ⟨#[]⟩, .string ⟨#[]⟩, .int .i64 0] 47)) := bl3 w _ _ _
  have hA : Blk (World.alloc (World.alloc (World.alloc w (.cells #[.slice A0 x.rules.length c0, .slice A1 x.pend.length c1, .int .i64 x.turns, .int .i64 x.secs, .int .i64 x.spk, .slice A2 x.wait.length c2, .slice A3 x.shares.length c3, .slice A4 x.outs.length c4, .string x.dur, .string x.pen, .int .i64 x.cnt] 34)) (.cells #[.slice none 0 0, .slice none 0 0, .int .i64 0, .int .i64 0, .int .i64 0, .slice none 0 0, .slice none 0 0, .slice none 0 0, .string ⟨#[]⟩, .string ⟨#[]⟩, .int .i64 0] 47)) (.cells #[.slice none 0 0, .slice none 0 0, .int .i64 0, .int .i64 0, .int .i64 0, .slice none 0 0, .slice none 0 0, .slice none 0 0, .string ⟨#[]⟩, .string ⟨#[]⟩, .int .i64 0] 47)) (w.heap.size) 34 #[.slice A0 x.rules.length c0, .slice A1 x.pend.length c1, .int .i64 x.turns, .int .i64 x.secs, .int .i64 x.spk, .slice A2 x.wait.length c2, .slice A3 x.shares.length c3, .slice A4 x.outs.length c4, .string x.dur, .string x.pen, .int .i64 x.cnt] := by repeat (first | exact Blk.new _ _ _ | exact Blk.new2 _ _ _ _ | exact Blk.new3 _ _ _ _ _ | exact Blk.new4 _ _ _ _ _ _ | refine Blk.alloc ?_ _)
  have hZ : Blk (World.alloc (World.alloc (World.alloc w (.cells #[.slice A0 x.rules.length c0, .slice A1 x.pend.length c1, .int .i64 x.turns, .int .i64 x.secs, .int .i64 x.spk, .slice A2 x.wait.length c2, .slice A3 x.shares.length c3, .slice A4 x.outs.length c4, .string x.dur, .string x.pen, .int .i64 x.cnt] 34)) (.cells #[.slice none 0 0, .slice none 0 0, .int .i64 0, .int .i64 0, .int .i64 0, .slice none 0 0, .slice none 0 0, .slice none 0 0, .string ⟨#[]⟩, .string ⟨#[]⟩, .int .i64 0] 47)) (.cells #[.slice none 0 0, .slice none 0 0, .int .i64 0, .int .i64 0, .int .i64 0, .slice none 0 0, .slice none 0 0, .slice none 0 0, .string ⟨#[]⟩, .string ⟨#[]⟩, .int .i64 0] 47)) (w.heap.size + 1) 47 #[.slice none 0 0, .slice none 0 0, .int .i64 0, .int .i64 0, .int .i64 0, .slice none 0 0, .slice none 0 0, .slice none 0 0, .string ⟨#[]⟩, .string ⟨#[]⟩, .int .i64 0] := by repeat (first | exact Blk.new _ _ _ | exact Blk.new2 _ _ _ _ | exact Blk.new3 _ _ _ _ _ | exact Blk.new4 _ _ _ _ _ _ | refine Blk.alloc ?_ _)
  have hG : Blk (World.alloc (World.alloc (World.alloc w (.cells #[.slice A0 x.rules.length c0, .slice A1 x.pend.length c1, .int .i64 x.turns, .int .i64 x.secs, .int .i64 x.spk, .slice A2 x.wait.length c2, .slice A3 x.shares.length c3, .slice A4 x.outs.length c4, .string x.dur, .string x.pen, .int .i64 x.cnt] 34)) (.cells #[.slice none 0 0, .slice none 0 0, .int .i64 0, .int .i64 0, .int .i64 0, .slice none 0 0, .slice none 0 0, .slice none 0 0, .string ⟨#[]⟩, .string ⟨#[]⟩, .int .i64 0] 47)) (.cells #[.slice none 0 0, .slice none 0 0, .int .i64 0, .int .i64 0, .int .i64 0, .slice none 0 0, .slice none 0 0, .slice none 0 0, .string ⟨#[]⟩, .string ⟨#[]⟩, .int .i64 0] 47)) (w.heap.size + 1 + 1) 47 #[.slice none 0 0, .slice none 0 0, .int .i64 0, .int .i64 0, .int .i64 0, .slice none 0 0, .slice none 0 0, .slice none 0 0, .string ⟨#[]⟩, .string ⟨#[]⟩, .int .i64 0] := by repeat (first | exact Blk.new _ _ _ | exact Blk.new2 _ _ _ _ | exact Blk.new3 _ _ _ _ _ | exact Blk.new4 _ _ _ _ _ _ | refine Blk.alloc ?_ _)
  generalize World.alloc (World.alloc (World.alloc w (.cells #[.slice A0 x.rules.length c0, .slice A1 x.pend.length c1, .int .i64 x.turns, .int .i64 x.secs, .int .i64 x.spk, .slice A2 x.wait.length c2, .slice A3 x.shares.length c3, .slice A4 x.outs.length c4, .string x.dur, .string x.pen, .int .i64 x.cnt] 34)) (.cells #[.slice none 0 0, .slice none 0 0, .int .i64 0, .int .i64 0, .int .i64 0, .slice none 0 0, .slice none 0 0, .slice none 0 0, .string ⟨#[]⟩, .string ⟨#[]⟩, .int .i64 0] 47)) (.cells #[.slice none 0 0, .slice none 0 0, .int .i64 0, .int .i64 0, .int .i64 0, .slice none 0 0, .slice none 0 0, .slice none 0 0, .string ⟨#[]⟩, .string ⟨#[]⟩, .int .i64 0] 47) = wX at *
  have HB := hq1
  have a0 := (hA.cell 0).trans (show _ = some (.slice A0 x.rules.length c0) from rfl)
  have a1 := (hA.cell 1).trans (show _ = some (.slice A1 x.pend.length c1) from rfl)
  have a2 := (hA.cell 2).trans (show _ = some (.int .i64 x.turns) from rfl)
  have a3 := (hA.cell 3).trans (show _ = some (.int .i64 x.secs) from rfl)
  have a4 := (hA.cell 4).trans (show _ = some (.int .i64 x.spk) from rfl)
  have a5 := (hA.cell 5).trans (show _ = some (.slice A2 x.wait.length c2) from rfl)
  have a6 := (hA.cell 6).trans (show _ = some (.slice A3 x.shares.length c3) from rfl)
  have a7 := (hA.cell 7).trans (show _ = some (.slice A4 x.outs.length c4) from rfl)
  have a8 := (hA.cell 8).trans (show _ = some (.string x.dur) from rfl)
  have a9 := (hA.cell 9).trans (show _ = some (.string x.pen) from rfl)
  have a10 := (hA.cell 10).trans (show _ = some (.int .i64 x.cnt) from rfl)
  have z0 := (hZ.cell 0).trans (show _ = some (.slice none 0 0) from rfl)
  have z1 := (hZ.cell 1).trans (show _ = some (.slice none 0 0) from rfl)
  have z2 := (hZ.cell 2).trans (show _ = some (.int .i64 0) from rfl)
  have z3 := (hZ.cell 3).trans (show _ = some (.int .i64 0) from rfl)
  have z4 := (hZ.cell 4).trans (show _ = some (.int .i64 0) from rfl)
  have z5 := (hZ.cell 5).trans (show _ = some (.slice none 0 0) from rfl)
  have z6 := (hZ.cell 6).trans (show _ = some (.slice none 0 0) from rfl)
  have z7 := (hZ.cell 7).trans (show _ = some (.slice none 0 0) from rfl)
  have z8 := (hZ.cell 8).trans (show _ = some (.string ⟨#[]⟩) from rfl)
  have z9 := (hZ.cell 9).trans (show _ = some (.string ⟨#[]⟩) from rfl)
  have z10 := (hZ.cell 10).trans (show _ = some (.int .i64 0) from rfl)
  have g0 := (hG.cell 0).trans (show _ = some (.slice none 0 0) from rfl)
  have g1 := (hG.cell 1).trans (show _ = some (.slice none 0 0) from rfl)
  have g2 := (hG.cell 2).trans (show _ = some (.int .i64 0) from rfl)
  have g3 := (hG.cell 3).trans (show _ = some (.int .i64 0) from rfl)
  have g4 := (hG.cell 4).trans (show _ = some (.int .i64 0) from rfl)
  have g5 := (hG.cell 5).trans (show _ = some (.slice none 0 0) from rfl)
  have g6 := (hG.cell 6).trans (show _ = some (.slice none 0 0) from rfl)
  have g7 := (hG.cell 7).trans (show _ = some (.slice none 0 0) from rfl)
  have g8 := (hG.cell 8).trans (show _ = some (.string ⟨#[]⟩) from rfl)
  have g9 := (hG.cell 9).trans (show _ = some (.string ⟨#[]⟩) from rfl)
  have g10 := (hG.cell 10).trans (show _ = some (.int .i64 0) from rfl)
  have q0 := hG.lt
  go_wp2_with fail
  refine (toMeetC_is x A0 A1 A2 A3 A4 c0 c1 c2 c3 c4 h0 h1 h2 h3 h4 _ (S0.out.below HB) (S1.out.below HB) (S2.out.below HB) (S3.out.below HB) (S4.out.below HB)).mono ?_
  rintro e w2 ⟨X0, X1, X2, X3, X4, rfl, O0, O1, O2, O3, O4, ap, hb2⟩
  have hq2 : Below wX.heap.size wX w2 := bth (by repeat (first | exact Below.refl _ _ | refine Below.alloc ?_ (by first | exact Nat.le_refl _ | (simp <;> omega)) _ | refine Below.setCell ?_ (by first | exact Nat.le_refl _ | (simp <;> omega)) _)) hb2
  replace HB := bth HB hq2
  replace hA := hA.below hq2 hA.lt
  replace a0 := (hA.cell 0).trans (show _ = some (.slice A0 x.rules.length c0) from rfl)
  replace a1 := (hA.cell 1).trans (show _ = some (.slice A1 x.pend.length c1) from rfl)
  replace a2 := (hA.cell 2).trans (show _ = some (.int .i64 x.turns) from rfl)
  replace a3 := (hA.cell 3).trans (show _ = some (.int .i64 x.secs) from rfl)
  replace a4 := (hA.cell 4).trans (show _ = some (.int .i64 x.spk) from rfl)
  replace a5 := (hA.cell 5).trans (show _ = some (.slice A2 x.wait.length c2) from rfl)
  replace a6 := (hA.cell 6).trans (show _ = some (.slice A3 x.shares.length c3) from rfl)
  replace a7 := (hA.cell 7).trans (show _ = some (.slice A4 x.outs.length c4) from rfl)
  replace a8 := (hA.cell 8).trans (show _ = some (.string x.dur) from rfl)
  replace a9 := (hA.cell 9).trans (show _ = some (.string x.pen) from rfl)
  replace a10 := (hA.cell 10).trans (show _ = some (.int .i64 x.cnt) from rfl)
  replace hZ := hZ.below hq2 hZ.lt
  replace z0 := (hZ.cell 0).trans (show _ = some (.slice none 0 0) from rfl)
  replace z1 := (hZ.cell 1).trans (show _ = some (.slice none 0 0) from rfl)
  replace z2 := (hZ.cell 2).trans (show _ = some (.int .i64 0) from rfl)
  replace z3 := (hZ.cell 3).trans (show _ = some (.int .i64 0) from rfl)
  replace z4 := (hZ.cell 4).trans (show _ = some (.int .i64 0) from rfl)
  replace z5 := (hZ.cell 5).trans (show _ = some (.slice none 0 0) from rfl)
  replace z6 := (hZ.cell 6).trans (show _ = some (.slice none 0 0) from rfl)
  replace z7 := (hZ.cell 7).trans (show _ = some (.slice none 0 0) from rfl)
  replace z8 := (hZ.cell 8).trans (show _ = some (.string ⟨#[]⟩) from rfl)
  replace z9 := (hZ.cell 9).trans (show _ = some (.string ⟨#[]⟩) from rfl)
  replace z10 := (hZ.cell 10).trans (show _ = some (.int .i64 0) from rfl)
  replace hG := hG.below hq2 hG.lt
  replace g0 := (hG.cell 0).trans (show _ = some (.slice none 0 0) from rfl)
  replace g1 := (hG.cell 1).trans (show _ = some (.slice none 0 0) from rfl)
  replace g2 := (hG.cell 2).trans (show _ = some (.int .i64 0) from rfl)
  replace g3 := (hG.cell 3).trans (show _ = some (.int .i64 0) from rfl)
  replace g4 := (hG.cell 4).trans (show _ = some (.int .i64 0) from rfl)
  replace g5 := (hG.cell 5).trans (show _ = some (.slice none 0 0) from rfl)
  replace g6 := (hG.cell 6).trans (show _ = some (.slice none 0 0) from rfl)
  replace g7 := (hG.cell 7).trans (show _ = some (.slice none 0 0) from rfl)
  replace g8 := (hG.cell 8).trans (show _ = some (.string ⟨#[]⟩) from rfl)
  replace g9 := (hG.cell 9).trans (show _ = some (.string ⟨#[]⟩) from rfl)
  replace g10 := (hG.cell 10).trans (show _ = some (.int .i64 0) from rfl)
  have zz2 := hq2.size
  have fhG0 := hG.frozen 0
  have fhG1 := hG.frozen 1
  have fhG2 := hG.frozen 2
  have fhG3 := hG.frozen 3
  have fhG4 := hG.frozen 4
  have fhG5 := hG.frozen 5
  have fhG6 := hG.frozen 6
  have fhG7 := hG.frozen 7
  have yhA := hA.lt
  have yhZ := hZ.lt
  have yhG := hG.lt
  go_upto_region 3 with fail
  clear fhG0 fhG1 fhG2 fhG3 fhG4 fhG5 fhG6 fhG7 yhA yhZ yhG
  clear a0 a1 a2 a3 a4 a5 a6 a7 a8 a9 a10 z0 z1 z2 z3 z4 z5 z6 z7 z8 z9 z10 g0 g1 g2 g3 g4 g5 g6 g7 g8 g9 g10
  replace HB : Below w.heap.size w (World.setCell (World.setCell (World.setCell (World.setCell (World.setCell (World.setCell (World.setCell (World.setCell w2 ⟨w.heap.size + 1 + 1, 0, none⟩ (.slice X0 x.rules.length x.rules.length)) ⟨w.heap.size + 1 + 1, 1, none⟩ (.slice X1 x.pend.length x.pend.length)) ⟨w.heap.size + 1 + 1, 2, none⟩ (.int .i64 x.turns)) ⟨w.heap.size + 1 + 1, 3, none⟩ (.int .i64 x.secs)) ⟨w.heap.size + 1 + 1, 4, none⟩ (.int .i64 x.spk)) ⟨w.heap.size + 1 + 1, 5, none⟩ (.slice X2 x.wait.length x.wait.length)) ⟨w.heap.size + 1 + 1, 6, none⟩ (.slice X3 x.shares.length x.shares.length)) ⟨w.heap.size + 1 + 1, 7, none⟩ (.slice X4 x.outs.length x.outs.length)) := ((((((((HB.setCell (by show w.heap.size ≤ w.heap.size + 1 + 1; omega) (.slice X0 x.rules.length x.rules.length) (p := ⟨w.heap.size + 1 + 1, 0, none⟩)).setCell (by show w.heap.size ≤ w.heap.size + 1 + 1; omega) (.slice X1 x.pend.length x.pend.length) (p := ⟨w.heap.size + 1 + 1, 1, none⟩)).setCell (by show w.heap.size ≤ w.heap.size + 1 + 1; omega) (.int .i64 x.turns) (p := ⟨w.heap.size + 1 + 1, 2, none⟩)).setCell (by show w.heap.size ≤ w.heap.size + 1 + 1; omega) (.int .i64 x.secs) (p := ⟨w.heap.size + 1 + 1, 3, none⟩)).setCell (by show w.heap.size ≤ w.heap.size + 1 + 1; omega) (.int .i64 x.spk) (p := ⟨w.heap.size + 1 + 1, 4, none⟩)).setCell (by show w.heap.size ≤ w.heap.size + 1 + 1; omega) (.slice X2 x.wait.length x.wait.length) (p := ⟨w.heap.size + 1 + 1, 5, none⟩)).setCell (by show w.heap.size ≤ w.heap.size + 1 + 1; omega) (.slice X3 x.shares.length x.shares.length) (p := ⟨w.heap.size + 1 + 1, 6, none⟩)).setCell (by show w.heap.size ≤ w.heap.size + 1 + 1; omega) (.slice X4 x.outs.length x.outs.length) (p := ⟨w.heap.size + 1 + 1, 7, none⟩))
  replace hA := ((((((((hA.far' (p := ⟨w.heap.size + 1 + 1, 0, none⟩) (by show _ ≠ w.heap.size + 1 + 1; omega) (.slice X0 x.rules.length x.rules.length)).far' (p := ⟨w.heap.size + 1 + 1, 1, none⟩) (by show _ ≠ w.heap.size + 1 + 1; omega) (.slice X1 x.pend.length x.pend.length)).far' (p := ⟨w.heap.size + 1 + 1, 2, none⟩) (by show _ ≠ w.heap.size + 1 + 1; omega) (.int .i64 x.turns)).far' (p := ⟨w.heap.size + 1 + 1, 3, none⟩) (by show _ ≠ w.heap.size + 1 + 1; omega) (.int .i64 x.secs)).far' (p := ⟨w.heap.size + 1 + 1, 4, none⟩) (by show _ ≠ w.heap.size + 1 + 1; omega) (.int .i64 x.spk)).far' (p := ⟨w.heap.size + 1 + 1, 5, none⟩) (by show _ ≠ w.heap.size + 1 + 1; omega) (.slice X2 x.wait.length x.wait.length)).far' (p := ⟨w.heap.size + 1 + 1, 6, none⟩) (by show _ ≠ w.heap.size + 1 + 1; omega) (.slice X3 x.shares.length x.shares.length)).far' (p := ⟨w.heap.size + 1 + 1, 7, none⟩) (by show _ ≠ w.heap.size + 1 + 1; omega) (.slice X4 x.outs.length x.outs.length))
  replace hZ := ((((((((hZ.far' (p := ⟨w.heap.size + 1 + 1, 0, none⟩) (by show _ ≠ w.heap.size + 1 + 1; omega) (.slice X0 x.rules.length x.rules.length)).far' (p := ⟨w.heap.size + 1 + 1, 1, none⟩) (by show _ ≠ w.heap.size + 1 + 1; omega) (.slice X1 x.pend.length x.pend.length)).far' (p := ⟨w.heap.size + 1 + 1, 2, none⟩) (by show _ ≠ w.heap.size + 1 + 1; omega) (.int .i64 x.turns)).far' (p := ⟨w.heap.size + 1 + 1, 3, none⟩) (by show _ ≠ w.heap.size + 1 + 1; omega) (.int .i64 x.secs)).far' (p := ⟨w.heap.size + 1 + 1, 4, none⟩) (by show _ ≠ w.heap.size + 1 + 1; omega) (.int .i64 x.spk)).far' (p := ⟨w.heap.size + 1 + 1, 5, none⟩) (by show _ ≠ w.heap.size + 1 + 1; omega) (.slice X2 x.wait.length x.wait.length)).far' (p := ⟨w.heap.size + 1 + 1, 6, none⟩) (by show _ ≠ w.heap.size + 1 + 1; omega) (.slice X3 x.shares.length x.shares.length)).far' (p := ⟨w.heap.size + 1 + 1, 7, none⟩) (by show _ ≠ w.heap.size + 1 + 1; omega) (.slice X4 x.outs.length x.outs.length))
  have hGs0 : Blk (World.setCell w2 ⟨w.heap.size + 1 + 1, 0, none⟩ (.slice X0 x.rules.length x.rules.length)) (w.heap.size + 1 + 1) 47 #[.slice X0 x.rules.length x.rules.length, .slice none 0 0, .int .i64 0, .int .i64 0, .int .i64 0, .slice none 0 0, .slice none 0 0, .slice none 0 0, .string ⟨#[]⟩, .string ⟨#[]⟩, .int .i64 0] := hG.set_ 0 (.slice X0 x.rules.length x.rules.length)
  have hGs1 : Blk (World.setCell (World.setCell w2 ⟨w.heap.size + 1 + 1, 0, none⟩ (.slice X0 x.rules.length x.rules.length)) ⟨w.heap.size + 1 + 1, 1, none⟩ (.slice X1 x.pend.length x.pend.length)) (w.heap.size + 1 + 1) 47 #[.slice X0 x.rules.length x.rules.length, .slice X1 x.pend.length x.pend.length, .int .i64 0, .int .i64 0, .int .i64 0, .slice none 0 0, .slice none 0 0, .slice none 0 0, .string ⟨#[]⟩, .string ⟨#[]⟩, .int .i64 0] := hGs0.set_ 1 (.slice X1 x.pend.length x.pend.length)
  have hGs2 : Blk (World.setCell (World.setCell (World.setCell w2 ⟨w.heap.size + 1 + 1, 0, none⟩ (.slice X0 x.rules.length x.rules.length)) ⟨w.heap.size + 1 + 1, 1, none⟩ (.slice X1 x.pend.length x.pend.length)) ⟨w.heap.size + 1 + 1, 2, none⟩ (.int .i64 x.turns)) (w.heap.size + 1 + 1) 47 #[.slice X0 x.rules.length x.rules.length, .slice X1 x.pend.length x.pend.length, .int .i64 x.turns, .int .i64 0, .int .i64 0, .slice none 0 0, .slice none 0 0, .slice none 0 0, .string ⟨#[]⟩, .string ⟨#[]⟩, .int .i64 0] := hGs1.set_ 2 (.int .i64 x.turns)
  have hGs3 : Blk (World.setCell (World.setCell (World.setCell (World.setCell w2 ⟨w.heap.size + 1 + 1, 0, none⟩ (.slice X0 x.rules.length x.rules.length)) ⟨w.heap.size + 1 + 1, 1, none⟩ (.slice X1 x.pend.length x.pend.length)) ⟨w.heap.size + 1 + 1, 2, none⟩ (.int .i64 x.turns)) ⟨w.heap.size + 1 + 1, 3, none⟩ (.int .i64 x.secs)) (w.heap.size + 1 + 1) 47 #[.slice X0 x.rules.length x.rules.length, .slice X1 x.pend.length x.pend.length, .int .i64 x.turns, .int .i64 x.secs, .int .i64 0, .slice none 0 0, .slice none 0 0, .slice none 0 0, .string ⟨#[]⟩, .string ⟨#[]⟩, .int .i64 0] := hGs2.set_ 3 (.int .i64 x.secs)
  have hGs4 : Blk (World.setCell (World.setCell (World.setCell (World.setCell (World.setCell w2 ⟨w.heap.size + 1 + 1, 0, none⟩ (.slice X0 x.rules.length x.rules.length)) ⟨w.heap.size + 1 + 1, 1, none⟩ (.slice X1 x.pend.length x.pend.length)) ⟨w.heap.size + 1 + 1, 2, none⟩ (.int .i64 x.turns)) ⟨w.heap.size + 1 + 1, 3, none⟩ (.int .i64 x.secs)) ⟨w.heap.size + 1 + 1, 4, none⟩ (.int .i64 x.spk)) (w.heap.size + 1 + 1) 47 #[.slice X0 x.rules.length x.rules.length, .slice X1 x.pend.length x.pend.length, .int .i64 x.turns, .int .i64 x.secs, .int .i64 x.spk, .slice none 0 0, .slice none 0 0, .slice none 0 0, .string ⟨#[]⟩, .string ⟨#[]⟩, .int .i64 0] := hGs3.set_ 4 (.int .i64 x.spk)
  have hGs5 : Blk (World.setCell (World.setCell (World.setCell (World.setCell (World.setCell (World.setCell w2 ⟨w.heap.size + 1 + 1, 0, none⟩ (.slice X0 x.rules.length x.rules.length)) ⟨w.heap.size + 1 + 1, 1, none⟩ (.slice X1 x.pend.length x.pend.length)) ⟨w.heap.size + 1 + 1, 2, none⟩ (.int .i64 x.turns)) ⟨w.heap.size + 1 + 1, 3, none⟩ (.int .i64 x.secs)) ⟨w.heap.size + 1 + 1, 4, none⟩ (.int .i64 x.spk)) ⟨w.heap.size + 1 + 1, 5, none⟩ (.slice X2 x.wait.length x.wait.length)) (w.heap.size + 1 + 1) 47 #[.slice X0 x.rules.length x.rules.length, .slice X1 x.pend.length x.pend.length, .int .i64 x.turns, .int .i64 x.secs, .int .i64 x.spk, .slice X2 x.wait.length x.wait.length, .slice none 0 0, .slice none 0 0, .string ⟨#[]⟩, .string ⟨#[]⟩, .int .i64 0] := hGs4.set_ 5 (.slice X2 x.wait.length x.wait.length)
  have hGs6 : Blk (World.setCell (World.setCell (World.setCell (World.setCell (World.setCell (World.setCell (World.setCell w2 ⟨w.heap.size + 1 + 1, 0, none⟩ (.slice X0 x.rules.length x.rules.length)) ⟨w.heap.size + 1 + 1, 1, none⟩ (.slice X1 x.pend.length x.pend.length)) ⟨w.heap.size + 1 + 1, 2, none⟩ (.int .i64 x.turns)) ⟨w.heap.size + 1 + 1, 3, none⟩ (.int .i64 x.secs)) ⟨w.heap.size + 1 + 1, 4, none⟩ (.int .i64 x.spk)) ⟨w.heap.size + 1 + 1, 5, none⟩ (.slice X2 x.wait.length x.wait.length)) ⟨w.heap.size + 1 + 1, 6, none⟩ (.slice X3 x.shares.length x.shares.length)) (w.heap.size + 1 + 1) 47 #[.slice X0 x.rules.length x.rules.length, .slice X1 x.pend.length x.pend.length, .int .i64 x.turns, .int .i64 x.secs, .int .i64 x.spk, .slice X2 x.wait.length x.wait.length, .slice X3 x.shares.length x.shares.length, .slice none 0 0, .string ⟨#[]⟩, .string ⟨#[]⟩, .int .i64 0] := hGs5.set_ 6 (.slice X3 x.shares.length x.shares.length)
  have hGs7 : Blk (World.setCell (World.setCell (World.setCell (World.setCell (World.setCell (World.setCell (World.setCell (World.setCell w2 ⟨w.heap.size + 1 + 1, 0, none⟩ (.slice X0 x.rules.length x.rules.length)) ⟨w.heap.size + 1 + 1, 1, none⟩ (.slice X1 x.pend.length x.pend.length)) ⟨w.heap.size + 1 + 1, 2, none⟩ (.int .i64 x.turns)) ⟨w.heap.size + 1 + 1, 3, none⟩ (.int .i64 x.secs)) ⟨w.heap.size + 1 + 1, 4, none⟩ (.int .i64 x.spk)) ⟨w.heap.size + 1 + 1, 5, none⟩ (.slice X2 x.wait.length x.wait.length)) ⟨w.heap.size + 1 + 1, 6, none⟩ (.slice X3 x.shares.length x.shares.length)) ⟨w.heap.size + 1 + 1, 7, none⟩ (.slice X4 x.outs.length x.outs.length)) (w.heap.size + 1 + 1) 47 #[.slice X0 x.rules.length x.rules.length, .slice X1 x.pend.length x.pend.length, .int .i64 x.turns, .int .i64 x.secs, .int .i64 x.spk, .slice X2 x.wait.length x.wait.length, .slice X3 x.shares.length x.shares.length, .slice X4 x.outs.length x.outs.length, .string ⟨#[]⟩, .string ⟨#[]⟩, .int .i64 0] := hGs6.set_ 7 (.slice X4 x.outs.length x.outs.length)
  replace hG := hGs7
  clear hGs0 hGs1 hGs2 hGs3 hGs4 hGs5 hGs6 hGs7
  have gRW1 : World.grownBy w2 (World.setCell (World.setCell (World.setCell (World.setCell (World.setCell (World.setCell (World.setCell (World.setCell w2 ⟨w.heap.size + 1 + 1, 0, none⟩ (.slice X0 x.rules.length x.rules.length)) ⟨w.heap.size + 1 + 1, 1, none⟩ (.slice X1 x.pend.length x.pend.length)) ⟨w.heap.size + 1 + 1, 2, none⟩ (.int .i64 x.turns)) ⟨w.heap.size + 1 + 1, 3, none⟩ (.int .i64 x.secs)) ⟨w.heap.size + 1 + 1, 4, none⟩ (.int .i64 x.spk)) ⟨w.heap.size + 1 + 1, 5, none⟩ (.slice X2 x.wait.length x.wait.length)) ⟨w.heap.size + 1 + 1, 6, none⟩ (.slice X3 x.shares.length x.shares.length)) ⟨w.heap.size + 1 + 1, 7, none⟩ (.slice X4 x.outs.length x.outs.length)) (some (w.heap.size + 1 + 1)) := (grown_set (j := 7) (grown_set (j := 6) (grown_set (j := 5) (grown_set (j := 4) (grown_set (j := 3) (grown_set (j := 2) (grown_set (j := 1) (grown_set (j := 0) (grown_refl w2 (some (w.heap.size + 1 + 1))) (.slice X0 x.rules.length x.rules.length)) (.slice X1 x.pend.length x.pend.length)) (.int .i64 x.turns)) (.int .i64 x.secs)) (.int .i64 x.spk)) (.slice X2 x.wait.length x.wait.length)) (.slice X3 x.shares.length x.shares.length)) (.slice X4 x.outs.length x.outs.length))
  have szW1 : ((World.setCell (World.setCell (World.setCell (World.setCell (World.setCell (World.setCell (World.setCell (World.setCell w2 ⟨w.heap.size + 1 + 1, 0, none⟩ (.slice X0 x.rules.length x.rules.length)) ⟨w.heap.size + 1 + 1, 1, none⟩ (.slice X1 x.pend.length x.pend.length)) ⟨w.heap.size + 1 + 1, 2, none⟩ (.int .i64 x.turns)) ⟨w.heap.size + 1 + 1, 3, none⟩ (.int .i64 x.secs)) ⟨w.heap.size + 1 + 1, 4, none⟩ (.int .i64 x.spk)) ⟨w.heap.size + 1 + 1, 5, none⟩ (.slice X2 x.wait.length x.wait.length)) ⟨w.heap.size + 1 + 1, 6, none⟩ (.slice X3 x.shares.length x.shares.length)) ⟨w.heap.size + 1 + 1, 7, none⟩ (.slice X4 x.outs.length x.outs.length))).heap.size = w2.heap.size := by simp [World.setCell]
  generalize World.setCell (World.setCell (World.setCell (World.setCell (World.setCell (World.setCell (World.setCell (World.setCell w2 ⟨w.heap.size + 1 + 1, 0, none⟩ (.slice X0 x.rules.length x.rules.length)) ⟨w.heap.size + 1 + 1, 1, none⟩ (.slice X1 x.pend.length x.pend.length)) ⟨w.heap.size + 1 + 1, 2, none⟩ (.int .i64 x.turns)) ⟨w.heap.size + 1 + 1, 3, none⟩ (.int .i64 x.secs)) ⟨w.heap.size + 1 + 1, 4, none⟩ (.int .i64 x.spk)) ⟨w.heap.size + 1 + 1, 5, none⟩ (.slice X2 x.wait.length x.wait.length)) ⟨w.heap.size + 1 + 1, 6, none⟩ (.slice X3 x.shares.length x.shares.length)) ⟨w.heap.size + 1 + 1, 7, none⟩ (.slice X4 x.outs.length x.outs.length) = W1 at *
  replace O0 := O0.kept gRW1 (fun k hk e => by have h1 := (O0.lt k hk); have h2 : k = w.heap.size + 1 + 1 := (Option.some.inj e); first | (clear gRW1; omega) | exact absurd h2 (neO0 k hk))
  replace O1 := O1.kept gRW1 (fun k hk e => by have h1 := (O1.lt k hk); have h2 : k = w.heap.size + 1 + 1 := (Option.some.inj e); first | (clear gRW1; omega) | exact absurd h2 (neO1 k hk))
  replace O2 := O2.kept gRW1 (fun k hk e => by have h1 := (O2.lt k hk); have h2 : k = w.heap.size + 1 + 1 := (Option.some.inj e); first | (clear gRW1; omega) | exact absurd h2 (neO2 k hk))
  replace O3 := O3.kept gRW1 (fun k hk e => by have h1 := (O3.lt k hk); have h2 : k = w.heap.size + 1 + 1 := (Option.some.inj e); first | (clear gRW1; omega) | exact absurd h2 (neO3 k hk))
  replace O4 := O4.kept gRW1 (fun k hk e => by have h1 := (O4.lt k hk); have h2 : k = w.heap.size + 1 + 1 := (Option.some.inj e); first | (clear gRW1; omega) | exact absurd h2 (neO4 k hk))
  have a0 := (hA.cell 0).trans (show _ = some (.slice A0 x.rules.length c0) from rfl)
  have a1 := (hA.cell 1).trans (show _ = some (.slice A1 x.pend.length c1) from rfl)
  have a2 := (hA.cell 2).trans (show _ = some (.int .i64 x.turns) from rfl)
  have a3 := (hA.cell 3).trans (show _ = some (.int .i64 x.secs) from rfl)
  have a4 := (hA.cell 4).trans (show _ = some (.int .i64 x.spk) from rfl)
  have a5 := (hA.cell 5).trans (show _ = some (.slice A2 x.wait.length c2) from rfl)
  have a6 := (hA.cell 6).trans (show _ = some (.slice A3 x.shares.length c3) from rfl)
  have a7 := (hA.cell 7).trans (show _ = some (.slice A4 x.outs.length c4) from rfl)
  have a8 := (hA.cell 8).trans (show _ = some (.string x.dur) from rfl)
  have a9 := (hA.cell 9).trans (show _ = some (.string x.pen) from rfl)
  have a10 := (hA.cell 10).trans (show _ = some (.int .i64 x.cnt) from rfl)
  have z0 := (hZ.cell 0).trans (show _ = some (.slice none 0 0) from rfl)
  have z1 := (hZ.cell 1).trans (show _ = some (.slice none 0 0) from rfl)
  have z2 := (hZ.cell 2).trans (show _ = some (.int .i64 0) from rfl)
  have z3 := (hZ.cell 3).trans (show _ = some (.int .i64 0) from rfl)
  have z4 := (hZ.cell 4).trans (show _ = some (.int .i64 0) from rfl)
  have z5 := (hZ.cell 5).trans (show _ = some (.slice none 0 0) from rfl)
  have z6 := (hZ.cell 6).trans (show _ = some (.slice none 0 0) from rfl)
  have z7 := (hZ.cell 7).trans (show _ = some (.slice none 0 0) from rfl)
  have z8 := (hZ.cell 8).trans (show _ = some (.string ⟨#[]⟩) from rfl)
  have z9 := (hZ.cell 9).trans (show _ = some (.string ⟨#[]⟩) from rfl)
  have z10 := (hZ.cell 10).trans (show _ = some (.int .i64 0) from rfl)
  have g0 := (hG.cell 0).trans (show _ = some (.slice X0 x.rules.length x.rules.length) from rfl)
  have g1 := (hG.cell 1).trans (show _ = some (.slice X1 x.pend.length x.pend.length) from rfl)
  have g2 := (hG.cell 2).trans (show _ = some (.int .i64 x.turns) from rfl)
  have g3 := (hG.cell 3).trans (show _ = some (.int .i64 x.secs) from rfl)
  have g4 := (hG.cell 4).trans (show _ = some (.int .i64 x.spk) from rfl)
  have g5 := (hG.cell 5).trans (show _ = some (.slice X2 x.wait.length x.wait.length) from rfl)
  have g6 := (hG.cell 6).trans (show _ = some (.slice X3 x.shares.length x.shares.length) from rfl)
  have g7 := (hG.cell 7).trans (show _ = some (.slice X4 x.outs.length x.outs.length) from rfl)
  have g8 := (hG.cell 8).trans (show _ = some (.string ⟨#[]⟩) from rfl)
  have g9 := (hG.cell 9).trans (show _ = some (.string ⟨#[]⟩) from rfl)
  have g10 := (hG.cell 10).trans (show _ = some (.int .i64 0) from rfl)
  have q1 := hG.lt
  go_wp2_with fail
  refine (toLogC_is x.dur x.pen x.cnt _).mono ?_
  rintro e w3 ⟨rfl, hb3⟩
  have hq3 : Below W1.heap.size W1 w3 := bth (by repeat (first | exact Below.refl _ _ | refine Below.alloc ?_ (by first | exact Nat.le_refl _ | (simp <;> omega)) _ | refine Below.setCell ?_ (by first | exact Nat.le_refl _ | (simp <;> omega)) _)) hb3
  replace HB := bth HB hq3
  replace O0 := O0.later hq3
  replace O1 := O1.later hq3
  replace O2 := O2.later hq3
  replace O3 := O3.later hq3
  replace O4 := O4.later hq3
  replace hA := hA.below hq3 hA.lt
  replace a0 := (hA.cell 0).trans (show _ = some (.slice A0 x.rules.length c0) from rfl)
  replace a1 := (hA.cell 1).trans (show _ = some (.slice A1 x.pend.length c1) from rfl)
  replace a2 := (hA.cell 2).trans (show _ = some (.int .i64 x.turns) from rfl)
  replace a3 := (hA.cell 3).trans (show _ = some (.int .i64 x.secs) from rfl)
  replace a4 := (hA.cell 4).trans (show _ = some (.int .i64 x.spk) from rfl)
  replace a5 := (hA.cell 5).trans (show _ = some (.slice A2 x.wait.length c2) from rfl)
  replace a6 := (hA.cell 6).trans (show _ = some (.slice A3 x.shares.length c3) from rfl)
  replace a7 := (hA.cell 7).trans (show _ = some (.slice A4 x.outs.length c4) from rfl)
  replace a8 := (hA.cell 8).trans (show _ = some (.string x.dur) from rfl)
  replace a9 := (hA.cell 9).trans (show _ = some (.string x.pen) from rfl)
  replace a10 := (hA.cell 10).trans (show _ = some (.int .i64 x.cnt) from rfl)
  replace hZ := hZ.below hq3 hZ.lt
  replace z0 := (hZ.cell 0).trans (show _ = some (.slice none 0 0) from rfl)
  replace z1 := (hZ.cell 1).trans (show _ = some (.slice none 0 0) from rfl)
  replace z2 := (hZ.cell 2).trans (show _ = some (.int .i64 0) from rfl)
  replace z3 := (hZ.cell 3).trans (show _ = some (.int .i64 0) from rfl)
  replace z4 := (hZ.cell 4).trans (show _ = some (.int .i64 0) from rfl)
  replace z5 := (hZ.cell 5).trans (show _ = some (.slice none 0 0) from rfl)
  replace z6 := (hZ.cell 6).trans (show _ = some (.slice none 0 0) from rfl)
  replace z7 := (hZ.cell 7).trans (show _ = some (.slice none 0 0) from rfl)
  replace z8 := (hZ.cell 8).trans (show _ = some (.string ⟨#[]⟩) from rfl)
  replace z9 := (hZ.cell 9).trans (show _ = some (.string ⟨#[]⟩) from rfl)
  replace z10 := (hZ.cell 10).trans (show _ = some (.int .i64 0) from rfl)
  replace hG := hG.below hq3 hG.lt
  replace g0 := (hG.cell 0).trans (show _ = some (.slice X0 x.rules.length x.rules.length) from rfl)
  replace g1 := (hG.cell 1).trans (show _ = some (.slice X1 x.pend.length x.pend.length) from rfl)
  replace g2 := (hG.cell 2).trans (show _ = some (.int .i64 x.turns) from rfl)
  replace g3 := (hG.cell 3).trans (show _ = some (.int .i64 x.secs) from rfl)
  replace g4 := (hG.cell 4).trans (show _ = some (.int .i64 x.spk) from rfl)
  replace g5 := (hG.cell 5).trans (show _ = some (.slice X2 x.wait.length x.wait.length) from rfl)
  replace g6 := (hG.cell 6).trans (show _ = some (.slice X3 x.shares.length x.shares.length) from rfl)
  replace g7 := (hG.cell 7).trans (show _ = some (.slice X4 x.outs.length x.outs.length) from rfl)
  replace g8 := (hG.cell 8).trans (show _ = some (.string ⟨#[]⟩) from rfl)
  replace g9 := (hG.cell 9).trans (show _ = some (.string ⟨#[]⟩) from rfl)
  replace g10 := (hG.cell 10).trans (show _ = some (.int .i64 0) from rfl)
  have zz3 := hq3.size
  have fhG8 := hG.frozen 8
  have fhG9 := hG.frozen 9
  have fhG10 := hG.frozen 10
  have yhA := hA.lt
  have yhZ := hZ.lt
  have yhG := hG.lt
  go_upto_region 4 with fail
  clear fhG8 fhG9 fhG10 yhA yhZ yhG
  clear a0 a1 a2 a3 a4 a5 a6 a7 a8 a9 a10 z0 z1 z2 z3 z4 z5 z6 z7 z8 z9 z10 g0 g1 g2 g3 g4 g5 g6 g7 g8 g9 g10
  replace HB : Below w.heap.size w (World.setCell (World.setCell (World.setCell w3 ⟨w.heap.size + 1 + 1, 8, none⟩ (.string x.dur)) ⟨w.heap.size + 1 + 1, 9, none⟩ (.string x.pen)) ⟨w.heap.size + 1 + 1, 10, none⟩ (.int .i64 x.cnt)) := (((HB.setCell (by show w.heap.size ≤ w.heap.size + 1 + 1; omega) (.string x.dur) (p := ⟨w.heap.size + 1 + 1, 8, none⟩)).setCell (by show w.heap.size ≤ w.heap.size + 1 + 1; omega) (.string x.pen) (p := ⟨w.heap.size + 1 + 1, 9, none⟩)).setCell (by show w.heap.size ≤ w.heap.size + 1 + 1; omega) (.int .i64 x.cnt) (p := ⟨w.heap.size + 1 + 1, 10, none⟩))
  replace hA := (((hA.far' (p := ⟨w.heap.size + 1 + 1, 8, none⟩) (by show _ ≠ w.heap.size + 1 + 1; omega) (.string x.dur)).far' (p := ⟨w.heap.size + 1 + 1, 9, none⟩) (by show _ ≠ w.heap.size + 1 + 1; omega) (.string x.pen)).far' (p := ⟨w.heap.size + 1 + 1, 10, none⟩) (by show _ ≠ w.heap.size + 1 + 1; omega) (.int .i64 x.cnt))
  replace hZ := (((hZ.far' (p := ⟨w.heap.size + 1 + 1, 8, none⟩) (by show _ ≠ w.heap.size + 1 + 1; omega) (.string x.dur)).far' (p := ⟨w.heap.size + 1 + 1, 9, none⟩) (by show _ ≠ w.heap.size + 1 + 1; omega) (.string x.pen)).far' (p := ⟨w.heap.size + 1 + 1, 10, none⟩) (by show _ ≠ w.heap.size + 1 + 1; omega) (.int .i64 x.cnt))
  replace hG : Blk (World.setCell (World.setCell (World.setCell w3 ⟨w.heap.size + 1 + 1, 8, none⟩ (.string x.dur)) ⟨w.heap.size + 1 + 1, 9, none⟩ (.string x.pen)) ⟨w.heap.size + 1 + 1, 10, none⟩ (.int .i64 x.cnt)) (w.heap.size + 1 + 1) 47 #[.slice X0 x.rules.length x.rules.length, .slice X1 x.pend.length x.pend.length, .int .i64 x.turns, .int .i64 x.secs, .int .i64 x.spk, .slice X2 x.wait.length x.wait.length, .slice X3 x.shares.length x.shares.length, .slice X4 x.outs.length x.outs.length, .string x.dur, .string x.pen, .int .i64 x.cnt] := (((hG.set_ 8 (.string x.dur)).set_ 9 (.string x.pen)).set_ 10 (.int .i64 x.cnt))
  have gRW2 : World.grownBy w3 (World.setCell (World.setCell (World.setCell w3 ⟨w.heap.size + 1 + 1, 8, none⟩ (.string x.dur)) ⟨w.heap.size + 1 + 1, 9, none⟩ (.string x.pen)) ⟨w.heap.size + 1 + 1, 10, none⟩ (.int .i64 x.cnt)) (some (w.heap.size + 1 + 1)) := (grown_set (j := 10) (grown_set (j := 9) (grown_set (j := 8) (grown_refl w3 (some (w.heap.size + 1 + 1))) (.string x.dur)) (.string x.pen)) (.int .i64 x.cnt))
  have szW2 : ((World.setCell (World.setCell (World.setCell w3 ⟨w.heap.size + 1 + 1, 8, none⟩ (.string x.dur)) ⟨w.heap.size + 1 + 1, 9, none⟩ (.string x.pen)) ⟨w.heap.size + 1 + 1, 10, none⟩ (.int .i64 x.cnt))).heap.size = w3.heap.size := by simp [World.setCell]
  generalize World.setCell (World.setCell (World.setCell w3 ⟨w.heap.size + 1 + 1, 8, none⟩ (.string x.dur)) ⟨w.heap.size + 1 + 1, 9, none⟩ (.string x.pen)) ⟨w.heap.size + 1 + 1, 10, none⟩ (.int .i64 x.cnt) = W2 at *
  replace O0 := O0.kept gRW2 (fun k hk e => by have h1 := (O0.lt k hk); have h2 : k = w.heap.size + 1 + 1 := (Option.some.inj e); first | (clear gRW2; omega) | exact absurd h2 (neO0 k hk))
  replace O1 := O1.kept gRW2 (fun k hk e => by have h1 := (O1.lt k hk); have h2 : k = w.heap.size + 1 + 1 := (Option.some.inj e); first | (clear gRW2; omega) | exact absurd h2 (neO1 k hk))
  replace O2 := O2.kept gRW2 (fun k hk e => by have h1 := (O2.lt k hk); have h2 : k = w.heap.size + 1 + 1 := (Option.some.inj e); first | (clear gRW2; omega) | exact absurd h2 (neO2 k hk))
  replace O3 := O3.kept gRW2 (fun k hk e => by have h1 := (O3.lt k hk); have h2 : k = w.heap.size + 1 + 1 := (Option.some.inj e); first | (clear gRW2; omega) | exact absurd h2 (neO3 k hk))
  replace O4 := O4.kept gRW2 (fun k hk e => by have h1 := (O4.lt k hk); have h2 : k = w.heap.size + 1 + 1 := (Option.some.inj e); first | (clear gRW2; omega) | exact absurd h2 (neO4 k hk))
  have a0 := (hA.cell 0).trans (show _ = some (.slice A0 x.rules.length c0) from rfl)
  have a1 := (hA.cell 1).trans (show _ = some (.slice A1 x.pend.length c1) from rfl)
  have a2 := (hA.cell 2).trans (show _ = some (.int .i64 x.turns) from rfl)
  have a3 := (hA.cell 3).trans (show _ = some (.int .i64 x.secs) from rfl)
  have a4 := (hA.cell 4).trans (show _ = some (.int .i64 x.spk) from rfl)
  have a5 := (hA.cell 5).trans (show _ = some (.slice A2 x.wait.length c2) from rfl)
  have a6 := (hA.cell 6).trans (show _ = some (.slice A3 x.shares.length c3) from rfl)
  have a7 := (hA.cell 7).trans (show _ = some (.slice A4 x.outs.length c4) from rfl)
  have a8 := (hA.cell 8).trans (show _ = some (.string x.dur) from rfl)
  have a9 := (hA.cell 9).trans (show _ = some (.string x.pen) from rfl)
  have a10 := (hA.cell 10).trans (show _ = some (.int .i64 x.cnt) from rfl)
  have z0 := (hZ.cell 0).trans (show _ = some (.slice none 0 0) from rfl)
  have z1 := (hZ.cell 1).trans (show _ = some (.slice none 0 0) from rfl)
  have z2 := (hZ.cell 2).trans (show _ = some (.int .i64 0) from rfl)
  have z3 := (hZ.cell 3).trans (show _ = some (.int .i64 0) from rfl)
  have z4 := (hZ.cell 4).trans (show _ = some (.int .i64 0) from rfl)
  have z5 := (hZ.cell 5).trans (show _ = some (.slice none 0 0) from rfl)
  have z6 := (hZ.cell 6).trans (show _ = some (.slice none 0 0) from rfl)
  have z7 := (hZ.cell 7).trans (show _ = some (.slice none 0 0) from rfl)
  have z8 := (hZ.cell 8).trans (show _ = some (.string ⟨#[]⟩) from rfl)
  have z9 := (hZ.cell 9).trans (show _ = some (.string ⟨#[]⟩) from rfl)
  have z10 := (hZ.cell 10).trans (show _ = some (.int .i64 0) from rfl)
  have g0 := (hG.cell 0).trans (show _ = some (.slice X0 x.rules.length x.rules.length) from rfl)
  have g1 := (hG.cell 1).trans (show _ = some (.slice X1 x.pend.length x.pend.length) from rfl)
  have g2 := (hG.cell 2).trans (show _ = some (.int .i64 x.turns) from rfl)
  have g3 := (hG.cell 3).trans (show _ = some (.int .i64 x.secs) from rfl)
  have g4 := (hG.cell 4).trans (show _ = some (.int .i64 x.spk) from rfl)
  have g5 := (hG.cell 5).trans (show _ = some (.slice X2 x.wait.length x.wait.length) from rfl)
  have g6 := (hG.cell 6).trans (show _ = some (.slice X3 x.shares.length x.shares.length) from rfl)
  have g7 := (hG.cell 7).trans (show _ = some (.slice X4 x.outs.length x.outs.length) from rfl)
  have g8 := (hG.cell 8).trans (show _ = some (.string x.dur) from rfl)
  have g9 := (hG.cell 9).trans (show _ = some (.string x.pen) from rfl)
  have g10 := (hG.cell 10).trans (show _ = some (.int .i64 x.cnt) from rfl)
  have fhZ0 := hZ.frozen 0
  have fhZ1 := hZ.frozen 1
  have fhZ2 := hZ.frozen 2
  have fhZ3 := hZ.frozen 3
  have fhZ4 := hZ.frozen 4
  have fhZ5 := hZ.frozen 5
  have fhZ6 := hZ.frozen 6
  have fhZ7 := hZ.frozen 7
  have fhZ8 := hZ.frozen 8
  have fhZ9 := hZ.frozen 9
  have fhZ10 := hZ.frozen 10
  have yhA := hA.lt
  have yhZ := hZ.lt
  have yhG := hG.lt
  go_wp2
  clear a0 a1 a2 a3 a4 a5 a6 a7 a8 a9 a10 z0 z1 z2 z3 z4 z5 z6 z7 z8 z9 z10 g0 g1 g2 g3 g4 g5 g6 g7 g8 g9 g10
  replace HB : Below w.heap.size w (World.setCell (World.setCell (World.setCell (World.setCell (World.setCell (World.setCell (World.setCell (World.setCell (World.setCell (World.setCell (World.setCell W2 ⟨w.heap.size + 1, 0, none⟩ (.slice X0 x.rules.length x.rules.length)) ⟨w.heap.size + 1, 1, none⟩ (.slice X1 x.pend.length x.pend.length)) ⟨w.heap.size + 1, 2, none⟩ (.int .i64 x.turns)) ⟨w.heap.size + 1, 3, none⟩ (.int .i64 x.secs)) ⟨w.heap.size + 1, 4, none⟩ (.int .i64 x.spk)) ⟨w.heap.size + 1, 5, none⟩ (.slice X2 x.wait.length x.wait.length)) ⟨w.heap.size + 1, 6, none⟩ (.slice X3 x.shares.length x.shares.length)) ⟨w.heap.size + 1, 7, none⟩ (.slice X4 x.outs.length x.outs.length)) ⟨w.heap.size + 1, 8, none⟩ (.string x.dur)) ⟨w.heap.size + 1, 9, none⟩ (.string x.pen)) ⟨w.heap.size + 1, 10, none⟩ (.int .i64 x.cnt)) := (((((((((((HB.setCell (by show w.heap.size ≤ w.heap.size + 1; omega) (.slice X0 x.rules.length x.rules.length) (p := ⟨w.heap.size + 1, 0, none⟩)).setCell (by show w.heap.size ≤ w.heap.size + 1; omega) (.slice X1 x.pend.length x.pend.length) (p := ⟨w.heap.size + 1, 1, none⟩)).setCell (by show w.heap.size ≤ w.heap.size + 1; omega) (.int .i64 x.turns) (p := ⟨w.heap.size + 1, 2, none⟩)).setCell (by show w.heap.size ≤ w.heap.size + 1; omega) (.int .i64 x.secs) (p := ⟨w.heap.size + 1, 3, none⟩)).setCell (by show w.heap.size ≤ w.heap.size + 1; omega) (.int .i64 x.spk) (p := ⟨w.heap.size + 1, 4, none⟩)).setCell (by show w.heap.size ≤ w.heap.size + 1; omega) (.slice X2 x.wait.length x.wait.length) (p := ⟨w.heap.size + 1, 5, none⟩)).setCell (by show w.heap.size ≤ w.heap.size + 1; omega) (.slice X3 x.shares.length x.shares.length) (p := ⟨w.heap.size + 1, 6, none⟩)).setCell (by show w.heap.size ≤ w.heap.size + 1; omega) (.slice X4 x.outs.length x.outs.length) (p := ⟨w.heap.size + 1, 7, none⟩)).setCell (by show w.heap.size ≤ w.heap.size + 1; omega) (.string x.dur) (p := ⟨w.heap.size + 1, 8, none⟩)).setCell (by show w.heap.size ≤ w.heap.size + 1; omega) (.string x.pen) (p := ⟨w.heap.size + 1, 9, none⟩)).setCell (by show w.heap.size ≤ w.heap.size + 1; omega) (.int .i64 x.cnt) (p := ⟨w.heap.size + 1, 10, none⟩))
  replace hA := (((((((((((hA.far' (p := ⟨w.heap.size + 1, 0, none⟩) (by show _ ≠ w.heap.size + 1; omega) (.slice X0 x.rules.length x.rules.length)).far' (p := ⟨w.heap.size + 1, 1, none⟩) (by show _ ≠ w.heap.size + 1; omega) (.slice X1 x.pend.length x.pend.length)).far' (p := ⟨w.heap.size + 1, 2, none⟩) (by show _ ≠ w.heap.size + 1; omega) (.int .i64 x.turns)).far' (p := ⟨w.heap.size + 1, 3, none⟩) (by show _ ≠ w.heap.size + 1; omega) (.int .i64 x.secs)).far' (p := ⟨w.heap.size + 1, 4, none⟩) (by show _ ≠ w.heap.size + 1; omega) (.int .i64 x.spk)).far' (p := ⟨w.heap.size + 1, 5, none⟩) (by show _ ≠ w.heap.size + 1; omega) (.slice X2 x.wait.length x.wait.length)).far' (p := ⟨w.heap.size + 1, 6, none⟩) (by show _ ≠ w.heap.size + 1; omega) (.slice X3 x.shares.length x.shares.length)).far' (p := ⟨w.heap.size + 1, 7, none⟩) (by show _ ≠ w.heap.size + 1; omega) (.slice X4 x.outs.length x.outs.length)).far' (p := ⟨w.heap.size + 1, 8, none⟩) (by show _ ≠ w.heap.size + 1; omega) (.string x.dur)).far' (p := ⟨w.heap.size + 1, 9, none⟩) (by show _ ≠ w.heap.size + 1; omega) (.string x.pen)).far' (p := ⟨w.heap.size + 1, 10, none⟩) (by show _ ≠ w.heap.size + 1; omega) (.int .i64 x.cnt))
  have hZs0 : Blk (World.setCell W2 ⟨w.heap.size + 1, 0, none⟩ (.slice X0 x.rules.length x.rules.length)) (w.heap.size + 1) 47 #[.slice X0 x.rules.length x.rules.length, .slice none 0 0, .int .i64 0, .int .i64 0, .int .i64 0, .slice none 0 0, .slice none 0 0, .slice none 0 0, .string ⟨#[]⟩, .string ⟨#[]⟩, .int .i64 0] := hZ.set_ 0 (.slice X0 x.rules.length x.rules.length)
  have hZs1 : Blk (World.setCell (World.setCell W2 ⟨w.heap.size + 1, 0, none⟩ (.slice X0 x.rules.length x.rules.length)) ⟨w.heap.size + 1, 1, none⟩ (.slice X1 x.pend.length x.pend.length)) (w.heap.size + 1) 47 #[.slice X0 x.rules.length x.rules.length, .slice X1 x.pend.length x.pend.length, .int .i64 0, .int .i64 0, .int .i64 0, .slice none 0 0, .slice none 0 0, .slice none 0 0, .string ⟨#[]⟩, .string ⟨#[]⟩, .int .i64 0] := hZs0.set_ 1 (.slice X1 x.pend.length x.pend.length)
  have hZs2 : Blk (World.setCell (World.setCell (World.setCell W2 ⟨w.heap.size + 1, 0, none⟩ (.slice X0 x.rules.length x.rules.length)) ⟨w.heap.size + 1, 1, none⟩ (.slice X1 x.pend.length x.pend.length)) ⟨w.heap.size + 1, 2, none⟩ (.int .i64 x.turns)) (w.heap.size + 1) 47 #[.slice X0 x.rules.length x.rules.length, .slice X1 x.pend.length x.pend.length, .int .i64 x.turns, .int .i64 0, .int .i64 0, .slice none 0 0, .slice none 0 0, .slice none 0 0, .string ⟨#[]⟩, .string ⟨#[]⟩, .int .i64 0] := hZs1.set_ 2 (.int .i64 x.turns)
  have hZs3 : Blk (World.setCell (World.setCell (World.setCell (World.setCell W2 ⟨w.heap.size + 1, 0, none⟩ (.slice X0 x.rules.length x.rules.length)) ⟨w.heap.size + 1, 1, none⟩ (.slice X1 x.pend.length x.pend.length)) ⟨w.heap.size + 1, 2, none⟩ (.int .i64 x.turns)) ⟨w.heap.size + 1, 3, none⟩ (.int .i64 x.secs)) (w.heap.size + 1) 47 #[.slice X0 x.rules.length x.rules.length, .slice X1 x.pend.length x.pend.length, .int .i64 x.turns, .int .i64 x.secs, .int .i64 0, .slice none 0 0, .slice none 0 0, .slice none 0 0, .string ⟨#[]⟩, .string ⟨#[]⟩, .int .i64 0] := hZs2.set_ 3 (.int .i64 x.secs)
  have hZs4 : Blk (World.setCell (World.setCell (World.setCell (World.setCell (World.setCell W2 ⟨w.heap.size + 1, 0, none⟩ (.slice X0 x.rules.length x.rules.length)) ⟨w.heap.size + 1, 1, none⟩ (.slice X1 x.pend.length x.pend.length)) ⟨w.heap.size + 1, 2, none⟩ (.int .i64 x.turns)) ⟨w.heap.size + 1, 3, none⟩ (.int .i64 x.secs)) ⟨w.heap.size + 1, 4, none⟩ (.int .i64 x.spk)) (w.heap.size + 1) 47 #[.slice X0 x.rules.length x.rules.length, .slice X1 x.pend.length x.pend.length, .int .i64 x.turns, .int .i64 x.secs, .int .i64 x.spk, .slice none 0 0, .slice none 0 0, .slice none 0 0, .string ⟨#[]⟩, .string ⟨#[]⟩, .int .i64 0] := hZs3.set_ 4 (.int .i64 x.spk)
  have hZs5 : Blk (World.setCell (World.setCell (World.setCell (World.setCell (World.setCell (World.setCell W2 ⟨w.heap.size + 1, 0, none⟩ (.slice X0 x.rules.length x.rules.length)) ⟨w.heap.size + 1, 1, none⟩ (.slice X1 x.pend.length x.pend.length)) ⟨w.heap.size + 1, 2, none⟩ (.int .i64 x.turns)) ⟨w.heap.size + 1, 3, none⟩ (.int .i64 x.secs)) ⟨w.heap.size + 1, 4, none⟩ (.int .i64 x.spk)) ⟨w.heap.size + 1, 5, none⟩ (.slice X2 x.wait.length x.wait.length)) (w.heap.size + 1) 47 #[.slice X0 x.rules.length x.rules.length, .slice X1 x.pend.length x.pend.length, .int .i64 x.turns, .int .i64 x.secs, .int .i64 x.spk, .slice X2 x.wait.length x.wait.length, .slice none 0 0, .slice none 0 0, .string ⟨#[]⟩, .string ⟨#[]⟩, .int .i64 0] := hZs4.set_ 5 (.slice X2 x.wait.length x.wait.length)
  have hZs6 : Blk (World.setCell (World.setCell (World.setCell (World.setCell (World.setCell (World.setCell (World.setCell W2 ⟨w.heap.size + 1, 0, none⟩ (.slice X0 x.rules.length x.rules.length)) ⟨w.heap.size + 1, 1, none⟩ (.slice X1 x.pend.length x.pend.length)) ⟨w.heap.size + 1, 2, none⟩ (.int .i64 x.turns)) ⟨w.heap.size + 1, 3, none⟩ (.int .i64 x.secs)) ⟨w.heap.size + 1, 4, none⟩ (.int .i64 x.spk)) ⟨w.heap.size + 1, 5, none⟩ (.slice X2 x.wait.length x.wait.length)) ⟨w.heap.size + 1, 6, none⟩ (.slice X3 x.shares.length x.shares.length)) (w.heap.size + 1) 47 #[.slice X0 x.rules.length x.rules.length, .slice X1 x.pend.length x.pend.length, .int .i64 x.turns, .int .i64 x.secs, .int .i64 x.spk, .slice X2 x.wait.length x.wait.length, .slice X3 x.shares.length x.shares.length, .slice none 0 0, .string ⟨#[]⟩, .string ⟨#[]⟩, .int .i64 0] := hZs5.set_ 6 (.slice X3 x.shares.length x.shares.length)
  have hZs7 : Blk (World.setCell (World.setCell (World.setCell (World.setCell (World.setCell (World.setCell (World.setCell (World.setCell W2 ⟨w.heap.size + 1, 0, none⟩ (.slice X0 x.rules.length x.rules.length)) ⟨w.heap.size + 1, 1, none⟩ (.slice X1 x.pend.length x.pend.length)) ⟨w.heap.size + 1, 2, none⟩ (.int .i64 x.turns)) ⟨w.heap.size + 1, 3, none⟩ (.int .i64 x.secs)) ⟨w.heap.size + 1, 4, none⟩ (.int .i64 x.spk)) ⟨w.heap.size + 1, 5, none⟩ (.slice X2 x.wait.length x.wait.length)) ⟨w.heap.size + 1, 6, none⟩ (.slice X3 x.shares.length x.shares.length)) ⟨w.heap.size + 1, 7, none⟩ (.slice X4 x.outs.length x.outs.length)) (w.heap.size + 1) 47 #[.slice X0 x.rules.length x.rules.length, .slice X1 x.pend.length x.pend.length, .int .i64 x.turns, .int .i64 x.secs, .int .i64 x.spk, .slice X2 x.wait.length x.wait.length, .slice X3 x.shares.length x.shares.length, .slice X4 x.outs.length x.outs.length, .string ⟨#[]⟩, .string ⟨#[]⟩, .int .i64 0] := hZs6.set_ 7 (.slice X4 x.outs.length x.outs.length)
  have hZs8 : Blk (World.setCell (World.setCell (World.setCell (World.setCell (World.setCell (World.setCell (World.setCell (World.setCell (World.setCell W2 ⟨w.heap.size + 1, 0, none⟩ (.slice X0 x.rules.length x.rules.length)) ⟨w.heap.size + 1, 1, none⟩ (.slice X1 x.pend.length x.pend.length)) ⟨w.heap.size + 1, 2, none⟩ (.int .i64 x.turns)) ⟨w.heap.size + 1, 3, none⟩ (.int .i64 x.secs)) ⟨w.heap.size + 1, 4, none⟩ (.int .i64 x.spk)) ⟨w.heap.size + 1, 5, none⟩ (.slice X2 x.wait.length x.wait.length)) ⟨w.heap.size + 1, 6, none⟩ (.slice X3 x.shares.length x.shares.length)) ⟨w.heap.size + 1, 7, none⟩ (.slice X4 x.outs.length x.outs.length)) ⟨w.heap.size + 1, 8, none⟩ (.string x.dur)) (w.heap.size + 1) 47 #[.slice X0 x.rules.length x.rules.length, .slice X1 x.pend.length x.pend.length, .int .i64 x.turns, .int .i64 x.secs, .int .i64 x.spk, .slice X2 x.wait.length x.wait.length, .slice X3 x.shares.length x.shares.length, .slice X4 x.outs.length x.outs.length, .string x.dur, .string ⟨#[]⟩, .int .i64 0] := hZs7.set_ 8 (.string x.dur)
  have hZs9 : Blk (World.setCell (World.setCell (World.setCell (World.setCell (World.setCell (World.setCell (World.setCell (World.setCell (World.setCell (World.setCell W2 ⟨w.heap.size + 1, 0, none⟩ (.slice X0 x.rules.length x.rules.length)) ⟨w.heap.size + 1, 1, none⟩ (.slice X1 x.pend.length x.pend.length)) ⟨w.heap.size + 1, 2, none⟩ (.int .i64 x.turns)) ⟨w.heap.size + 1, 3, none⟩ (.int .i64 x.secs)) ⟨w.heap.size + 1, 4, none⟩ (.int .i64 x.spk)) ⟨w.heap.size + 1, 5, none⟩ (.slice X2 x.wait.length x.wait.length)) ⟨w.heap.size + 1, 6, none⟩ (.slice X3 x.shares.length x.shares.length)) ⟨w.heap.size + 1, 7, none⟩ (.slice X4 x.outs.length x.outs.length)) ⟨w.heap.size + 1, 8, none⟩ (.string x.dur)) ⟨w.heap.size + 1, 9, none⟩ (.string x.pen)) (w.heap.size + 1) 47 #[.slice X0 x.rules.length x.rules.length, .slice X1 x.pend.length x.pend.length, .int .i64 x.turns, .int .i64 x.secs, .int .i64 x.spk, .slice X2 x.wait.length x.wait.length, .slice X3 x.shares.length x.shares.length, .slice X4 x.outs.length x.outs.length, .string x.dur, .string x.pen, .int .i64 0] := hZs8.set_ 9 (.string x.pen)
  have hZs10 : Blk (World.setCell (World.setCell (World.setCell (World.setCell (World.setCell (World.setCell (World.setCell (World.setCell (World.setCell (World.setCell (World.setCell W2 ⟨w.heap.size + 1, 0, none⟩ (.slice X0 x.rules.length x.rules.length)) ⟨w.heap.size + 1, 1, none⟩ (.slice X1 x.pend.length x.pend.length)) ⟨w.heap.size + 1, 2, none⟩ (.int .i64 x.turns)) ⟨w.heap.size + 1, 3, none⟩ (.int .i64 x.secs)) ⟨w.heap.size + 1, 4, none⟩ (.int .i64 x.spk)) ⟨w.heap.size + 1, 5, none⟩ (.slice X2 x.wait.length x.wait.length)) ⟨w.heap.size + 1, 6, none⟩ (.slice X3 x.shares.length x.shares.length)) ⟨w.heap.size + 1, 7, none⟩ (.slice X4 x.outs.length x.outs.length)) ⟨w.heap.size + 1, 8, none⟩ (.string x.dur)) ⟨w.heap.size + 1, 9, none⟩ (.string x.pen)) ⟨w.heap.size + 1, 10, none⟩ (.int .i64 x.cnt)) (w.heap.size + 1) 47 #[.slice X0 x.rules.length x.rules.length, .slice X1 x.pend.length x.pend.length, .int .i64 x.turns, .int .i64 x.secs, .int .i64 x.spk, .slice X2 x.wait.length x.wait.length, .slice X3 x.shares.length x.shares.length, .slice X4 x.outs.length x.outs.length, .string x.dur, .string x.pen, .int .i64 x.cnt] := hZs9.set_ 10 (.int .i64 x.cnt)
  replace hZ := hZs10
  clear hZs0 hZs1 hZs2 hZs3 hZs4 hZs5 hZs6 hZs7 hZs8 hZs9 hZs10
  replace hG := (((((((((((hG.far' (p := ⟨w.heap.size + 1, 0, none⟩) (by show _ ≠ w.heap.size + 1; omega) (.slice X0 x.rules.length x.rules.length)).far' (p := ⟨w.heap.size + 1, 1, none⟩) (by show _ ≠ w.heap.size + 1; omega) (.slice X1 x.pend.length x.pend.length)).far' (p := ⟨w.heap.size + 1, 2, none⟩) (by show _ ≠ w.heap.size + 1; omega) (.int .i64 x.turns)).far' (p := ⟨w.heap.size + 1, 3, none⟩) (by show _ ≠ w.heap.size + 1; omega) (.int .i64 x.secs)).far' (p := ⟨w.heap.size + 1, 4, none⟩) (by show _ ≠ w.heap.size + 1; omega) (.int .i64 x.spk)).far' (p := ⟨w.heap.size + 1, 5, none⟩) (by show _ ≠ w.heap.size + 1; omega) (.slice X2 x.wait.length x.wait.length)).far' (p := ⟨w.heap.size + 1, 6, none⟩) (by show _ ≠ w.heap.size + 1; omega) (.slice X3 x.shares.length x.shares.length)).far' (p := ⟨w.heap.size + 1, 7, none⟩) (by show _ ≠ w.heap.size + 1; omega) (.slice X4 x.outs.length x.outs.length)).far' (p := ⟨w.heap.size + 1, 8, none⟩) (by show _ ≠ w.heap.size + 1; omega) (.string x.dur)).far' (p := ⟨w.heap.size + 1, 9, none⟩) (by show _ ≠ w.heap.size + 1; omega) (.string x.pen)).far' (p := ⟨w.heap.size + 1, 10, none⟩) (by show _ ≠ w.heap.size + 1; omega) (.int .i64 x.cnt))
  have gRW9 : World.grownBy W2 (World.setCell (World.setCell (World.setCell (World.setCell (World.setCell (World.setCell (World.setCell (World.setCell (World.setCell (World.setCell (World.setCell W2 ⟨w.heap.size + 1, 0, none⟩ (.slice X0 x.rules.length x.rules.length)) ⟨w.heap.size + 1, 1, none⟩ (.slice X1 x.pend.length x.pend.length)) ⟨w.heap.size + 1, 2, none⟩ (.int .i64 x.turns)) ⟨w.heap.size + 1, 3, none⟩ (.int .i64 x.secs)) ⟨w.heap.size + 1, 4, none⟩ (.int .i64 x.spk)) ⟨w.heap.size + 1, 5, none⟩ (.slice X2 x.wait.length x.wait.length)) ⟨w.heap.size + 1, 6, none⟩ (.slice X3 x.shares.length x.shares.length)) ⟨w.heap.size + 1, 7, none⟩ (.slice X4 x.outs.length x.outs.length)) ⟨w.heap.size + 1, 8, none⟩ (.string x.dur)) ⟨w.heap.size + 1, 9, none⟩ (.string x.pen)) ⟨w.heap.size + 1, 10, none⟩ (.int .i64 x.cnt)) (some (w.heap.size + 1)) := (grown_set (j := 10) (grown_set (j := 9) (grown_set (j := 8) (grown_set (j := 7) (grown_set (j := 6) (grown_set (j := 5) (grown_set (j := 4) (grown_set (j := 3) (grown_set (j := 2) (grown_set (j := 1) (grown_set (j := 0) (grown_refl W2 (some (w.heap.size + 1))) (.slice X0 x.rules.length x.rules.length)) (.slice X1 x.pend.length x.pend.length)) (.int .i64 x.turns)) (.int .i64 x.secs)) (.int .i64 x.spk)) (.slice X2 x.wait.length x.wait.length)) (.slice X3 x.shares.length x.shares.length)) (.slice X4 x.outs.length x.outs.length)) (.string x.dur)) (.string x.pen)) (.int .i64 x.cnt))
  have szW9 : ((World.setCell (World.setCell (World.setCell (World.setCell (World.setCell (World.setCell (World.setCell (World.setCell (World.setCell (World.setCell (World.setCell W2 ⟨w.heap.size + 1, 0, none⟩ (.slice X0 x.rules.length x.rules.length)) ⟨w.heap.size + 1, 1, none⟩ (.slice X1 x.pend.length x.pend.length)) ⟨w.heap.size + 1, 2, none⟩ (.int .i64 x.turns)) ⟨w.heap.size + 1, 3, none⟩ (.int .i64 x.secs)) ⟨w.heap.size + 1, 4, none⟩ (.int .i64 x.spk)) ⟨w.heap.size + 1, 5, none⟩ (.slice X2 x.wait.length x.wait.length)) ⟨w.heap.size + 1, 6, none⟩ (.slice X3 x.shares.length x.shares.length)) ⟨w.heap.size + 1, 7, none⟩ (.slice X4 x.outs.length x.outs.length)) ⟨w.heap.size + 1, 8, none⟩ (.string x.dur)) ⟨w.heap.size + 1, 9, none⟩ (.string x.pen)) ⟨w.heap.size + 1, 10, none⟩ (.int .i64 x.cnt))).heap.size = W2.heap.size := by simp [World.setCell]
  generalize World.setCell (World.setCell (World.setCell (World.setCell (World.setCell (World.setCell (World.setCell (World.setCell (World.setCell (World.setCell (World.setCell W2 ⟨w.heap.size + 1, 0, none⟩ (.slice X0 x.rules.length x.rules.length)) ⟨w.heap.size + 1, 1, none⟩ (.slice X1 x.pend.length x.pend.length)) ⟨w.heap.size + 1, 2, none⟩ (.int .i64 x.turns)) ⟨w.heap.size + 1, 3, none⟩ (.int .i64 x.secs)) ⟨w.heap.size + 1, 4, none⟩ (.int .i64 x.spk)) ⟨w.heap.size + 1, 5, none⟩ (.slice X2 x.wait.length x.wait.length)) ⟨w.heap.size + 1, 6, none⟩ (.slice X3 x.shares.length x.shares.length)) ⟨w.heap.size + 1, 7, none⟩ (.slice X4 x.outs.length x.outs.length)) ⟨w.heap.size + 1, 8, none⟩ (.string x.dur)) ⟨w.heap.size + 1, 9, none⟩ (.string x.pen)) ⟨w.heap.size + 1, 10, none⟩ (.int .i64 x.cnt) = W9 at *
  replace O0 := O0.kept gRW9 (fun k hk e => by have h1 := (O0.lt k hk); have h2 : k = w.heap.size + 1 := (Option.some.inj e); first | (clear gRW9; omega) | exact absurd h2 (neO0 k hk))
  replace O1 := O1.kept gRW9 (fun k hk e => by have h1 := (O1.lt k hk); have h2 : k = w.heap.size + 1 := (Option.some.inj e); first | (clear gRW9; omega) | exact absurd h2 (neO1 k hk))
  replace O2 := O2.kept gRW9 (fun k hk e => by have h1 := (O2.lt k hk); have h2 : k = w.heap.size + 1 := (Option.some.inj e); first | (clear gRW9; omega) | exact absurd h2 (neO2 k hk))
  replace O3 := O3.kept gRW9 (fun k hk e => by have h1 := (O3.lt k hk); have h2 : k = w.heap.size + 1 := (Option.some.inj e); first | (clear gRW9; omega) | exact absurd h2 (neO3 k hk))
  replace O4 := O4.kept gRW9 (fun k hk e => by have h1 := (O4.lt k hk); have h2 : k = w.heap.size + 1 := (Option.some.inj e); first | (clear gRW9; omega) | exact absurd h2 (neO4 k hk))
  have a0 := (hA.cell 0).trans (show _ = some (.slice A0 x.rules.length c0) from rfl)
  have a1 := (hA.cell 1).trans (show _ = some (.slice A1 x.pend.length c1) from rfl)
  have a2 := (hA.cell 2).trans (show _ = some (.int .i64 x.turns) from rfl)
  have a3 := (hA.cell 3).trans (show _ = some (.int .i64 x.secs) from rfl)
  have a4 := (hA.cell 4).trans (show _ = some (.int .i64 x.spk) from rfl)
  have a5 := (hA.cell 5).trans (show _ = some (.slice A2 x.wait.length c2) from rfl)
  have a6 := (hA.cell 6).trans (show _ = some (.slice A3 x.shares.length c3) from rfl)
  have a7 := (hA.cell 7).trans (show _ = some (.slice A4 x.outs.length c4) from rfl)
  have a8 := (hA.cell 8).trans (show _ = some (.string x.dur) from rfl)
  have a9 := (hA.cell 9).trans (show _ = some (.string x.pen) from rfl)
  have a10 := (hA.cell 10).trans (show _ = some (.int .i64 x.cnt) from rfl)
  have z0 := (hZ.cell 0).trans (show _ = some (.slice X0 x.rules.length x.rules.length) from rfl)
  have z1 := (hZ.cell 1).trans (show _ = some (.slice X1 x.pend.length x.pend.length) from rfl)
  have z2 := (hZ.cell 2).trans (show _ = some (.int .i64 x.turns) from rfl)
  have z3 := (hZ.cell 3).trans (show _ = some (.int .i64 x.secs) from rfl)
  have z4 := (hZ.cell 4).trans (show _ = some (.int .i64 x.spk) from rfl)
  have z5 := (hZ.cell 5).trans (show _ = some (.slice X2 x.wait.length x.wait.length) from rfl)
  have z6 := (hZ.cell 6).trans (show _ = some (.slice X3 x.shares.length x.shares.length) from rfl)
  have z7 := (hZ.cell 7).trans (show _ = some (.slice X4 x.outs.length x.outs.length) from rfl)
  have z8 := (hZ.cell 8).trans (show _ = some (.string x.dur) from rfl)
  have z9 := (hZ.cell 9).trans (show _ = some (.string x.pen) from rfl)
  have z10 := (hZ.cell 10).trans (show _ = some (.int .i64 x.cnt) from rfl)
  have g0 := (hG.cell 0).trans (show _ = some (.slice X0 x.rules.length x.rules.length) from rfl)
  have g1 := (hG.cell 1).trans (show _ = some (.slice X1 x.pend.length x.pend.length) from rfl)
  have g2 := (hG.cell 2).trans (show _ = some (.int .i64 x.turns) from rfl)
  have g3 := (hG.cell 3).trans (show _ = some (.int .i64 x.secs) from rfl)
  have g4 := (hG.cell 4).trans (show _ = some (.int .i64 x.spk) from rfl)
  have g5 := (hG.cell 5).trans (show _ = some (.slice X2 x.wait.length x.wait.length) from rfl)
  have g6 := (hG.cell 6).trans (show _ = some (.slice X3 x.shares.length x.shares.length) from rfl)
  have g7 := (hG.cell 7).trans (show _ = some (.slice X4 x.outs.length x.outs.length) from rfl)
  have g8 := (hG.cell 8).trans (show _ = some (.string x.dur) from rfl)
  have g9 := (hG.cell 9).trans (show _ = some (.string x.pen) from rfl)
  have g10 := (hG.cell 10).trans (show _ = some (.int .i64 x.cnt) from rfl)
  refine bodyPost_ret (v := .agg #[.slice X0 x.rules.length x.rules.length, .slice X1 x.pend.length x.pend.length, .int .i64 x.turns, .int .i64 x.secs, .int .i64 x.spk, .slice X2 x.wait.length x.wait.length, .slice X3 x.shares.length x.shares.length, .slice X4 x.outs.length x.outs.length, .string x.dur, .string x.pen, .int .i64 x.cnt]) (by simp [results, Tryz.results7, go_sem, z0, z1, z2, z3, z4, z5, z6, z7, z8, z9, z10]) rfl ?_
  exact ⟨X0, X1, X2, X3, X4, rfl, O0.base (by omega), O1.base (by omega), O2.base (by omega), O3.base (by omega), O4.base (by omega), ap, HB⟩
end Go.Proofs.YtpkagohflkcnkaaGreatDoor
