/- A console: counted, copied, compared, marked. -/
import Derived.Test.YtkkdegmfmimdgaaNc13
import Derived.Test.YtkkdegmfmimdgaaNc16
import Derived.Test.YtkkdegmfmimdgaaNc15
import Derived.Deep.Cut
namespace Go.Proofs.Ytkkdegmfmimdgaa
open Go.RowKit Go.G9
structure Con where
  rules : List Rul
  pend : List Que
  turns : Int
  secs : Int
  spk : Int
  wait : List Int
  shares : List Sha
  outs : List Out
  dur : ByteArray
  pen : ByteArray
  cnt : Int
def Con.mee (c : Con) : Mee := ⟨c.rules, c.pend, c.turns, c.secs, c.spk, c.wait, c.shares, c.outs⟩
def Mee.con (m : Mee) (d p : ByteArray) (n : Int) : Con := ⟨m.rules, m.pend, m.turns, m.secs, m.spk, m.wait, m.shares, m.outs, d, p, n⟩
theorem eqLogC_is (d p : ByteArray) (n : Int) (w : World) : Calls Try.prog 75 #[.agg #[.string d, .string p, .int .i64 n], .agg #[.string d, .string p, .int .i64 n]] w fun e w' => e = .returned (.bool true) ∧ Below w.heap.size w w' := by
  go_enter Try.func75, Try.ntmps75
  go_wp2
  go_ret
  exact ⟨rfl, bl2 _ _ _⟩
set_option maxHeartbeats 2000000 in
set_option maxRecDepth 100000 in
theorem eqConsole_is (x : Con) (A0 A1 A2 A3 A4 D0 D1 D2 D3 D4 : Option Addr) (c0 c1 c2 c3 c4 d0 d1 d2 d3 d4 : Nat) (h0 : x.rules.length ≤ 1048576) (h1 : x.pend.length ≤ 1048576) (h2 : x.wait.length ≤ 1048576) (h3 : x.shares.length ≤ 1048576) (h4 : x.outs.length ≤ 1048576) (w : World) (R0 : Rds 7 Rul.cells w A0 x.rules) (R1 : Rds 3 Que.cells w A1 x.pend) (R2 : Rds 1 intC w A2 x.wait) (R3 : Rds 3 Sha.cells w A3 x.shares) (R4 : Rds 3 Out.cells w A4 x.outs) (Q0 : Rds 7 Rul.cells w D0 x.rules) (Q1 : Rds 3 Que.cells w D1 x.pend) (Q2 : Rds 1 intC w D2 x.wait) (Q3 : Rds 3 Sha.cells w D3 x.shares) (Q4 : Rds 3 Out.cells w D4 x.outs) :
  Calls Try.prog 31 #[.agg #[.slice A0 x.rules.length c0, .slice A1 x.pend.length c1, .int .i64 x.turns, .int .i64 x.secs, .int .i64 x.spk, .slice A2 x.wait.length c2, .slice A3 x.shares.length c3, .slice A4 x.outs.length c4, .string x.dur, .string x.pen, .int .i64 x.cnt], .agg #[.slice D0 x.rules.length d0, .slice D1 x.pend.length d1, .int .i64 x.turns, .int .i64 x.secs, .int .i64 x.spk, .slice D2 x.wait.length d2, .slice D3 x.shares.length d3, .slice D4 x.outs.length d4, .string x.dur, .string x.pen, .int .i64 x.cnt]] w fun e w' => e = .returned (.bool true) ∧ Below w.heap.size w w' := by
  go_enter Try.func31, Try.ntmps31
  go_upto_region 1 with fail
  have hq1 : Below w.heap.size w (World.alloc (World.alloc w (.cells #[.slice A0 x.rules.length c0, .slice A1 x.pend.length c1, .int .i64 x.turns, .int .i64 x.secs, .int .i64 x.spk, .slice A2 x.wait.length c2, .slice A3 x.shares.length c3, .slice A4 x.outs.length c4, .string x.dur, .string x.pen, .int .i64 x.cnt] 62)) (.cells #[.slice D0 x.rules.length d0, .slice D1 x.pend.length d1, .int .i64 x.turns, .int .i64 x.secs, .int .i64 x.spk, .slice D2 x.wait.length d2, .slice D3 x.shares.length d3, .slice D4 x.outs.length d4, .string x.dur, .string x.pen, .int .i64 x.cnt] 62)) := bl2 w _ _
  have hA : Blk (World.alloc (World.alloc w (.cells #[.slice A0 x.rules.length c0, .slice A1 x.pend.length c1, .int .i64 x.turns, .int .i64 x.secs, .int .i64 x.spk, .slice A2 x.wait.length c2, .slice A3 x.shares.length c3, .slice A4 x.outs.length c4, .string x.dur, .string x.pen, .int .i64 x.cnt] 62)) (.cells #[.slice D0 x.rules.length d0, .slice D1 x.pend.length d1, .int .i64 x.turns, .int .i64 x.secs, .int .i64 x.spk, .slice D2 x.wait.length d2, .slice D3 x.shares.length d3, .slice D4 x.outs.length d4, .string x.dur, .string x.pen, .int .i64 x.cnt] 62)) (w.heap.size) 62 #[.slice A0 x.rules.length c0, .slice A1 x.pend.length c1, .int .i64 x.turns, .int .i64 x.secs, .int .i64 x.spk, .slice A2 x.wait.length c2, .slice A3 x.shares.length c3, .slice A4 x.outs.length c4, .string x.dur, .string x.pen, .int .i64 x.cnt] := by repeat (first | exact Blk.new _ _ _ | exact Blk.new2 _ _ _ _ | exact Blk.new3 _ _ _ _ _ | exact Blk.new4 _ _ _ _ _ _ | refine Blk.alloc ?_ _)
  have hB : Blk (World.alloc (World.alloc w (.cells #[.slice A0 x.rules.length c0, .slice A1 x.pend.length c1, .int .i64 x.turns, .int .i64 x.secs, .int .i64 x.spk, .slice A2 x.wait.length c2, .slice A3 x.shares.length c3, .slice A4 x.outs.length c4, .string x.dur, .string x.pen, .int .i64 x.cnt] 62)) (.cells #[.slice D0 x.rules.length d0, .slice D1 x.pend.length d1, .int .i64 x.turns, .int .i64 x.secs, .int .i64 x.spk, .slice D2 x.wait.length d2, .slice D3 x.shares.length d3, .slice D4 x.outs.length d4, .string x.dur, .string x.pen, .int .i64 x.cnt] 62)) (w.heap.size + 1) 62 #[.slice D0 x.rules.length d0, .slice D1 x.pend.length d1, .int .i64 x.turns, .int .i64 x.secs, .int .i64 x.spk, .slice D2 x.wait.length d2, .slice D3 x.shares.length d3, .slice D4 x.outs.length d4, .string x.dur, .string x.pen, .int .i64 x.cnt] := by repeat (first | exact Blk.new _ _ _ | exact Blk.new2 _ _ _ _ | exact Blk.new3 _ _ _ _ _ | exact Blk.new4 _ _ _ _ _ _ | refine Blk.alloc ?_ _)
  replace R0 := R0.below hq1
  replace R1 := R1.below hq1
  replace R2 := R2.below hq1
  replace R3 := R3.below hq1
  replace R4 := R4.below hq1
  replace Q0 := Q0.below hq1
  replace Q1 := Q1.below hq1
  replace Q2 := Q2.below hq1
  replace Q3 := Q3.below hq1
  replace Q4 := Q4.below hq1
  generalize World.alloc (World.alloc w (.cells #[.slice A0 x.rules.length c0, .slice A1 x.pend.length c1, .int .i64 x.turns, .int .i64 x.secs, .int .i64 x.spk, .slice A2 x.wait.length c2, .slice A3 x.shares.length c3, .slice A4 x.outs.length c4, .string x.dur, .string x.pen, .int .i64 x.cnt] 62)) (.cells #[.slice D0 x.rules.length d0, .slice D1 x.pend.length d1, .int .i64 x.turns, .int .i64 x.secs, .int .i64 x.spk, .slice D2 x.wait.length d2, .slice D3 x.shares.length d3, .slice D4 x.outs.length d4, .string x.dur, .string x.pen, .int .i64 x.cnt] 62) = wX at *
  have HB := hq1
  have a0 := (hA.cell 0).trans (show _ = some (.slice A0 x.rules.length c0) from rfl)
  have a1 := (hA.cell 1).trans (show _ = some (.slice A1 x.pend.length c1) from rfl)
  have a2 := (hA.cell 2).trans (show _ = some (.int .i64 x.turns) from rfl)
  have a3 := (hA.cell 3).trans (show _ = some (.int .i64 x.secs) from rfl)
  have a4 := (hA.cell 4).trans (show _ = some (.int .i64 x.spk) from rfl)
  have a5 := (hA.cell 5).trans (show _ = some (.slice A2 x.wait.length c2) from rfl)
  have a6 := (hA.cell 6).trans (show _ = some (.slice A3 x.shares.length c3) from rfl)
  have a7 := (hA.cell 7).trans (show _ = some (.slice A4 x.outs.length c4) from rfl)
  have a8 := (hA.cell 8).trans (show _ = some (.string x.dur) from rfl)
  have a9 := (hA.cell 9).trans (show _ = some (.string x.pen) from rfl)
  have a10 := (hA.cell 10).trans (show _ = some (.int .i64 x.cnt) from rfl)
  have b0 := (hB.cell 0).trans (show _ = some (.slice D0 x.rules.length d0) from rfl)
  have b1 := (hB.cell 1).trans (show _ = some (.slice D1 x.pend.length d1) from rfl)
  have b2 := (hB.cell 2).trans (show _ = some (.int .i64 x.turns) from rfl)
  have b3 := (hB.cell 3).trans (show _ = some (.int .i64 x.secs) from rfl)
  have b4 := (hB.cell 4).trans (show _ = some (.int .i64 x.spk) from rfl)
  have b5 := (hB.cell 5).trans (show _ = some (.slice D2 x.wait.length d2) from rfl)
  have b6 := (hB.cell 6).trans (show _ = some (.slice D3 x.shares.length d3) from rfl)
  have b7 := (hB.cell 7).trans (show _ = some (.slice D4 x.outs.length d4) from rfl)
  have b8 := (hB.cell 8).trans (show _ = some (.string x.dur) from rfl)
  have b9 := (hB.cell 9).trans (show _ = some (.string x.pen) from rfl)
  have b10 := (hB.cell 10).trans (show _ = some (.int .i64 x.cnt) from rfl)
  have yhA := hA.lt
  have yhB := hB.lt
  go_wp2_with fail
  refine (eqMeeting_is x.mee A0 A1 A2 A3 A4 D0 D1 D2 D3 D4 c0 c1 c2 c3 c4 d0 d1 d2 d3 d4 h0 h1 h2 h3 h4 _ (R0.below (by repeat (first | exact Below.refl _ _ | refine Below.alloc ?_ (by first | exact Nat.le_refl _ | (simp <;> omega)) _ | refine Below.setCell ?_ (by first | exact Nat.le_refl _ | (simp <;> omega)) _))) (R1.below (by repeat (first | exact Below.refl _ _ | refine Below.alloc ?_ (by first | exact Nat.le_refl _ | (simp <;> omega)) _ | refine Below.setCell ?_ (by first | exact Nat.le_refl _ | (simp <;> omega)) _))) (R2.below (by repeat (first | exact Below.refl _ _ | refine Below.alloc ?_ (by first | exact Nat.le_refl _ | (simp <;> omega)) _ | refine Below.setCell ?_ (by first | exact Nat.le_refl _ | (simp <;> omega)) _))) (R3.below (by repeat (first | exact Below.refl _ _ | refine Below.alloc ?_ (by first | exact Nat.le_refl _ | (simp <;> omega)) _ | refine Below.setCell ?_ (by first | exact Nat.le_refl _ | (simp <;> omega)) _))) (R4.below (by repeat (first | exact Below.refl _ _ | refine Below.alloc ?_ (by first | exact Nat.le_refl _ | (simp <;> omega)) _ | refine Below.setCell ?_ (by first | exact Nat.le_refl _ | (simp <;> omega)) _))) (Q0.below (by repeat (first | exact Below.refl _ _ | refine Below.alloc ?_ (by first | exact Nat.le_refl _ | (simp <;> omega)) _ | refine Below.setCell ?_ (by first | exact Nat.le_refl _ | (simp <;> omega)) _))) (Q1.below (by repeat (first | exact Below.refl _ _ | refine Below.alloc ?_ (by first | exact Nat.le_refl _ | (simp <;> omega)) _ | refine Below.setCell ?_ (by first | exact Nat.le_refl _ | (simp <;> omega)) _))) (Q2.below (by repeat (first | exact Below.refl _ _ | refine Below.alloc ?_ (by first | exact Nat.le_refl _ | (simp <;> omega)) _ | refine Below.setCell ?_ (by first | exact Nat.le_refl _ | (simp <;> omega)) _))) (Q3.below (by repeat (first | exact Below.refl _ _ | refine Below.alloc ?_ (by first | exact Nat.le_refl _ | (simp <;> omega)) _ | refine Below.setCell ?_ (by first | exact Nat.le_refl _ | (simp <;> omega)) _))) (Q4.below (by repeat (first | exact Below.refl _ _ | refine Below.alloc ?_ (by first | exact Nat.le_refl _ | (simp <;> omega)) _ | refine Below.setCell ?_ (by first | exact Nat.le_refl _ | (simp <;> omega)) _)))).mono ?_
  rintro e w2 ⟨rfl, hb2⟩
  have hq2 : Below wX.heap.size wX w2 := bth (by repeat (first | exact Below.refl _ _ | refine Below.alloc ?_ (by first | exact Nat.le_refl _ | (simp <;> omega)) _ | refine Below.setCell ?_ (by first | exact Nat.le_refl _ | (simp <;> omega)) _)) hb2
  replace HB := bth HB hq2
  replace R0 := R0.below hq2
  replace R1 := R1.below hq2
  replace R2 := R2.below hq2
  replace R3 := R3.below hq2
  replace R4 := R4.below hq2
  replace Q0 := Q0.below hq2
  replace Q1 := Q1.below hq2
  replace Q2 := Q2.below hq2
  replace Q3 := Q3.below hq2
  replace Q4 := Q4.below hq2
  replace hA := hA.below hq2 hA.lt
  replace a0 := (hA.cell 0).trans (show _ = some (.slice A0 x.rules.length c0) from rfl)
  replace a1 := (hA.cell 1).trans (show _ = some (.slice A1 x.pend.length c1) from rfl)
  replace a2 := (hA.cell 2).trans (show _ = some (.int .i64 x.turns) from rfl)
  replace a3 := (hA.cell 3).trans (show _ = some (.int .i64 x.secs) from rfl)
  replace a4 := (hA.cell 4).trans (show _ = some (.int .i64 x.spk) from rfl)
  replace a5 := (hA.cell 5).trans (show _ = some (.slice A2 x.wait.length c2) from rfl)
  replace a6 := (hA.cell 6).trans (show _ = some (.slice A3 x.shares.length c3) from rfl)
  replace a7 := (hA.cell 7).trans (show _ = some (.slice A4 x.outs.length c4) from rfl)
  replace a8 := (hA.cell 8).trans (show _ = some (.string x.dur) from rfl)
  replace a9 := (hA.cell 9).trans (show _ = some (.string x.pen) from rfl)
  replace a10 := (hA.cell 10).trans (show _ = some (.int .i64 x.cnt) from rfl)
  replace hB := hB.below hq2 hB.lt
  replace b0 := (hB.cell 0).trans (show _ = some (.slice D0 x.rules.length d0) from rfl)
  replace b1 := (hB.cell 1).trans (show _ = some (.slice D1 x.pend.length d1) from rfl)
  replace b2 := (hB.cell 2).trans (show _ = some (.int .i64 x.turns) from rfl)
  replace b3 := (hB.cell 3).trans (show _ = some (.int .i64 x.secs) from rfl)
  replace b4 := (hB.cell 4).trans (show _ = some (.int .i64 x.spk) from rfl)
  replace b5 := (hB.cell 5).trans (show _ = some (.slice D2 x.wait.length d2) from rfl)
  replace b6 := (hB.cell 6).trans (show _ = some (.slice D3 x.shares.length d3) from rfl)
  replace b7 := (hB.cell 7).trans (show _ = some (.slice D4 x.outs.length d4) from rfl)
  replace b8 := (hB.cell 8).trans (show _ = some (.string x.dur) from rfl)
  replace b9 := (hB.cell 9).trans (show _ = some (.string x.pen) from rfl)
  replace b10 := (hB.cell 10).trans (show _ = some (.int .i64 x.cnt) from rfl)
  have yhA := hA.lt
  have yhB := hB.lt
  go_wp2_with fail
  refine (eqLogC_is x.dur x.pen x.cnt _).mono ?_
  rintro e w3 ⟨rfl, hb3⟩
  have hq3 : Below w2.heap.size w2 w3 := bth (by repeat (first | exact Below.refl _ _ | refine Below.alloc ?_ (by first | exact Nat.le_refl _ | (simp <;> omega)) _ | refine Below.setCell ?_ (by first | exact Nat.le_refl _ | (simp <;> omega)) _)) hb3
  replace HB := bth HB hq3
  replace R0 := R0.below hq3
  replace R1 := R1.below hq3
  replace R2 := R2.below hq3
  replace R3 := R3.below hq3
  replace R4 := R4.below hq3
  replace Q0 := Q0.below hq3
  replace Q1 := Q1.below hq3
  replace Q2 := Q2.below hq3
  replace Q3 := Q3.below hq3
  replace Q4 := Q4.below hq3
  replace hA := hA.below hq3 hA.lt
  replace a0 := (hA.cell 0).trans (show _ = some (.slice A0 x.rules.length c0) from rfl)
  replace a1 := (hA.cell 1).trans (show _ = some (.slice A1 x.pend.length c1) from rfl)
  replace a2 := (hA.cell 2).trans (show _ = some (.int .i64 x.turns) from rfl)
  replace a3 := (hA.cell 3).trans (show _ = some (.int .i64 x.secs) from rfl)
  replace a4 := (hA.cell 4).trans (show _ = some (.int .i64 x.spk) from rfl)
  replace a5 := (hA.cell 5).trans (show _ = some (.slice A2 x.wait.length c2) from rfl)
  replace a6 := (hA.cell 6).trans (show _ = some (.slice A3 x.shares.length c3) from rfl)
  replace a7 := (hA.cell 7).trans (show _ = some (.slice A4 x.outs.length c4) from rfl)
  replace a8 := (hA.cell 8).trans (show _ = some (.string x.dur) from rfl)
  replace a9 := (hA.cell 9).trans (show _ = some (.string x.pen) from rfl)
  replace a10 := (hA.cell 10).trans (show _ = some (.int .i64 x.cnt) from rfl)
  replace hB := hB.below hq3 hB.lt
  replace b0 := (hB.cell 0).trans (show _ = some (.slice D0 x.rules.length d0) from rfl)
  replace b1 := (hB.cell 1).trans (show _ = some (.slice D1 x.pend.length d1) from rfl)
  replace b2 := (hB.cell 2).trans (show _ = some (.int .i64 x.turns) from rfl)
  replace b3 := (hB.cell 3).trans (show _ = some (.int .i64 x.secs) from rfl)
  replace b4 := (hB.cell 4).trans (show _ = some (.int .i64 x.spk) from rfl)
  replace b5 := (hB.cell 5).trans (show _ = some (.slice D2 x.wait.length d2) from rfl)
  replace b6 := (hB.cell 6).trans (show _ = some (.slice D3 x.shares.length d3) from rfl)
  replace b7 := (hB.cell 7).trans (show _ = some (.slice D4 x.outs.length d4) from rfl)
  replace b8 := (hB.cell 8).trans (show _ = some (.string x.dur) from rfl)
  replace b9 := (hB.cell 9).trans (show _ = some (.string x.pen) from rfl)
  replace b10 := (hB.cell 10).trans (show _ = some (.int .i64 x.cnt) from rfl)
  have yhA := hA.lt
  have yhB := hB.lt
  go_wp2
  go_ret
  exact ⟨rfl, (bth HB (by repeat (first | exact Below.refl _ _ | refine Below.alloc ?_ (by first | exact Nat.le_refl _ | (simp <;> omega)) _ | refine Below.setCell ?_ (by first | exact Nat.le_refl _ | (simp <;> omega)) _)))⟩
set_option maxHeartbeats 4000000 in
set_option maxRecDepth 100000 in
theorem mkConsole_is {B0 B1 B2 B3 B4 : Nat} (x : Con) (A0 A1 A2 A3 A4 : Option Addr) (c0 c1 c2 c3 c4 : Nat) (h0 : x.rules.length ≤ 1048576) (h1 : x.pend.length ≤ 1048576) (h2 : x.wait.length ≤ 1048576) (h3 : x.shares.length ≤ 1048576) (h4 : x.outs.length ≤ 1048576) (m : Int) (g0 : 0 < m) (g1 : m ≤ 9000000) (w : World) (O0 : OwnV B0 88 7 Rul.cells w (.slice A0 x.rules.length c0) x.rules) (O1 : OwnV B1 90 3 Que.cells w (.slice A1 x.pend.length c1) x.pend) (O2 : OwnV B2 3 1 intC w (.slice A2 x.wait.length c2) x.wait) (O3 : OwnV B3 114 3 Sha.cells w (.slice A3 x.shares.length c3) x.shares) (O4 : OwnV B4 81 3 Out.cells w (.slice A4 x.outs.length c4) x.outs) (ap : Apart [.slice A0 x.rules.length c0, .slice A1 x.pend.length c1, .slice A2 x.wait.length c2, .slice A3 x.shares.length c3, .slice A4 x.outs.length c4]) :
  Calls Try.prog 32 #[.agg #[.slice A0 x.rules.length c0, .slice A1 x.pend.length c1, .int .i64 x.turns, .int .i64 x.secs, .int .i64 x.spk, .slice A2 x.wait.length c2, .slice A3 x.shares.length c3, .slice A4 x.outs.length c4, .string x.dur, .string x.pen, .int .i64 x.cnt], .int .i64 m] w fun e w' => e = .returned (.int .i64 (m + 7 * (x.rules.length : Int) + 3 * (x.pend.length : Int) + (x.wait.length : Int) + 3 * (x.shares.length : Int) + 3 * (x.outs.length : Int))) ∧ OwnV B0 88 7 patRule w' (.slice A0 x.rules.length c0) (mks (m) 7 x.rules.length) ∧ OwnV B1 90 3 patQuestion w' (.slice A1 x.pend.length c1) (mks (m + 7 * (x.rules.length : Int)) 3 x.pend.length) ∧ OwnV B2 3 1 patInt w' (.slice A2 x.wait.length c2) (mks (m + 7 * (x.rules.length : Int) + 3 * (x.pend.length : Int)) 1 x.wait.length) ∧ OwnV B3 114 3 patShare w' (.slice A3 x.shares.length c3) (mks (m + 7 * (x.rules.length : Int) + 3 * (x.pend.length : Int) + (x.wait.length : Int)) 3 x.shares.length) ∧ OwnV B4 81 3 patOutcome w' (.slice A4 x.outs.length c4) (mks (m + 7 * (x.rules.length : Int) + 3 * (x.pend.length : Int) + (x.wait.length : Int) + 3 * (x.shares.length : Int)) 3 x.outs.length) ∧ GrownL w w' [.slice A0 x.rules.length c0, .slice A1 x.pend.length c1, .slice A2 x.wait.length c2, .slice A3 x.shares.length c3, .slice A4 x.outs.length c4] := by
  go_enter Try.func32, Try.ntmps32
  replace O0 := O0.alloc (.cells #[.slice A0 x.rules.length c0, .slice A1 x.pend.length c1, .int .i64 x.turns, .int .i64 x.secs, .int .i64 x.spk, .slice A2 x.wait.length c2, .slice A3 x.shares.length c3, .slice A4 x.outs.length c4, .string x.dur, .string x.pen, .int .i64 x.cnt] 62)
  replace O1 := O1.alloc (.cells #[.slice A0 x.rules.length c0, .slice A1 x.pend.length c1, .int .i64 x.turns, .int .i64 x.secs, .int .i64 x.spk, .slice A2 x.wait.length c2, .slice A3 x.shares.length c3, .slice A4 x.outs.length c4, .string x.dur, .string x.pen, .int .i64 x.cnt] 62)
  replace O2 := O2.alloc (.cells #[.slice A0 x.rules.length c0, .slice A1 x.pend.length c1, .int .i64 x.turns, .int .i64 x.secs, .int .i64 x.spk, .slice A2 x.wait.length c2, .slice A3 x.shares.length c3, .slice A4 x.outs.length c4, .string x.dur, .string x.pen, .int .i64 x.cnt] 62)
  replace O3 := O3.alloc (.cells #[.slice A0 x.rules.length c0, .slice A1 x.pend.length c1, .int .i64 x.turns, .int .i64 x.secs, .int .i64 x.spk, .slice A2 x.wait.length c2, .slice A3 x.shares.length c3, .slice A4 x.outs.length c4, .string x.dur, .string x.pen, .int .i64 x.cnt] 62)
  replace O4 := O4.alloc (.cells #[.slice A0 x.rules.length c0, .slice A1 x.pend.length c1, .int .i64 x.turns, .int .i64 x.secs, .int .i64 x.spk, .slice A2 x.wait.length c2, .slice A3 x.shares.length c3, .slice A4 x.outs.length c4, .string x.dur, .string x.pen, .int .i64 x.cnt] 62)
  go_wp2_with fail
  refine (mkMeeting_is x.mee A0 A1 A2 A3 A4 c0 c1 c2 c3 c4 h0 h1 h2 h3 h4 m g0 g1 _ O0 O1 O2 O3 O4 ap).mono ?_
  rintro e w1 ⟨rfl, M0, M1, M2, M3, M4, HG⟩
  go_wp2
  go_ret
  exact ⟨rfl, M0, M1, M2, M3, M4, (GrownL.of_below (vs := []) (bl1 w _)).trans HG⟩
set_option maxHeartbeats 4000000 in
set_option maxRecDepth 100000 in
theorem hdConsole_is (x : Con) (A0 A1 A2 A3 A4 : Option Addr) (c0 c1 c2 c3 c4 : Nat) (h0 : x.rules.length ≤ 1048576) (h1 : x.pend.length ≤ 1048576) (h2 : x.wait.length ≤ 1048576) (h3 : x.shares.length ≤ 1048576) (h4 : x.outs.length ≤ 1048576) (m : Int) (g0 : 0 < m) (g1 : m ≤ 9000000) (w : World) (R0 : Rds 7 patRule w A0 (mks (m) 7 x.rules.length)) (R1 : Rds 3 patQuestion w A1 (mks (m + 7 * (x.rules.length : Int)) 3 x.pend.length)) (R2 : Rds 1 patInt w A2 (mks (m + 7 * (x.rules.length : Int) + 3 * (x.pend.length : Int)) 1 x.wait.length)) (R3 : Rds 3 patShare w A3 (mks (m + 7 * (x.rules.length : Int) + 3 * (x.pend.length : Int) + (x.wait.length : Int)) 3 x.shares.length)) (R4 : Rds 3 patOutcome w A4 (mks (m + 7 * (x.rules.length : Int) + 3 * (x.pend.length : Int) + (x.wait.length : Int) + 3 * (x.shares.length : Int)) 3 x.outs.length)) :
  Calls Try.prog 33 #[.agg #[.slice A0 x.rules.length c0, .slice A1 x.pend.length c1, .int .i64 x.turns, .int .i64 x.secs, .int .i64 x.spk, .slice A2 x.wait.length c2, .slice A3 x.shares.length c3, .slice A4 x.outs.length c4, .string x.dur, .string x.pen, .int .i64 x.cnt], .int .i64 m] w fun e w' => e = .returned (.int .i64 (m + 7 * (x.rules.length : Int) + 3 * (x.pend.length : Int) + (x.wait.length : Int) + 3 * (x.shares.length : Int) + 3 * (x.outs.length : Int))) ∧ Below w.heap.size w w' := by
  go_enter Try.func33, Try.ntmps33
  go_wp2_with fail
  refine (hdMeeting_is x.mee A0 A1 A2 A3 A4 c0 c1 c2 c3 c4 h0 h1 h2 h3 h4 m g0 g1 _ (R0.below (by repeat (first | exact Below.refl _ _ | refine Below.alloc ?_ (by first | exact Nat.le_refl _ | (simp <;> omega)) _ | refine Below.setCell ?_ (by first | exact Nat.le_refl _ | (simp <;> omega)) _))) (R1.below (by repeat (first | exact Below.refl _ _ | refine Below.alloc ?_ (by first | exact Nat.le_refl _ | (simp <;> omega)) _ | refine Below.setCell ?_ (by first | exact Nat.le_refl _ | (simp <;> omega)) _))) (R2.below (by repeat (first | exact Below.refl _ _ | refine Below.alloc ?_ (by first | exact Nat.le_refl _ | (simp <;> omega)) _ | refine Below.setCell ?_ (by first | exact Nat.le_refl _ | (simp <;> omega)) _))) (R3.below (by repeat (first | exact Below.refl _ _ | refine Below.alloc ?_ (by first | exact Nat.le_refl _ | (simp <;> omega)) _ | refine Below.setCell ?_ (by first | exact Nat.le_refl _ | (simp <;> omega)) _))) (R4.below (by repeat (first | exact Below.refl _ _ | refine Below.alloc ?_ (by first | exact Nat.le_refl _ | (simp <;> omega)) _ | refine Below.setCell ?_ (by first | exact Nat.le_refl _ | (simp <;> omega)) _)))).mono ?_
  rintro e w1 ⟨rfl, hb1⟩
  have hq1 : Below w.heap.size w w1 := bth (by repeat (first | exact Below.refl _ _ | refine Below.alloc ?_ (by first | exact Nat.le_refl _ | (simp <;> omega)) _ | refine Below.setCell ?_ (by first | exact Nat.le_refl _ | (simp <;> omega)) _)) hb1
  have HB : Below w.heap.size w w1 := hq1
  replace R0 := R0.below hq1
  replace R1 := R1.below hq1
  replace R2 := R2.below hq1
  replace R3 := R3.below hq1
  replace R4 := R4.below hq1
  go_wp2
  go_ret
  exact ⟨rfl, (bth HB (by repeat (first | exact Below.refl _ _ | refine Below.alloc ?_ (by first | exact Nat.le_refl _ | (simp <;> omega)) _ | refine Below.setCell ?_ (by first | exact Nat.le_refl _ | (simp <;> omega)) _)))⟩
end Go.Proofs.Ytkkdegmfmimdgaa
