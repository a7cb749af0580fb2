/- A floor and a meeting: counted, copied, compared. -/
import Derived.Test.YtpkagohflkcnkaaGreatDoorIv10
import Derived.Test.YtpkagohflkcnkaaGreatDoorIv3
import Derived.Deep.Cut
namespace Go.Proofs.YtpkagohflkcnkaaGreatDoor
open Go.RowKit Go.G9
theorem szFloor_is (tu se sp : Int) (W : Option Addr) (ws : List Int) (wc : Nat) (S : Option Addr) (sc : Nat) (sh : List Sha) (hw : ws.length ≤ maxLen) (hn : sh.length ≤ maxLen) (l : Int) (l0 : 0 ≤ l) (l1 : l ≤ 1048576) (w : World) :
  Calls Tryz.prog 29 #[.agg #[.int .i64 tu, .int .i64 se, .int .i64 sp, .slice W ws.length wc, .slice S sh.length sc], .int .i64 l] w fun e w' => ∃ r : Int, e = .returned (.int .i64 r) ∧ -1 ≤ r ∧ r ≤ l ∧ (r < 0 ∨ ws.length ≤ 1048576 ∧ sh.length ≤ 1048576) ∧ Below w.heap.size w w' := by
  go_enter Tryz.func29, Tryz.ntmps29
  go_wp2_with fail
  refine (szIntS_is W wc ws hw l l0 l1 _).mono ?_
  rintro e w1 ⟨r, rfl, a1, a2, a3, rfl⟩
  by_cases hr : r < 0
  · go_wp2
    go_ret
    exact ⟨_, rfl, by omega, by omega, .inl (by omega), bl1 _ _⟩
  · have a4 : ws.length ≤ 1048576 := by omega
    clear a3
    go_wp2_with fail
    refine (szShareS_is S sc sh hn r (by omega) (by omega) _).mono ?_
    rintro e w1 ⟨r', rfl, b1, b2, b3, hb⟩
    by_cases hr' : r' < 0
    · go_wp2
      go_ret
      exact ⟨_, rfl, by omega, by omega, .inl (by omega), bth (bl1 _ _) hb⟩
    · have b4 : sh.length ≤ 1048576 := by omega
      clear b3
      go_wp2
      go_ret
      exact ⟨_, rfl, by omega, by omega, .inr ⟨a4, b4⟩, bth (bl1 _ _) hb⟩
set_option maxHeartbeats 1000000 in
theorem eqFloor_is (tu se sp : Int) (W W' : Option Addr) (ws : List Int) (wc wc' : Nat) (S S' : Option Addr) (sc sc' : Nat) (sh : List Sha) (hw : ws.length ≤ 1048576) (hn : sh.length ≤ 1048576) (w : World) (R2 : Rds 1 intC w W ws) (R3 : Rds 3 Sha.cells w S sh) (Q2 : Rds 1 intC w W' ws) (Q3 : Rds 3 Sha.cells w S' sh) :
  Calls Tryz.prog 47 #[.agg #[.int .i64 tu, .int .i64 se, .int .i64 sp, .slice W ws.length wc, .slice S sh.length sc], .agg #[.int .i64 tu, .int .i64 se, .int .i64 sp, .slice W' ws.length wc', .slice S' sh.length sc']] w fun e w' => e = .returned (.bool true) ∧ Below w.heap.size w w' := by
  go_enter Tryz.func47, Tryz.ntmps47
  go_upto_region 1 with fail
  have hq1 : Below w.heap.size w (World.alloc (World.alloc w (.cells #[.int .i64 tu, .int .i64 se, .int .i64 sp, .slice W ws.length wc, .slice S sh.length sc] 41)) (.cells #[.int .i64 tu, .int .i64 se, .int .i64 sp, .slice W' ws.length wc', .slice S' sh.length sc'] 41)) := bl2 w _ _
  have hA : Blk (World.alloc (World.alloc w (.cells #[.int .i64 tu, .int .i64 se, .int .i64 sp, .slice W ws.length wc, .slice S sh.length sc] 41)) (.cells #[.int .i64 tu, .int .i64 se, .int .i64 sp, .slice W' ws.length wc', .slice S' sh.length sc'] 41)) (w.heap.size) 41 #[.int .i64 tu, .int .i64 se, .int .i64 sp, .slice W ws.length wc, .slice S sh.length sc] := by repeat (first | exact Blk.new _ _ _ | exact Blk.new2 _ _ _ _ | exact Blk.new3 _ _ _ _ _ | exact Blk.new4 _ _ _ _ _ _ | refine Blk.alloc ?_ _)
  have hB : Blk (World.alloc (World.alloc w (.cells #[.int .i64 tu, .int .i64 se, .int .i64 sp, .slice W ws.length wc, .slice S sh.length sc] 41)) (.cells #[.int .i64 tu, .int .i64 se, .int .i64 sp, .slice W' ws.length wc', .slice S' sh.length sc'] 41)) (w.heap.size + 1) 41 #[.int .i64 tu, .int .i64 se, .int .i64 sp, .slice W' ws.length wc', .slice S' sh.length sc'] := by repeat (first | exact Blk.new _ _ _ | exact Blk.new2 _ _ _ _ | exact Blk.new3 _ _ _ _ _ | exact Blk.new4 _ _ _ _ _ _ | refine Blk.alloc ?_ _)
  replace R2 := R2.below hq1
  replace R3 := R3.below hq1
  replace Q2 := Q2.below hq1
  replace Q3 := Q3.below hq1
  generalize World.alloc (World.alloc w (.cells #[.int .i64 tu, .int .i64 se, .int .i64 sp, .slice W ws.length wc, .slice S sh.length sc] 41)) (.cells #[.int .i64 tu, .int .i64 se, .int .i64 sp, .slice W' ws.length wc', .slice S' sh.length sc'] 41) = wX at *
  have HB := hq1
  have a0 := (hA.cell 0).trans (show _ = some (.int .i64 tu) from rfl)
  have a1 := (hA.cell 1).trans (show _ = some (.int .i64 se) from rfl)
  have a2 := (hA.cell 2).trans (show _ = some (.int .i64 sp) from rfl)
  have a3 := (hA.cell 3).trans (show _ = some (.slice W ws.length wc) from rfl)
  have a4 := (hA.cell 4).trans (show _ = some (.slice S sh.length sc) from rfl)
  have b0 := (hB.cell 0).trans (show _ = some (.int .i64 tu) from rfl)
  have b1 := (hB.cell 1).trans (show _ = some (.int .i64 se) from rfl)
  have b2 := (hB.cell 2).trans (show _ = some (.int .i64 sp) from rfl)
  have b3 := (hB.cell 3).trans (show _ = some (.slice W' ws.length wc') from rfl)
  have b4 := (hB.cell 4).trans (show _ = some (.slice S' sh.length sc') from rfl)
  have yhA := hA.lt
  have yhB := hB.lt
  go_wp2_with fail
  refine (eqIntS_is W W' wc wc' ws hw _ (R2.below (by repeat (first | exact Below.refl _ _ | refine Below.alloc ?_ (by first | exact Nat.le_refl _ | (simp <;> omega)) _ | refine Below.setCell ?_ (by first | exact Nat.le_refl _ | (simp <;> omega)) _))) (Q2.below (by repeat (first | exact Below.refl _ _ | refine Below.alloc ?_ (by first | exact Nat.le_refl _ | (simp <;> omega)) _ | refine Below.setCell ?_ (by first | exact Nat.le_refl _ | (simp <;> omega)) _)))).mono ?_
  rintro e w2 ⟨rfl, hb2⟩
  have hq2 : Below wX.heap.size wX w2 := bth (by repeat (first | exact Below.refl _ _ | refine Below.alloc ?_ (by first | exact Nat.le_refl _ | (simp <;> omega)) _ | refine Below.setCell ?_ (by first | exact Nat.le_refl _ | (simp <;> omega)) _)) hb2
  replace HB := bth HB hq2
  replace R2 := R2.below hq2
  replace R3 := R3.below hq2
  replace Q2 := Q2.below hq2
  replace Q3 := Q3.below hq2
  replace hA := hA.below hq2 hA.lt
  replace a0 := (hA.cell 0).trans (show _ = some (.int .i64 tu) from rfl)
  replace a1 := (hA.cell 1).trans (show _ = some (.int .i64 se) from rfl)
  replace a2 := (hA.cell 2).trans (show _ = some (.int .i64 sp) from rfl)
  replace a3 := (hA.cell 3).trans (show _ = some (.slice W ws.length wc) from rfl)
  replace a4 := (hA.cell 4).trans (show _ = some (.slice S sh.length sc) from rfl)
  replace hB := hB.below hq2 hB.lt
  replace b0 := (hB.cell 0).trans (show _ = some (.int .i64 tu) from rfl)
  replace b1 := (hB.cell 1).trans (show _ = some (.int .i64 se) from rfl)
  replace b2 := (hB.cell 2).trans (show _ = some (.int .i64 sp) from rfl)
  replace b3 := (hB.cell 3).trans (show _ = some (.slice W' ws.length wc') from rfl)
  replace b4 := (hB.cell 4).trans (show _ = some (.slice S' sh.length sc') from rfl)
  have yhA := hA.lt
  have yhB := hB.lt
  go_wp2_with fail
  refine (eqShareS_is S S' sc sc' sh hn _ (R3.below (by repeat (first | exact Below.refl _ _ | refine Below.alloc ?_ (by first | exact Nat.le_refl _ | (simp <;> omega)) _ | refine Below.setCell ?_ (by first | exact Nat.le_refl _ | (simp <;> omega)) _))) (Q3.below (by repeat (first | exact Below.refl _ _ | refine Below.alloc ?_ (by first | exact Nat.le_refl _ | (simp <;> omega)) _ | refine Below.setCell ?_ (by first | exact Nat.le_refl _ | (simp <;> omega)) _)))).mono ?_
  rintro e w3 ⟨rfl, hb3⟩
  have hq3 : Below w2.heap.size w2 w3 := bth (by repeat (first | exact Below.refl _ _ | refine Below.alloc ?_ (by first | exact Nat.le_refl _ | (simp <;> omega)) _ | refine Below.setCell ?_ (by first | exact Nat.le_refl _ | (simp <;> omega)) _)) hb3
  replace HB := bth HB hq3
  replace R2 := R2.below hq3
  replace R3 := R3.below hq3
  replace Q2 := Q2.below hq3
  replace Q3 := Q3.below hq3
  replace hA := hA.below hq3 hA.lt
  replace a0 := (hA.cell 0).trans (show _ = some (.int .i64 tu) from rfl)
  replace a1 := (hA.cell 1).trans (show _ = some (.int .i64 se) from rfl)
  replace a2 := (hA.cell 2).trans (show _ = some (.int .i64 sp) from rfl)
  replace a3 := (hA.cell 3).trans (show _ = some (.slice W ws.length wc) from rfl)
  replace a4 := (hA.cell 4).trans (show _ = some (.slice S sh.length sc) from rfl)
  replace hB := hB.below hq3 hB.lt
  replace b0 := (hB.cell 0).trans (show _ = some (.int .i64 tu) from rfl)
  replace b1 := (hB.cell 1).trans (show _ = some (.int .i64 se) from rfl)
  replace b2 := (hB.cell 2).trans (show _ = some (.int .i64 sp) from rfl)
  replace b3 := (hB.cell 3).trans (show _ = some (.slice W' ws.length wc') from rfl)
  replace b4 := (hB.cell 4).trans (show _ = some (.slice S' sh.length sc') from rfl)
  have yhA := hA.lt
  have yhB := hB.lt
  go_wp2
  go_ret
  exact ⟨rfl, (bth HB (by repeat (first | exact Below.refl _ _ | refine Below.alloc ?_ (by first | exact Nat.le_refl _ | (simp <;> omega)) _ | refine Below.setCell ?_ (by first | exact Nat.le_refl _ | (simp <;> omega)) _)))⟩
set_option maxHeartbeats 2000000 in
theorem eqMee_is (rs : List Rul) (qs : List Que) (tu se sp : Int) (ws : List Int) (sh : List Sha) (os : List Out) (A0 A1 A2 A3 A4 : Option Addr) (c0 c1 c2 c3 c4 : Nat) (D0 D1 D2 D3 D4 : Option Addr) (d0 d1 d2 d3 d4 : Nat) (h0 : rs.length ≤ 1048576) (h1 : qs.length ≤ 1048576) (h2 : ws.length ≤ 1048576) (h3 : sh.length ≤ 1048576) (h4 : os.length ≤ 1048576) (w : World) (R0 : Rds 7 Rul.cells w A0 rs) (R1 : Rds 3 Que.cells w A1 qs) (R2 : Rds 1 intC w A2 ws) (R3 : Rds 3 Sha.cells w A3 sh) (R4 : Rds 3 Out.cells w A4 os) (Q0 : Rds 7 Rul.cells w D0 rs) (Q1 : Rds 3 Que.cells w D1 qs) (Q2 : Rds 1 intC w D2 ws) (Q3 : Rds 3 Sha.cells w D3 sh) (Q4 : Rds 3 Out.cells w D4 os) :
  Calls Tryz.prog 19 #[.agg #[.slice A0 rs.length c0, .slice A1 qs.length c1, .int .i64 tu, .int .i64 se, .int .i64 sp, .slice A2 ws.length c2, .slice A3 sh.length c3, .slice A4 os.length c4], .agg #[.slice D0 rs.length d0, .slice D1 qs.length d1, .int .i64 tu, .int .i64 se, .int .i64 sp, .slice D2 ws.length d2, .slice D3 sh.length d3, .slice D4 os.length d4]] w fun e w' => e = .returned (.bool true) ∧ Below w.heap.size w w' := by
  go_enter Tryz.func19, Tryz.ntmps19
  go_upto_region 1 with fail
  have hq1 : Below w.heap.size w (World.alloc (World.alloc w (.cells #[.slice A0 rs.length c0, .slice A1 qs.length c1, .int .i64 tu, .int .i64 se, .int .i64 sp, .slice A2 ws.length c2, .slice A3 sh.length c3, .slice A4 os.length c4] 44)) (.cells #[.slice D0 rs.length d0, .slice D1 qs.length d1, .int .i64 tu, .int .i64 se, .int .i64 sp, .slice D2 ws.length d2, .slice D3 sh.length d3, .slice D4 os.length d4] 44)) := bl2 w _ _
  have hA : Blk (World.alloc (World.alloc w (.cells #[.slice A0 rs.length c0, .slice A1 qs.length c1, .int .i64 tu, .int .i64 se, .int .i64 sp, .slice A2 ws.length c2, .slice A3 sh.length c3, .slice A4 os.length c4] 44)) (.cells #[.slice D0 rs.length d0, .slice D1 qs.length d1, .int .i64 tu, .int .i64 se, .int .i64 sp, .slice D2 ws.length d2, .slice D3 sh.length d3, .slice D4 os.length d4] 44)) (w.heap.size) 44 #[.slice A0 rs.length c0, .slice A1 qs.length c1, .int .i64 tu, .int .i64 se, .int .i64 sp, .slice A2 ws.length c2, .slice A3 sh.length c3, .slice A4 os.length c4] := by repeat (first | exact Blk.new _ _ _ | exact Blk.new2 _ _ _ _ | exact Blk.new3 _ _ _ _ _ | exact Blk.new4 _ _ _ _ _ _ | refine Blk.alloc ?_ _)
  have hB : Blk (World.alloc (World.alloc w (.cells #[.slice A0 rs.length c0, .slice A1 qs.length c1, .int .i64 tu, .int .i64 se, .int .i64 sp, .slice A2 ws.length c2, .slice A3 sh.length c3, .slice A4 os.length c4] 44)) (.cells #[.slice D0 rs.length d0, .slice D1 qs.length d1, .int .i64 tu, .int .i64 se, .int .i64 sp, .slice D2 ws.length d2, .slice D3 sh.length d3, .slice D4 os.length d4] 44)) (w.heap.size + 1) 44 #[.slice D0 rs.length d0, .slice D1 qs.length d1, .int .i64 tu, .int .i64 se, .int .i64 sp, .slice D2 ws.length d2, .slice D3 sh.length d3, .slice D4 os.length d4] := by repeat (first | exact Blk.new _ _ _ | exact Blk.new2 _ _ _ _ | exact Blk.new3 _ _ _ _ _ | exact Blk.new4 _ _ _ _ _ _ | refine Blk.alloc ?_ _)
  replace R0 := R0.below hq1
  replace R1 := R1.below hq1
  replace R2 := R2.below hq1
  replace R3 := R3.below hq1
  replace R4 := R4.below hq1
  replace Q0 := Q0.below hq1
  replace Q1 := Q1.below hq1
  replace Q2 := Q2.below hq1
  replace Q3 := Q3.below hq1
  replace Q4 := Q4.below hq1
  generalize World.alloc (World.alloc w (.cells #[.slice A0 rs.length c0, .slice A1 qs.length c1, .int .i64 tu, .int .i64 se, .int .i64 sp, .slice A2 ws.length c2, .slice A3 sh.length c3, .slice A4 os.length c4] 44)) (.cells #[.slice D0 rs.length d0, .slice D1 qs.length d1, .int .i64 tu, .int .i64 se, .int .i64 sp, .slice D2 ws.length d2, .slice D3 sh.length d3, .slice D4 os.length d4] 44) = wX at *
  have HB := hq1
  have a0 := (hA.cell 0).trans (show _ = some (.slice A0 rs.length c0) from rfl)
  have a1 := (hA.cell 1).trans (show _ = some (.slice A1 qs.length c1) from rfl)
  have a2 := (hA.cell 2).trans (show _ = some (.int .i64 tu) from rfl)
  have a3 := (hA.cell 3).trans (show _ = some (.int .i64 se) from rfl)
  have a4 := (hA.cell 4).trans (show _ = some (.int .i64 sp) from rfl)
  have a5 := (hA.cell 5).trans (show _ = some (.slice A2 ws.length c2) from rfl)
  have a6 := (hA.cell 6).trans (show _ = some (.slice A3 sh.length c3) from rfl)
  have a7 := (hA.cell 7).trans (show _ = some (.slice A4 os.length c4) from rfl)
  have b0 := (hB.cell 0).trans (show _ = some (.slice D0 rs.length d0) from rfl)
  have b1 := (hB.cell 1).trans (show _ = some (.slice D1 qs.length d1) from rfl)
  have b2 := (hB.cell 2).trans (show _ = some (.int .i64 tu) from rfl)
  have b3 := (hB.cell 3).trans (show _ = some (.int .i64 se) from rfl)
  have b4 := (hB.cell 4).trans (show _ = some (.int .i64 sp) from rfl)
  have b5 := (hB.cell 5).trans (show _ = some (.slice D2 ws.length d2) from rfl)
  have b6 := (hB.cell 6).trans (show _ = some (.slice D3 sh.length d3) from rfl)
  have b7 := (hB.cell 7).trans (show _ = some (.slice D4 os.length d4) from rfl)
  have yhA := hA.lt
  have yhB := hB.lt
  go_wp2_with fail
  refine (eqRuleS_is A0 D0 c0 d0 rs h0 _ (R0.below (by repeat (first | exact Below.refl _ _ | refine Below.alloc ?_ (by first | exact Nat.le_refl _ | (simp <;> omega)) _ | refine Below.setCell ?_ (by first | exact Nat.le_refl _ | (simp <;> omega)) _))) (Q0.below (by repeat (first | exact Below.refl _ _ | refine Below.alloc ?_ (by first | exact Nat.le_refl _ | (simp <;> omega)) _ | refine Below.setCell ?_ (by first | exact Nat.le_refl _ | (simp <;> omega)) _)))).mono ?_
  rintro e w2 ⟨rfl, hb2⟩
  have hq2 : Below wX.heap.size wX w2 := bth (by repeat (first | exact Below.refl _ _ | refine Below.alloc ?_ (by first | exact Nat.le_refl _ | (simp <;> omega)) _ | refine Below.setCell ?_ (by first | exact Nat.le_refl _ | (simp <;> omega)) _)) hb2
  replace HB := bth HB hq2
  replace R0 := R0.below hq2
  replace R1 := R1.below hq2
  replace R2 := R2.below hq2
  replace R3 := R3.below hq2
  replace R4 := R4.below hq2
  replace Q0 := Q0.below hq2
  replace Q1 := Q1.below hq2
  replace Q2 := Q2.below hq2
  replace Q3 := Q3.below hq2
  replace Q4 := Q4.below hq2
  replace hA := hA.below hq2 hA.lt
  replace a0 := (hA.cell 0).trans (show _ = some (.slice A0 rs.length c0) from rfl)
  replace a1 := (hA.cell 1).trans (show _ = some (.slice A1 qs.length c1) from rfl)
  replace a2 := (hA.cell 2).trans (show _ = some (.int .i64 tu) from rfl)
  replace a3 := (hA.cell 3).trans (show _ = some (.int .i64 se) from rfl)
  replace a4 := (hA.cell 4).trans (show _ = some (.int .i64 sp) from rfl)
  replace a5 := (hA.cell 5).trans (show _ = some (.slice A2 ws.length c2) from rfl)
  replace a6 := (hA.cell 6).trans (show _ = some (.slice A3 sh.length c3) from rfl)
  replace a7 := (hA.cell 7).trans (show _ = some (.slice A4 os.length c4) from rfl)
  replace hB := hB.below hq2 hB.lt
  replace b0 := (hB.cell 0).trans (show _ = some (.slice D0 rs.length d0) from rfl)
  replace b1 := (hB.cell 1).trans (show _ = some (.slice D1 qs.length d1) from rfl)
  replace b2 := (hB.cell 2).trans (show _ = some (.int .i64 tu) from rfl)
  replace b3 := (hB.cell 3).trans (show _ = some (.int .i64 se) from rfl)
  replace b4 := (hB.cell 4).trans (show _ = some (.int .i64 sp) from rfl)
  replace b5 := (hB.cell 5).trans (show _ = some (.slice D2 ws.length d2) from rfl)
  replace b6 := (hB.cell 6).trans (show _ = some (.slice D3 sh.length d3) from rfl)
  replace b7 := (hB.cell 7).trans (show _ = some (.slice D4 os.length d4) from rfl)
  have yhA := hA.lt
  have yhB := hB.lt
  go_wp2_with fail
  refine (eqQuestionS_is A1 D1 c1 d1 qs h1 _ (R1.below (by repeat (first | exact Below.refl _ _ | refine Below.alloc ?_ (by first | exact Nat.le_refl _ | (simp <;> omega)) _ | refine Below.setCell ?_ (by first | exact Nat.le_refl _ | (simp <;> omega)) _))) (Q1.below (by repeat (first | exact Below.refl _ _ | refine Below.alloc ?_ (by first | exact Nat.le_refl _ | (simp <;> omega)) _ | refine Below.setCell ?_ (by first | exact Nat.le_refl _ | (simp <;> omega)) _)))).mono ?_
  rintro e w3 ⟨rfl, hb3⟩
  have hq3 : Below w2.heap.size w2 w3 := bth (by repeat (first | exact Below.refl _ _ | refine Below.alloc ?_ (by first | exact Nat.le_refl _ | (simp <;> omega)) _ | refine Below.setCell ?_ (by first | exact Nat.le_refl _ | (simp <;> omega)) _)) hb3
  replace HB := bth HB hq3
  replace R0 := R0.below hq3
  replace R1 := R1.below hq3
  replace R2 := R2.below hq3
  replace R3 := R3.below hq3
  replace R4 := R4.below hq3
  replace Q0 := Q0.below hq3
  replace Q1 := Q1.below hq3
  replace Q2 := Q2.below hq3
  replace Q3 := Q3.below hq3
  replace Q4 := Q4.below hq3
  replace hA := hA.below hq3 hA.lt
  replace a0 := (hA.cell 0).trans (show _ = some (.slice A0 rs.length c0) from rfl)
  replace a1 := (hA.cell 1).trans (show _ = some (.slice A1 qs.length c1) from rfl)
  replace a2 := (hA.cell 2).trans (show _ = some (.int .i64 tu) from rfl)
  replace a3 := (hA.cell 3).trans (show _ = some (.int .i64 se) from rfl)
  replace a4 := (hA.cell 4).trans (show _ = some (.int .i64 sp) from rfl)
  replace a5 := (hA.cell 5).trans (show _ = some (.slice A2 ws.length c2) from rfl)
  replace a6 := (hA.cell 6).trans (show _ = some (.slice A3 sh.length c3) from rfl)
  replace a7 := (hA.cell 7).trans (show _ = some (.slice A4 os.length c4) from rfl)
  replace hB := hB.below hq3 hB.lt
  replace b0 := (hB.cell 0).trans (show _ = some (.slice D0 rs.length d0) from rfl)
  replace b1 := (hB.cell 1).trans (show _ = some (.slice D1 qs.length d1) from rfl)
  replace b2 := (hB.cell 2).trans (show _ = some (.int .i64 tu) from rfl)
  replace b3 := (hB.cell 3).trans (show _ = some (.int .i64 se) from rfl)
  replace b4 := (hB.cell 4).trans (show _ = some (.int .i64 sp) from rfl)
  replace b5 := (hB.cell 5).trans (show _ = some (.slice D2 ws.length d2) from rfl)
  replace b6 := (hB.cell 6).trans (show _ = some (.slice D3 sh.length d3) from rfl)
  replace b7 := (hB.cell 7).trans (show _ = some (.slice D4 os.length d4) from rfl)
  have yhA := hA.lt
  have yhB := hB.lt
  go_wp2_with fail
  refine (eqFloor_is tu se sp A2 D2 ws c2 d2 A3 D3 c3 d3 sh h2 h3 _ (R2.below (by repeat (first | exact Below.refl _ _ | refine Below.alloc ?_ (by first | exact Nat.le_refl _ | (simp <;> omega)) _ | refine Below.setCell ?_ (by first | exact Nat.le_refl _ | (simp <;> omega)) _))) (R3.below (by repeat (first | exact Below.refl _ _ | refine Below.alloc ?_ (by first | exact Nat.le_refl _ | (simp <;> omega)) _ | refine Below.setCell ?_ (by first | exact Nat.le_refl _ | (simp <;> omega)) _))) (Q2.below (by repeat (first | exact Below.refl _ _ | refine Below.alloc ?_ (by first | exact Nat.le_refl _ | (simp <;> omega)) _ | refine Below.setCell ?_ (by first | exact Nat.le_refl _ | (simp <;> omega)) _))) (Q3.below (by repeat (first | exact Below.refl _ _ | refine Below.alloc ?_ (by first | exact Nat.le_refl _ | (simp <;> omega)) _ | refine Below.setCell ?_ (by first | exact Nat.le_refl _ | (simp <;> omega)) _)))).mono ?_
  rintro e w4 ⟨rfl, hb4⟩
  have hq4 : Below w3.heap.size w3 w4 := bth (by repeat (first | exact Below.refl _ _ | refine Below.alloc ?_ (by first | exact Nat.le_refl _ | (simp <;> omega)) _ | refine Below.setCell ?_ (by first | exact Nat.le_refl _ | (simp <;> omega)) _)) hb4
  replace HB := bth HB hq4
  replace R0 := R0.below hq4
  replace R1 := R1.below hq4
  replace R2 := R2.below hq4
  replace R3 := R3.below hq4
  replace R4 := R4.below hq4
  replace Q0 := Q0.below hq4
  replace Q1 := Q1.below hq4
  replace Q2 := Q2.below hq4
  replace Q3 := Q3.below hq4
  replace Q4 := Q4.below hq4
  replace hA := hA.below hq4 hA.lt
  replace a0 := (hA.cell 0).trans (show _ = some (.slice A0 rs.length c0) from rfl)
  replace a1 := (hA.cell 1).trans (show _ = some (.slice A1 qs.length c1) from rfl)
  replace a2 := (hA.cell 2).trans (show _ = some (.int .i64 tu) from rfl)
  replace a3 := (hA.cell 3).trans (show _ = some (.int .i64 se) from rfl)
  replace a4 := (hA.cell 4).trans (show _ = some (.int .i64 sp) from rfl)
  replace a5 := (hA.cell 5).trans (show _ = some (.slice A2 ws.length c2) from rfl)
  replace a6 := (hA.cell 6).trans (show _ = some (.slice A3 sh.length c3) from rfl)
  replace a7 := (hA.cell 7).trans (show _ = some (.slice A4 os.length c4) from rfl)
  replace hB := hB.below hq4 hB.lt
  replace b0 := (hB.cell 0).trans (show _ = some (.slice D0 rs.length d0) from rfl)
  replace b1 := (hB.cell 1).trans (show _ = some (.slice D1 qs.length d1) from rfl)
  replace b2 := (hB.cell 2).trans (show _ = some (.int .i64 tu) from rfl)
  replace b3 := (hB.cell 3).trans (show _ = some (.int .i64 se) from rfl)
  replace b4 := (hB.cell 4).trans (show _ = some (.int .i64 sp) from rfl)
  replace b5 := (hB.cell 5).trans (show _ = some (.slice D2 ws.length d2) from rfl)
  replace b6 := (hB.cell 6).trans (show _ = some (.slice D3 sh.length d3) from rfl)
  replace b7 := (hB.cell 7).trans (show _ = some (.slice D4 os.length d4) from rfl)
  have yhA := hA.lt
  have yhB := hB.lt
  go_wp2_with fail
  refine (eqOutcomeS_is A4 D4 c4 d4 os h4 _ (R4.below (by repeat (first | exact Below.refl _ _ | refine Below.alloc ?_ (by first | exact Nat.le_refl _ | (simp <;> omega)) _ | refine Below.setCell ?_ (by first | exact Nat.le_refl _ | (simp <;> omega)) _))) (Q4.below (by repeat (first | exact Below.refl _ _ | refine Below.alloc ?_ (by first | exact Nat.le_refl _ | (simp <;> omega)) _ | refine Below.setCell ?_ (by first | exact Nat.le_refl _ | (simp <;> omega)) _)))).mono ?_
  rintro e w5 ⟨rfl, hb5⟩
  have hq5 : Below w4.heap.size w4 w5 := bth (by repeat (first | exact Below.refl _ _ | refine Below.alloc ?_ (by first | exact Nat.le_refl _ | (simp <;> omega)) _ | refine Below.setCell ?_ (by first | exact Nat.le_refl _ | (simp <;> omega)) _)) hb5
  replace HB := bth HB hq5
  replace R0 := R0.below hq5
  replace R1 := R1.below hq5
  replace R2 := R2.below hq5
  replace R3 := R3.below hq5
  replace R4 := R4.below hq5
  replace Q0 := Q0.below hq5
  replace Q1 := Q1.below hq5
  replace Q2 := Q2.below hq5
  replace Q3 := Q3.below hq5
  replace Q4 := Q4.below hq5
  replace hA := hA.below hq5 hA.lt
  replace a0 := (hA.cell 0).trans (show _ = some (.slice A0 rs.length c0) from rfl)
  replace a1 := (hA.cell 1).trans (show _ = some (.slice A1 qs.length c1) from rfl)
  replace a2 := (hA.cell 2).trans (show _ = some (.int .i64 tu) from rfl)
  replace a3 := (hA.cell 3).trans (show _ = some (.int .i64 se) from rfl)
  replace a4 := (hA.cell 4).trans (show _ = some (.int .i64 sp) from rfl)
  replace a5 := (hA.cell 5).trans (show _ = some (.slice A2 ws.length c2) from rfl)
  replace a6 := (hA.cell 6).trans (show _ = some (.slice A3 sh.length c3) from rfl)
  replace a7 := (hA.cell 7).trans (show _ = some (.slice A4 os.length c4) from rfl)
  replace hB := hB.below hq5 hB.lt
  replace b0 := (hB.cell 0).trans (show _ = some (.slice D0 rs.length d0) from rfl)
  replace b1 := (hB.cell 1).trans (show _ = some (.slice D1 qs.length d1) from rfl)
  replace b2 := (hB.cell 2).trans (show _ = some (.int .i64 tu) from rfl)
  replace b3 := (hB.cell 3).trans (show _ = some (.int .i64 se) from rfl)
  replace b4 := (hB.cell 4).trans (show _ = some (.int .i64 sp) from rfl)
  replace b5 := (hB.cell 5).trans (show _ = some (.slice D2 ws.length d2) from rfl)
  replace b6 := (hB.cell 6).trans (show _ = some (.slice D3 sh.length d3) from rfl)
  replace b7 := (hB.cell 7).trans (show _ = some (.slice D4 os.length d4) from rfl)
  have yhA := hA.lt
  have yhB := hB.lt
  go_wp2
  go_ret
  exact ⟨rfl, (bth HB (by repeat (first | exact Below.refl _ _ | refine Below.alloc ?_ (by first | exact Nat.le_refl _ | (simp <;> omega)) _ | refine Below.setCell ?_ (by first | exact Nat.le_refl _ | (simp <;> omega)) _)))⟩
set_option maxHeartbeats 2000000 in
theorem szMee_is (rs : List Rul) (qs : List Que) (tu se sp : Int) (ws : List Int) (sh : List Sha) (os : List Out) (A0 A1 A2 A3 A4 : Option Addr) (c0 c1 c2 c3 c4 : Nat) (h0 : rs.length ≤ maxLen) (h1 : qs.length ≤ maxLen) (h2 : ws.length ≤ maxLen) (h3 : sh.length ≤ maxLen) (h4 : os.length ≤ maxLen) (l : Int) (l0 : 0 ≤ l) (l1 : l ≤ 1048576) (w : World) (R0 : Rds 7 Rul.cells w A0 rs) :
  Calls Tryz.prog 12 #[.agg #[.slice A0 rs.length c0, .slice A1 qs.length c1, .int .i64 tu, .int .i64 se, .int .i64 sp, .slice A2 ws.length c2, .slice A3 sh.length c3, .slice A4 os.length c4], .int .i64 l] w fun e w' => ∃ r : Int, e = .returned (.int .i64 r) ∧ -1 ≤ r ∧ r ≤ l ∧ (r < 0 ∨ rs.length ≤ 1048576 ∧ qs.length ≤ 1048576 ∧ ws.length ≤ 1048576 ∧ sh.length ≤ 1048576 ∧ os.length ≤ 1048576) ∧ Below w.heap.size w w' := by
  go_enter Tryz.func12, Tryz.ntmps12
  go_upto_region 1 with fail
  have hq1 : Below w.heap.size w (World.alloc w (.cells #[.slice A0 rs.length c0, .slice A1 qs.length c1, .int .i64 tu, .int .i64 se, .int .i64 sp, .slice A2 ws.length c2, .slice A3 sh.length c3, .slice A4 os.length c4] 30)) := bl1 w _
  have hA : Blk (World.alloc w (.cells #[.slice A0 rs.length c0, .slice A1 qs.length c1, .int .i64 tu, .int .i64 se, .int .i64 sp, .slice A2 ws.length c2, .slice A3 sh.length c3, .slice A4 os.length c4] 30)) (w.heap.size) 30 #[.slice A0 rs.length c0, .slice A1 qs.length c1, .int .i64 tu, .int .i64 se, .int .i64 sp, .slice A2 ws.length c2, .slice A3 sh.length c3, .slice A4 os.length c4] := by repeat (first | exact Blk.new _ _ _ | exact Blk.new2 _ _ _ _ | exact Blk.new3 _ _ _ _ _ | exact Blk.new4 _ _ _ _ _ _ | refine Blk.alloc ?_ _)
  replace R0 := R0.below hq1
  generalize World.alloc w (.cells #[.slice A0 rs.length c0, .slice A1 qs.length c1, .int .i64 tu, .int .i64 se, .int .i64 sp, .slice A2 ws.length c2, .slice A3 sh.length c3, .slice A4 os.length c4] 30) = wX at *
  have HB := hq1
  have a0 := (hA.cell 0).trans (show _ = some (.slice A0 rs.length c0) from rfl)
  have a1 := (hA.cell 1).trans (show _ = some (.slice A1 qs.length c1) from rfl)
  have a2 := (hA.cell 2).trans (show _ = some (.int .i64 tu) from rfl)
  have a3 := (hA.cell 3).trans (show _ = some (.int .i64 se) from rfl)
  have a4 := (hA.cell 4).trans (show _ = some (.int .i64 sp) from rfl)
  have a5 := (hA.cell 5).trans (show _ = some (.slice A2 ws.length c2) from rfl)
  have a6 := (hA.cell 6).trans (show _ = some (.slice A3 sh.length c3) from rfl)
  have a7 := (hA.cell 7).trans (show _ = some (.slice A4 os.length c4) from rfl)
  have yhA := hA.lt
  go_wp2_with fail
  refine (szRuleS_is A0 c0 rs h0 l l0 l1 _ (R0.below (by repeat (first | exact Below.refl _ _ | refine Below.alloc ?_ (by first | exact Nat.le_refl _ | (simp <;> omega)) _ | refine Below.setCell ?_ (by first | exact Nat.le_refl _ | (simp <;> omega)) _)))).mono ?_
  rintro e w2 ⟨r1, rfl, x0, y0, z0, hb2⟩
  have hq2 : Below wX.heap.size wX w2 := bth (by repeat (first | exact Below.refl _ _ | refine Below.alloc ?_ (by first | exact Nat.le_refl _ | (simp <;> omega)) _ | refine Below.setCell ?_ (by first | exact Nat.le_refl _ | (simp <;> omega)) _)) hb2
  replace HB := bth HB hq2
  replace R0 := R0.below hq2
  replace hA := hA.below hq2 hA.lt
  replace a0 := (hA.cell 0).trans (show _ = some (.slice A0 rs.length c0) from rfl)
  replace a1 := (hA.cell 1).trans (show _ = some (.slice A1 qs.length c1) from rfl)
  replace a2 := (hA.cell 2).trans (show _ = some (.int .i64 tu) from rfl)
  replace a3 := (hA.cell 3).trans (show _ = some (.int .i64 se) from rfl)
  replace a4 := (hA.cell 4).trans (show _ = some (.int .i64 sp) from rfl)
  replace a5 := (hA.cell 5).trans (show _ = some (.slice A2 ws.length c2) from rfl)
  replace a6 := (hA.cell 6).trans (show _ = some (.slice A3 sh.length c3) from rfl)
  replace a7 := (hA.cell 7).trans (show _ = some (.slice A4 os.length c4) from rfl)
  have yhA := hA.lt
  by_cases n0 : r1 < 0
  · go_wp2
    go_ret
    exact ⟨_, rfl, by omega, by omega, .inl (by omega), (bth HB (by repeat (first | exact Below.refl _ _ | refine Below.alloc ?_ (by first | exact Nat.le_refl _ | (simp <;> omega)) _ | refine Below.setCell ?_ (by first | exact Nat.le_refl _ | (simp <;> omega)) _)))⟩
  go_wp2_with fail
  refine (szQuestionS_is A1 c1 qs h1 r1 (by omega) (by omega) _).mono ?_
  rintro e w3 ⟨r2, rfl, x1, y1, z1, hb3⟩
  have hq3 : Below w2.heap.size w2 w3 := bth (by repeat (first | exact Below.refl _ _ | refine Below.alloc ?_ (by first | exact Nat.le_refl _ | (simp <;> omega)) _ | refine Below.setCell ?_ (by first | exact Nat.le_refl _ | (simp <;> omega)) _)) hb3
  replace HB := bth HB hq3
  replace R0 := R0.below hq3
  replace hA := hA.below hq3 hA.lt
  replace a0 := (hA.cell 0).trans (show _ = some (.slice A0 rs.length c0) from rfl)
  replace a1 := (hA.cell 1).trans (show _ = some (.slice A1 qs.length c1) from rfl)
  replace a2 := (hA.cell 2).trans (show _ = some (.int .i64 tu) from rfl)
  replace a3 := (hA.cell 3).trans (show _ = some (.int .i64 se) from rfl)
  replace a4 := (hA.cell 4).trans (show _ = some (.int .i64 sp) from rfl)
  replace a5 := (hA.cell 5).trans (show _ = some (.slice A2 ws.length c2) from rfl)
  replace a6 := (hA.cell 6).trans (show _ = some (.slice A3 sh.length c3) from rfl)
  replace a7 := (hA.cell 7).trans (show _ = some (.slice A4 os.length c4) from rfl)
  have yhA := hA.lt
  by_cases n1 : r2 < 0
  · go_wp2
    go_ret
    exact ⟨_, rfl, by omega, by omega, .inl (by omega), (bth HB (by repeat (first | exact Below.refl _ _ | refine Below.alloc ?_ (by first | exact Nat.le_refl _ | (simp <;> omega)) _ | refine Below.setCell ?_ (by first | exact Nat.le_refl _ | (simp <;> omega)) _)))⟩
  go_wp2_with fail
  refine (szFloor_is tu se sp A2 ws c2 A3 c3 sh h2 h3 r2 (by omega) (by omega) _).mono ?_
  rintro e w4 ⟨r3, rfl, x2, y2, z2, hb4⟩
  have hq4 : Below w3.heap.size w3 w4 := bth (by repeat (first | exact Below.refl _ _ | refine Below.alloc ?_ (by first | exact Nat.le_refl _ | (simp <;> omega)) _ | refine Below.setCell ?_ (by first | exact Nat.le_refl _ | (simp <;> omega)) _)) hb4
  replace HB := bth HB hq4
  replace R0 := R0.below hq4
  replace hA := hA.below hq4 hA.lt
  replace a0 := (hA.cell 0).trans (show _ = some (.slice A0 rs.length c0) from rfl)
  replace a1 := (hA.cell 1).trans (show _ = some (.slice A1 qs.length c1) from rfl)
  replace a2 := (hA.cell 2).trans (show _ = some (.int .i64 tu) from rfl)
  replace a3 := (hA.cell 3).trans (show _ = some (.int .i64 se) from rfl)
  replace a4 := (hA.cell 4).trans (show _ = some (.int .i64 sp) from rfl)
  replace a5 := (hA.cell 5).trans (show _ = some (.slice A2 ws.length c2) from rfl)
  replace a6 := (hA.cell 6).trans (show _ = some (.slice A3 sh.length c3) from rfl)
  replace a7 := (hA.cell 7).trans (show _ = some (.slice A4 os.length c4) from rfl)
  have yhA := hA.lt
  by_cases n2 : r3 < 0
  · go_wp2
    go_ret
    exact ⟨_, rfl, by omega, by omega, .inl (by omega), (bth HB (by repeat (first | exact Below.refl _ _ | refine Below.alloc ?_ (by first | exact Nat.le_refl _ | (simp <;> omega)) _ | refine Below.setCell ?_ (by first | exact Nat.le_refl _ | (simp <;> omega)) _)))⟩
  go_wp2_with fail
  refine (szOutcomeS_is A4 c4 os h4 r3 (by omega) (by omega) _).mono ?_
  rintro e w5 ⟨r4, rfl, x3, y3, z3, hb5⟩
  have hq5 : Below w4.heap.size w4 w5 := bth (by repeat (first | exact Below.refl _ _ | refine Below.alloc ?_ (by first | exact Nat.le_refl _ | (simp <;> omega)) _ | refine Below.setCell ?_ (by first | exact Nat.le_refl _ | (simp <;> omega)) _)) hb5
  replace HB := bth HB hq5
  replace R0 := R0.below hq5
  replace hA := hA.below hq5 hA.lt
  replace a0 := (hA.cell 0).trans (show _ = some (.slice A0 rs.length c0) from rfl)
  replace a1 := (hA.cell 1).trans (show _ = some (.slice A1 qs.length c1) from rfl)
  replace a2 := (hA.cell 2).trans (show _ = some (.int .i64 tu) from rfl)
  replace a3 := (hA.cell 3).trans (show _ = some (.int .i64 se) from rfl)
  replace a4 := (hA.cell 4).trans (show _ = some (.int .i64 sp) from rfl)
  replace a5 := (hA.cell 5).trans (show _ = some (.slice A2 ws.length c2) from rfl)
  replace a6 := (hA.cell 6).trans (show _ = some (.slice A3 sh.length c3) from rfl)
  replace a7 := (hA.cell 7).trans (show _ = some (.slice A4 os.length c4) from rfl)
  have yhA := hA.lt
  by_cases n3 : r4 < 0
  · go_wp2
    go_ret
    exact ⟨_, rfl, by omega, by omega, .inl (by omega), (bth HB (by repeat (first | exact Below.refl _ _ | refine Below.alloc ?_ (by first | exact Nat.le_refl _ | (simp <;> omega)) _ | refine Below.setCell ?_ (by first | exact Nat.le_refl _ | (simp <;> omega)) _)))⟩
  go_wp2
  go_ret
  exact ⟨_, rfl, by omega, by omega, .inr ⟨by omega, by omega, by omega, by omega, by omega⟩, (bth HB (by repeat (first | exact Below.refl _ _ | refine Below.alloc ?_ (by first | exact Nat.le_refl _ | (simp <;> omega)) _ | refine Below.setCell ?_ (by first | exact Nat.le_refl _ | (simp <;> omega)) _)))⟩
set_option maxHeartbeats 4000000 in
set_option maxRecDepth 100000 in
theorem toFloor_is (tu se sp : Int) (W : Option Addr) (ws : List Int) (wc : Nat) (S : Option Addr) (sc : Nat) (sh : List Sha) (hw : ws.length ≤ 1048576) (hn : sh.length ≤ 1048576) (w : World) (R2 : Rds 1 intC w W ws) (R3 : Rds 3 Sha.cells w S sh) :
  Calls Tryz.prog 35 #[.agg #[.int .i64 tu, .int .i64 se, .int .i64 sp, .slice W ws.length wc, .slice S sh.length sc]] w fun e w' => ∃ X2 X3, e = .returned (.agg #[.int .i64 tu, .int .i64 se, .int .i64 sp, .slice X2 ws.length ws.length, .slice X3 sh.length sh.length]) ∧ OwnV w.heap.size 3 1 intC w' (.slice X2 ws.length ws.length) ws ∧ OwnV w.heap.size 109 3 Sha.cells w' (.slice X3 sh.length sh.length) sh ∧ (∀ k, (Value.slice X2 ws.length ws.length).ownBlock = some k → some k ≠ (Value.slice X3 sh.length sh.length).ownBlock) ∧ Below w.heap.size w w' := by
  have S2 := Lib.hid R2; have S3 := Lib.hid R3; clear R2 R3
  go_enter Tryz.func35, Tryz.ntmps35
  go_upto_region 2 with fail
  have hq1 : Below w.heap.size w (World.alloc (World.alloc (World.alloc w (.cells #[.int .i64 tu, .int .i64 se, .int .i64 sp, .slice W ws.length wc, .slice S sh.length sc] 27)) (.cells #[.int .i64 0, .int .i64 0, .int .i64 0, .slice none 0 0, .slice none 0 0] 41)) (.cells #[.int .i64 0, .int .i64 0, .int .i64 0, .slice none 0 0, .slice none 0 0] 41)) := bl3 w _ _ _
  have hA : Blk (World.alloc (World.alloc (World.alloc w (.cells #[.int .i64 tu, .int .i64 se, .int .i64 sp, .slice W ws.length wc, .slice S sh.length sc] 27)) (.cells #[.int .i64 0, .int .i64 0, .int .i64 0, .slice none 0 0, .slice none 0 0] 41)) (.cells #[.int .i64 0, .int .i64 0, .int .i64 0, .slice none 0 0, .slice none 0 0] 41)) (w.heap.size) 27 #[.int .i64 tu, .int .i64 se, .int .i64 sp, .slice W ws.length wc, .slice S sh.length sc] := by repeat (first | exact Blk.new _ _ _ | exact Blk.new2 _ _ _ _ | exact Blk.new3 _ _ _ _ _ | exact Blk.new4 _ _ _ _ _ _ | refine Blk.alloc ?_ _)
  have hZ : Blk (World.alloc (World.alloc (World.alloc w (.cells #[.int .i64 tu, .int .i64 se, .int .i64 sp, .slice W ws.length wc, .slice S sh.length sc] 27)) (.cells #[.int .i64 0, .int .i64 0, .int .i64 0, .slice none 0 0, .slice none 0 0] 41)) (.cells #[.int .i64 0, .int .i64 0, .int .i64 0, .slice none 0 0, .slice none 0 0] 41)) (w.heap.size + 1) 41 #[.int .i64 0, .int .i64 0, .int .i64 0, .slice none 0 0, .slice none 0 0] := by repeat (first | exact Blk.new _ _ _ | exact Blk.new2 _ _ _ _ | exact Blk.new3 _ _ _ _ _ | exact Blk.new4 _ _ _ _ _ _ | refine Blk.alloc ?_ _)
  have hG : Blk (World.alloc (World.alloc (World.alloc w (.cells #[.int .i64 tu, .int .i64 se, .int .i64 sp, .slice W ws.length wc, .slice S sh.length sc] 27)) (.cells #[.int .i64 0, .int .i64 0, .int .i64 0, .slice none 0 0, .slice none 0 0] 41)) (.cells #[.int .i64 0, .int .i64 0, .int .i64 0, .slice none 0 0, .slice none 0 0] 41)) (w.heap.size + 1 + 1) 41 #[.int .i64 0, .int .i64 0, .int .i64 0, .slice none 0 0, .slice none 0 0] := by repeat (first | exact Blk.new _ _ _ | exact Blk.new2 _ _ _ _ | exact Blk.new3 _ _ _ _ _ | exact Blk.new4 _ _ _ _ _ _ | refine Blk.alloc ?_ _)
  generalize World.alloc (World.alloc (World.alloc w (.cells #[.int .i64 tu, .int .i64 se, .int .i64 sp, .slice W ws.length wc, .slice S sh.length sc] 27)) (.cells #[.int .i64 0, .int .i64 0, .int .i64 0, .slice none 0 0, .slice none 0 0] 41)) (.cells #[.int .i64 0, .int .i64 0, .int .i64 0, .slice none 0 0, .slice none 0 0] 41) = wX at *
  have HB := hq1
  have a0 := (hA.cell 0).trans (show _ = some (.int .i64 tu) from rfl)
  have a1 := (hA.cell 1).trans (show _ = some (.int .i64 se) from rfl)
  have a2 := (hA.cell 2).trans (show _ = some (.int .i64 sp) from rfl)
  have a3 := (hA.cell 3).trans (show _ = some (.slice W ws.length wc) from rfl)
  have a4 := (hA.cell 4).trans (show _ = some (.slice S sh.length sc) from rfl)
  have z0 := (hZ.cell 0).trans (show _ = some (.int .i64 0) from rfl)
  have z1 := (hZ.cell 1).trans (show _ = some (.int .i64 0) from rfl)
  have z2 := (hZ.cell 2).trans (show _ = some (.int .i64 0) from rfl)
  have z3 := (hZ.cell 3).trans (show _ = some (.slice none 0 0) from rfl)
  have z4 := (hZ.cell 4).trans (show _ = some (.slice none 0 0) from rfl)
  have g0 := (hG.cell 0).trans (show _ = some (.int .i64 0) from rfl)
  have g1 := (hG.cell 1).trans (show _ = some (.int .i64 0) from rfl)
  have g2 := (hG.cell 2).trans (show _ = some (.int .i64 0) from rfl)
  have g3 := (hG.cell 3).trans (show _ = some (.slice none 0 0) from rfl)
  have g4 := (hG.cell 4).trans (show _ = some (.slice none 0 0) from rfl)
  have fhG0 := hG.frozen 0
  have yhA := hA.lt
  have yhZ := hZ.lt
  have yhG := hG.lt
  go_upto_region 3 with fail
  clear fhG0 yhA yhZ yhG
  clear a0 a1 a2 a3 a4 z0 z1 z2 z3 z4 g0 g1 g2 g3 g4
  replace HB : Below w.heap.size w (World.setCell wX ⟨w.heap.size + 1 + 1, 0, none⟩ (.int .i64 tu)) := (HB.setCell (by show w.heap.size ≤ w.heap.size + 1 + 1; omega) (.int .i64 tu) (p := ⟨w.heap.size + 1 + 1, 0, none⟩))
  replace hA := (hA.far' (p := ⟨w.heap.size + 1 + 1, 0, none⟩) (by show _ ≠ w.heap.size + 1 + 1; omega) (.int .i64 tu))
  replace hZ := (hZ.far' (p := ⟨w.heap.size + 1 + 1, 0, none⟩) (by show _ ≠ w.heap.size + 1 + 1; omega) (.int .i64 tu))
  replace hG : Blk (World.setCell wX ⟨w.heap.size + 1 + 1, 0, none⟩ (.int .i64 tu)) (w.heap.size + 1 + 1) 41 #[.int .i64 tu, .int .i64 0, .int .i64 0, .slice none 0 0, .slice none 0 0] := (hG.set_ 0 (.int .i64 tu))
  have szW1 : ((World.setCell wX ⟨w.heap.size + 1 + 1, 0, none⟩ (.int .i64 tu))).heap.size = wX.heap.size := by simp [World.setCell]
  generalize World.setCell wX ⟨w.heap.size + 1 + 1, 0, none⟩ (.int .i64 tu) = W1 at *
  have a0 := (hA.cell 0).trans (show _ = some (.int .i64 tu) from rfl)
  have a1 := (hA.cell 1).trans (show _ = some (.int .i64 se) from rfl)
  have a2 := (hA.cell 2).trans (show _ = some (.int .i64 sp) from rfl)
  have a3 := (hA.cell 3).trans (show _ = some (.slice W ws.length wc) from rfl)
  have a4 := (hA.cell 4).trans (show _ = some (.slice S sh.length sc) from rfl)
  have z0 := (hZ.cell 0).trans (show _ = some (.int .i64 0) from rfl)
  have z1 := (hZ.cell 1).trans (show _ = some (.int .i64 0) from rfl)
  have z2 := (hZ.cell 2).trans (show _ = some (.int .i64 0) from rfl)
  have z3 := (hZ.cell 3).trans (show _ = some (.slice none 0 0) from rfl)
  have z4 := (hZ.cell 4).trans (show _ = some (.slice none 0 0) from rfl)
  have g0 := (hG.cell 0).trans (show _ = some (.int .i64 tu) from rfl)
  have g1 := (hG.cell 1).trans (show _ = some (.int .i64 0) from rfl)
  have g2 := (hG.cell 2).trans (show _ = some (.int .i64 0) from rfl)
  have g3 := (hG.cell 3).trans (show _ = some (.slice none 0 0) from rfl)
  have g4 := (hG.cell 4).trans (show _ = some (.slice none 0 0) from rfl)
  have fhG1 := hG.frozen 1
  have yhA := hA.lt
  have yhZ := hZ.lt
  have yhG := hG.lt
  go_upto_region 4 with fail
  clear fhG1 yhA yhZ yhG
  clear a0 a1 a2 a3 a4 z0 z1 z2 z3 z4 g0 g1 g2 g3 g4
  replace HB : Below w.heap.size w (World.setCell W1 ⟨w.heap.size + 1 + 1, 1, none⟩ (.int .i64 se)) := (HB.setCell (by show w.heap.size ≤ w.heap.size + 1 + 1; omega) (.int .i64 se) (p := ⟨w.heap.size + 1 + 1, 1, none⟩))
  replace hA := (hA.far' (p := ⟨w.heap.size + 1 + 1, 1, none⟩) (by show _ ≠ w.heap.size + 1 + 1; omega) (.int .i64 se))
  replace hZ := (hZ.far' (p := ⟨w.heap.size + 1 + 1, 1, none⟩) (by show _ ≠ w.heap.size + 1 + 1; omega) (.int .i64 se))
  replace hG : Blk (World.setCell W1 ⟨w.heap.size + 1 + 1, 1, none⟩ (.int .i64 se)) (w.heap.size + 1 + 1) 41 #[.int .i64 tu, .int .i64 se, .int .i64 0, .slice none 0 0, .slice none 0 0] := (hG.set_ 1 (.int .i64 se))
  have szW2 : ((World.setCell W1 ⟨w.heap.size + 1 + 1, 1, none⟩ (.int .i64 se))).heap.size = W1.heap.size := by simp [World.setCell]
  generalize World.setCell W1 ⟨w.heap.size + 1 + 1, 1, none⟩ (.int .i64 se) = W2 at *
  have a0 := (hA.cell 0).trans (show _ = some (.int .i64 tu) from rfl)
  have a1 := (hA.cell 1).trans (show _ = some (.int .i64 se) from rfl)
  have a2 := (hA.cell 2).trans (show _ = some (.int .i64 sp) from rfl)
  have a3 := (hA.cell 3).trans (show _ = some (.slice W ws.length wc) from rfl)
  have a4 := (hA.cell 4).trans (show _ = some (.slice S sh.length sc) from rfl)
  have z0 := (hZ.cell 0).trans (show _ = some (.int .i64 0) from rfl)
  have z1 := (hZ.cell 1).trans (show _ = some (.int .i64 0) from rfl)
  have z2 := (hZ.cell 2).trans (show _ = some (.int .i64 0) from rfl)
  have z3 := (hZ.cell 3).trans (show _ = some (.slice none 0 0) from rfl)
  have z4 := (hZ.cell 4).trans (show _ = some (.slice none 0 0) from rfl)
  have g0 := (hG.cell 0).trans (show _ = some (.int .i64 tu) from rfl)
  have g1 := (hG.cell 1).trans (show _ = some (.int .i64 se) from rfl)
  have g2 := (hG.cell 2).trans (show _ = some (.int .i64 0) from rfl)
  have g3 := (hG.cell 3).trans (show _ = some (.slice none 0 0) from rfl)
  have g4 := (hG.cell 4).trans (show _ = some (.slice none 0 0) from rfl)
  have fhG2 := hG.frozen 2
  have yhA := hA.lt
  have yhZ := hZ.lt
  have yhG := hG.lt
  go_upto_region 5 with fail
  clear fhG2 yhA yhZ yhG
  clear a0 a1 a2 a3 a4 z0 z1 z2 z3 z4 g0 g1 g2 g3 g4
  replace HB : Below w.heap.size w (World.setCell W2 ⟨w.heap.size + 1 + 1, 2, none⟩ (.int .i64 sp)) := (HB.setCell (by show w.heap.size ≤ w.heap.size + 1 + 1; omega) (.int .i64 sp) (p := ⟨w.heap.size + 1 + 1, 2, none⟩))
  replace hA := (hA.far' (p := ⟨w.heap.size + 1 + 1, 2, none⟩) (by show _ ≠ w.heap.size + 1 + 1; omega) (.int .i64 sp))
  replace hZ := (hZ.far' (p := ⟨w.heap.size + 1 + 1, 2, none⟩) (by show _ ≠ w.heap.size + 1 + 1; omega) (.int .i64 sp))
  replace hG : Blk (World.setCell W2 ⟨w.heap.size + 1 + 1, 2, none⟩ (.int .i64 sp)) (w.heap.size + 1 + 1) 41 #[.int .i64 tu, .int .i64 se, .int .i64 sp, .slice none 0 0, .slice none 0 0] := (hG.set_ 2 (.int .i64 sp))
  have szW3 : ((World.setCell W2 ⟨w.heap.size + 1 + 1, 2, none⟩ (.int .i64 sp))).heap.size = W2.heap.size := by simp [World.setCell]
  generalize World.setCell W2 ⟨w.heap.size + 1 + 1, 2, none⟩ (.int .i64 sp) = W3 at *
  have a0 := (hA.cell 0).trans (show _ = some (.int .i64 tu) from rfl)
  have a1 := (hA.cell 1).trans (show _ = some (.int .i64 se) from rfl)
  have a2 := (hA.cell 2).trans (show _ = some (.int .i64 sp) from rfl)
  have a3 := (hA.cell 3).trans (show _ = some (.slice W ws.length wc) from rfl)
  have a4 := (hA.cell 4).trans (show _ = some (.slice S sh.length sc) from rfl)
  have z0 := (hZ.cell 0).trans (show _ = some (.int .i64 0) from rfl)
  have z1 := (hZ.cell 1).trans (show _ = some (.int .i64 0) from rfl)
  have z2 := (hZ.cell 2).trans (show _ = some (.int .i64 0) from rfl)
  have z3 := (hZ.cell 3).trans (show _ = some (.slice none 0 0) from rfl)
  have z4 := (hZ.cell 4).trans (show _ = some (.slice none 0 0) from rfl)
  have g0 := (hG.cell 0).trans (show _ = some (.int .i64 tu) from rfl)
  have g1 := (hG.cell 1).trans (show _ = some (.int .i64 se) from rfl)
  have g2 := (hG.cell 2).trans (show _ = some (.int .i64 sp) from rfl)
  have g3 := (hG.cell 3).trans (show _ = some (.slice none 0 0) from rfl)
  have g4 := (hG.cell 4).trans (show _ = some (.slice none 0 0) from rfl)
  have q1 := hG.lt
  go_wp2_with fail
  refine (toIntS_is W wc ws hw _ (S2.out.below HB)).mono ?_
  rintro e w2 ⟨X2, rfl, O2, hb2⟩
  have hq2 : Below W3.heap.size W3 w2 := bth (by repeat (first | exact Below.refl _ _ | refine Below.alloc ?_ (by first | exact Nat.le_refl _ | (simp <;> omega)) _ | refine Below.setCell ?_ (by first | exact Nat.le_refl _ | (simp <;> omega)) _)) hb2
  replace HB := bth HB hq2
  replace hA := hA.below hq2 hA.lt
  replace a0 := (hA.cell 0).trans (show _ = some (.int .i64 tu) from rfl)
  replace a1 := (hA.cell 1).trans (show _ = some (.int .i64 se) from rfl)
  replace a2 := (hA.cell 2).trans (show _ = some (.int .i64 sp) from rfl)
  replace a3 := (hA.cell 3).trans (show _ = some (.slice W ws.length wc) from rfl)
  replace a4 := (hA.cell 4).trans (show _ = some (.slice S sh.length sc) from rfl)
  replace hZ := hZ.below hq2 hZ.lt
  replace z0 := (hZ.cell 0).trans (show _ = some (.int .i64 0) from rfl)
  replace z1 := (hZ.cell 1).trans (show _ = some (.int .i64 0) from rfl)
  replace z2 := (hZ.cell 2).trans (show _ = some (.int .i64 0) from rfl)
  replace z3 := (hZ.cell 3).trans (show _ = some (.slice none 0 0) from rfl)
  replace z4 := (hZ.cell 4).trans (show _ = some (.slice none 0 0) from rfl)
  replace hG := hG.below hq2 hG.lt
  replace g0 := (hG.cell 0).trans (show _ = some (.int .i64 tu) from rfl)
  replace g1 := (hG.cell 1).trans (show _ = some (.int .i64 se) from rfl)
  replace g2 := (hG.cell 2).trans (show _ = some (.int .i64 sp) from rfl)
  replace g3 := (hG.cell 3).trans (show _ = some (.slice none 0 0) from rfl)
  replace g4 := (hG.cell 4).trans (show _ = some (.slice none 0 0) from rfl)
  have m2 := O2.lt
  have zz2 := hq2.size
  have fhG3 := hG.frozen 3
  have yhA := hA.lt
  have yhZ := hZ.lt
  have yhG := hG.lt
  go_upto_region 6 with fail
  clear fhG3 yhA yhZ yhG
  clear a0 a1 a2 a3 a4 z0 z1 z2 z3 z4 g0 g1 g2 g3 g4
  replace HB : Below w.heap.size w (World.setCell w2 ⟨w.heap.size + 1 + 1, 3, none⟩ (.slice X2 ws.length ws.length)) := (HB.setCell (by show w.heap.size ≤ w.heap.size + 1 + 1; omega) (.slice X2 ws.length ws.length) (p := ⟨w.heap.size + 1 + 1, 3, none⟩))
  replace hA := (hA.far' (p := ⟨w.heap.size + 1 + 1, 3, none⟩) (by show _ ≠ w.heap.size + 1 + 1; omega) (.slice X2 ws.length ws.length))
  replace hZ := (hZ.far' (p := ⟨w.heap.size + 1 + 1, 3, none⟩) (by show _ ≠ w.heap.size + 1 + 1; omega) (.slice X2 ws.length ws.length))
  replace hG : Blk (World.setCell w2 ⟨w.heap.size + 1 + 1, 3, none⟩ (.slice X2 ws.length ws.length)) (w.heap.size + 1 + 1) 41 #[.int .i64 tu, .int .i64 se, .int .i64 sp, .slice X2 ws.length ws.length, .slice none 0 0] := (hG.set_ 3 (.slice X2 ws.length ws.length))
  have gRW4 : World.grownBy w2 (World.setCell w2 ⟨w.heap.size + 1 + 1, 3, none⟩ (.slice X2 ws.length ws.length)) (some (w.heap.size + 1 + 1)) := (grown_set (j := 3) (grown_refl w2 (some (w.heap.size + 1 + 1))) (.slice X2 ws.length ws.length))
  have szW4 : ((World.setCell w2 ⟨w.heap.size + 1 + 1, 3, none⟩ (.slice X2 ws.length ws.length))).heap.size = w2.heap.size := by simp [World.setCell]
  generalize World.setCell w2 ⟨w.heap.size + 1 + 1, 3, none⟩ (.slice X2 ws.length ws.length) = W4 at *
  replace O2 := O2.kept gRW4 (fun k hk e => by have h1 := (O2.lt k hk); have h2 : k = w.heap.size + 1 + 1 := (Option.some.inj e); first | (clear gRW4; omega) | exact absurd h2 (neO2 k hk))
  have a0 := (hA.cell 0).trans (show _ = some (.int .i64 tu) from rfl)
  have a1 := (hA.cell 1).trans (show _ = some (.int .i64 se) from rfl)
  have a2 := (hA.cell 2).trans (show _ = some (.int .i64 sp) from rfl)
  have a3 := (hA.cell 3).trans (show _ = some (.slice W ws.length wc) from rfl)
  have a4 := (hA.cell 4).trans (show _ = some (.slice S sh.length sc) from rfl)
  have z0 := (hZ.cell 0).trans (show _ = some (.int .i64 0) from rfl)
  have z1 := (hZ.cell 1).trans (show _ = some (.int .i64 0) from rfl)
  have z2 := (hZ.cell 2).trans (show _ = some (.int .i64 0) from rfl)
  have z3 := (hZ.cell 3).trans (show _ = some (.slice none 0 0) from rfl)
  have z4 := (hZ.cell 4).trans (show _ = some (.slice none 0 0) from rfl)
  have g0 := (hG.cell 0).trans (show _ = some (.int .i64 tu) from rfl)
  have g1 := (hG.cell 1).trans (show _ = some (.int .i64 se) from rfl)
  have g2 := (hG.cell 2).trans (show _ = some (.int .i64 sp) from rfl)
  have g3 := (hG.cell 3).trans (show _ = some (.slice X2 ws.length ws.length) from rfl)
  have g4 := (hG.cell 4).trans (show _ = some (.slice none 0 0) from rfl)
  have q2 := hG.lt
  go_wp2_with fail
  refine (toShareS_is S sc sh hn _ (S3.out.below HB)).mono ?_
  rintro e w3 ⟨X3, rfl, O3, hb3⟩
  have hq3 : Below W4.heap.size W4 w3 := bth (by repeat (first | exact Below.refl _ _ | refine Below.alloc ?_ (by first | exact Nat.le_refl _ | (simp <;> omega)) _ | refine Below.setCell ?_ (by first | exact Nat.le_refl _ | (simp <;> omega)) _)) hb3
  replace HB := bth HB hq3
  replace O2 := O2.later hq3
  replace hA := hA.below hq3 hA.lt
  replace a0 := (hA.cell 0).trans (show _ = some (.int .i64 tu) from rfl)
  replace a1 := (hA.cell 1).trans (show _ = some (.int .i64 se) from rfl)
  replace a2 := (hA.cell 2).trans (show _ = some (.int .i64 sp) from rfl)
  replace a3 := (hA.cell 3).trans (show _ = some (.slice W ws.length wc) from rfl)
  replace a4 := (hA.cell 4).trans (show _ = some (.slice S sh.length sc) from rfl)
  replace hZ := hZ.below hq3 hZ.lt
  replace z0 := (hZ.cell 0).trans (show _ = some (.int .i64 0) from rfl)
  replace z1 := (hZ.cell 1).trans (show _ = some (.int .i64 0) from rfl)
  replace z2 := (hZ.cell 2).trans (show _ = some (.int .i64 0) from rfl)
  replace z3 := (hZ.cell 3).trans (show _ = some (.slice none 0 0) from rfl)
  replace z4 := (hZ.cell 4).trans (show _ = some (.slice none 0 0) from rfl)
  replace hG := hG.below hq3 hG.lt
  replace g0 := (hG.cell 0).trans (show _ = some (.int .i64 tu) from rfl)
  replace g1 := (hG.cell 1).trans (show _ = some (.int .i64 se) from rfl)
  replace g2 := (hG.cell 2).trans (show _ = some (.int .i64 sp) from rfl)
  replace g3 := (hG.cell 3).trans (show _ = some (.slice X2 ws.length ws.length) from rfl)
  replace g4 := (hG.cell 4).trans (show _ = some (.slice none 0 0) from rfl)
  have ap : ∀ k, (Value.slice X2 ws.length ws.length).ownBlock = some k → some k ≠ (Value.slice X3 sh.length sh.length).ownBlock := fun k hk hk' => by
    have e1 := (m2 k hk).2
    have e2 := (O3.lt k hk'.symm).1
    omega
  have fhG4 := hG.frozen 4
  have yhA := hA.lt
  have yhZ := hZ.lt
  have yhG := hG.lt
  go_upto_region 7 with fail
  clear fhG4 yhA yhZ yhG
  clear a0 a1 a2 a3 a4 z0 z1 z2 z3 z4 g0 g1 g2 g3 g4
  replace HB : Below w.heap.size w (World.setCell w3 ⟨w.heap.size + 1 + 1, 4, none⟩ (.slice X3 sh.length sh.length)) := (HB.setCell (by show w.heap.size ≤ w.heap.size + 1 + 1; omega) (.slice X3 sh.length sh.length) (p := ⟨w.heap.size + 1 + 1, 4, none⟩))
  replace hA := (hA.far' (p := ⟨w.heap.size + 1 + 1, 4, none⟩) (by show _ ≠ w.heap.size + 1 + 1; omega) (.slice X3 sh.length sh.length))
  replace hZ := (hZ.far' (p := ⟨w.heap.size + 1 + 1, 4, none⟩) (by show _ ≠ w.heap.size + 1 + 1; omega) (.slice X3 sh.length sh.length))
  replace hG : Blk (World.setCell w3 ⟨w.heap.size + 1 + 1, 4, none⟩ (.slice X3 sh.length sh.length)) (w.heap.size + 1 + 1) 41 #[.int .i64 tu, .int .i64 se, .int .i64 sp, .slice X2 ws.length ws.length, .slice X3 sh.length sh.length] := (hG.set_ 4 (.slice X3 sh.length sh.length))
  have gRW5 : World.grownBy w3 (World.setCell w3 ⟨w.heap.size + 1 + 1, 4, none⟩ (.slice X3 sh.length sh.length)) (some (w.heap.size + 1 + 1)) := (grown_set (j := 4) (grown_refl w3 (some (w.heap.size + 1 + 1))) (.slice X3 sh.length sh.length))
  have szW5 : ((World.setCell w3 ⟨w.heap.size + 1 + 1, 4, none⟩ (.slice X3 sh.length sh.length))).heap.size = w3.heap.size := by simp [World.setCell]
  generalize World.setCell w3 ⟨w.heap.size + 1 + 1, 4, none⟩ (.slice X3 sh.length sh.length) = W5 at *
  replace O2 := O2.kept gRW5 (fun k hk e => by have h1 := (O2.lt k hk); have h2 : k = w.heap.size + 1 + 1 := (Option.some.inj e); first | (clear gRW5; omega) | exact absurd h2 (neO2 k hk))
  replace O3 := O3.kept gRW5 (fun k hk e => by have h1 := (O3.lt k hk); have h2 : k = w.heap.size + 1 + 1 := (Option.some.inj e); first | (clear gRW5; omega) | exact absurd h2 (neO3 k hk))
  have a0 := (hA.cell 0).trans (show _ = some (.int .i64 tu) from rfl)
  have a1 := (hA.cell 1).trans (show _ = some (.int .i64 se) from rfl)
  have a2 := (hA.cell 2).trans (show _ = some (.int .i64 sp) from rfl)
  have a3 := (hA.cell 3).trans (show _ = some (.slice W ws.length wc) from rfl)
  have a4 := (hA.cell 4).trans (show _ = some (.slice S sh.length sc) from rfl)
  have z0 := (hZ.cell 0).trans (show _ = some (.int .i64 0) from rfl)
  have z1 := (hZ.cell 1).trans (show _ = some (.int .i64 0) from rfl)
  have z2 := (hZ.cell 2).trans (show _ = some (.int .i64 0) from rfl)
  have z3 := (hZ.cell 3).trans (show _ = some (.slice none 0 0) from rfl)
  have z4 := (hZ.cell 4).trans (show _ = some (.slice none 0 0) from rfl)
  have g0 := (hG.cell 0).trans (show _ = some (.int .i64 tu) from rfl)
  have g1 := (hG.cell 1).trans (show _ = some (.int .i64 se) from rfl)
  have g2 := (hG.cell 2).trans (show _ = some (.int .i64 sp) from rfl)
  have g3 := (hG.cell 3).trans (show _ = some (.slice X2 ws.length ws.length) from rfl)
  have g4 := (hG.cell 4).trans (show _ = some (.slice X3 sh.length sh.length) from rfl)
  have fhZ0 := hZ.frozen 0
  have fhZ1 := hZ.frozen 1
  have fhZ2 := hZ.frozen 2
  have fhZ3 := hZ.frozen 3
  have fhZ4 := hZ.frozen 4
  have yhA := hA.lt
  have yhZ := hZ.lt
  have yhG := hG.lt
  go_wp2
  clear a0 a1 a2 a3 a4 z0 z1 z2 z3 z4 g0 g1 g2 g3 g4
  replace HB : Below w.heap.size w (World.setCell (World.setCell (World.setCell (World.setCell (World.setCell W5 ⟨w.heap.size + 1, 0, none⟩ (.int .i64 tu)) ⟨w.heap.size + 1, 1, none⟩ (.int .i64 se)) ⟨w.heap.size + 1, 2, none⟩ (.int .i64 sp)) ⟨w.heap.size + 1, 3, none⟩ (.slice X2 ws.length ws.length)) ⟨w.heap.size + 1, 4, none⟩ (.slice X3 sh.length sh.length)) := (((((HB.setCell (by show w.heap.size ≤ w.heap.size + 1; omega) (.int .i64 tu) (p := ⟨w.heap.size + 1, 0, none⟩)).setCell (by show w.heap.size ≤ w.heap.size + 1; omega) (.int .i64 se) (p := ⟨w.heap.size + 1, 1, none⟩)).setCell (by show w.heap.size ≤ w.heap.size + 1; omega) (.int .i64 sp) (p := ⟨w.heap.size + 1, 2, none⟩)).setCell (by show w.heap.size ≤ w.heap.size + 1; omega) (.slice X2 ws.length ws.length) (p := ⟨w.heap.size + 1, 3, none⟩)).setCell (by show w.heap.size ≤ w.heap.size + 1; omega) (.slice X3 sh.length sh.length) (p := ⟨w.heap.size + 1, 4, none⟩))
  replace hA := (((((hA.far' (p := ⟨w.heap.size + 1, 0, none⟩) (by show _ ≠ w.heap.size + 1; omega) (.int .i64 tu)).far' (p := ⟨w.heap.size + 1, 1, none⟩) (by show _ ≠ w.heap.size + 1; omega) (.int .i64 se)).far' (p := ⟨w.heap.size + 1, 2, none⟩) (by show _ ≠ w.heap.size + 1; omega) (.int .i64 sp)).far' (p := ⟨w.heap.size + 1, 3, none⟩) (by show _ ≠ w.heap.size + 1; omega) (.slice X2 ws.length ws.length)).far' (p := ⟨w.heap.size + 1, 4, none⟩) (by show _ ≠ w.heap.size + 1; omega) (.slice X3 sh.length sh.length))
  replace hZ : Blk (World.setCell (World.setCell (World.setCell (World.setCell (World.setCell W5 ⟨w.heap.size + 1, 0, none⟩ (.int .i64 tu)) ⟨w.heap.size + 1, 1, none⟩ (.int .i64 se)) ⟨w.heap.size + 1, 2, none⟩ (.int .i64 sp)) ⟨w.heap.size + 1, 3, none⟩ (.slice X2 ws.length ws.length)) ⟨w.heap.size + 1, 4, none⟩ (.slice X3 sh.length sh.length)) (w.heap.size + 1) 41 #[.int .i64 tu, .int .i64 se, .int .i64 sp, .slice X2 ws.length ws.length, .slice X3 sh.length sh.length] := (((((hZ.set_ 0 (.int .i64 tu)).set_ 1 (.int .i64 se)).set_ 2 (.int .i64 sp)).set_ 3 (.slice X2 ws.length ws.length)).set_ 4 (.slice X3 sh.length sh.length))
  replace hG := (((((hG.far' (p := ⟨w.heap.size + 1, 0, none⟩) (by show _ ≠ w.heap.size + 1; omega) (.int .i64 tu)).far' (p := ⟨w.heap.size + 1, 1, none⟩) (by show _ ≠ w.heap.size + 1; omega) (.int .i64 se)).far' (p := ⟨w.heap.size + 1, 2, none⟩) (by show _ ≠ w.heap.size + 1; omega) (.int .i64 sp)).far' (p := ⟨w.heap.size + 1, 3, none⟩) (by show _ ≠ w.heap.size + 1; omega) (.slice X2 ws.length ws.length)).far' (p := ⟨w.heap.size + 1, 4, none⟩) (by show _ ≠ w.heap.size + 1; omega) (.slice X3 sh.length sh.length))
  have gRW9 : World.grownBy W5 (World.setCell (World.setCell (World.setCell (World.setCell (World.setCell W5 ⟨w.heap.size + 1, 0, none⟩ (.int .i64 tu)) ⟨w.heap.size + 1, 1, none⟩ (.int .i64 se)) ⟨w.heap.size + 1, 2, none⟩ (.int .i64 sp)) ⟨w.heap.size + 1, 3, none⟩ (.slice X2 ws.length ws.length)) ⟨w.heap.size + 1, 4, none⟩ (.slice X3 sh.length sh.length)) (some (w.heap.size + 1)) := (grown_set (j := 4) (grown_set (j := 3) (grown_set (j := 2) (grown_set (j := 1) (grown_set (j := 0) (grown_refl W5 (some (w.heap.size + 1))) (.int .i64 tu)) (.int .i64 se)) (.int .i64 sp)) (.slice X2 ws.length ws.length)) (.slice X3 sh.length sh.length))
  have szW9 : ((World.setCell (World.setCell (World.setCell (World.setCell (World.setCell W5 ⟨w.heap.size + 1, 0, none⟩ (.int .i64 tu)) ⟨w.heap.size + 1, 1, none⟩ (.int .i64 se)) ⟨w.heap.size + 1, 2, none⟩ (.int .i64 sp)) ⟨w.heap.size + 1, 3, none⟩ (.slice X2 ws.length ws.length)) ⟨w.heap.size + 1, 4, none⟩ (.slice X3 sh.length sh.length))).heap.size = W5.heap.size := by simp [World.setCell]
  generalize World.setCell (World.setCell (World.setCell (World.setCell (World.setCell W5 ⟨w.heap.size + 1, 0, none⟩ (.int .i64 tu)) ⟨w.heap.size + 1, 1, none⟩ (.int .i64 se)) ⟨w.heap.size + 1, 2, none⟩ (.int .i64 sp)) ⟨w.heap.size + 1, 3, none⟩ (.slice X2 ws.length ws.length)) ⟨w.heap.size + 1, 4, none⟩ (.slice X3 sh.length sh.length) = W9 at *
  replace O2 := O2.kept gRW9 (fun k hk e => by have h1 := (O2.lt k hk); have h2 : k = w.heap.size + 1 := (Option.some.inj e); first | (clear gRW9; omega) | exact absurd h2 (neO2 k hk))
  replace O3 := O3.kept gRW9 (fun k hk e => by have h1 := (O3.lt k hk); have h2 : k = w.heap.size + 1 := (Option.some.inj e); first | (clear gRW9; omega) | exact absurd h2 (neO3 k hk))
  have a0 := (hA.cell 0).trans (show _ = some (.int .i64 tu) from rfl)
  have a1 := (hA.cell 1).trans (show _ = some (.int .i64 se) from rfl)
  have a2 := (hA.cell 2).trans (show _ = some (.int .i64 sp) from rfl)
  have a3 := (hA.cell 3).trans (show _ = some (.slice W ws.length wc) from rfl)
  have a4 := (hA.cell 4).trans (show _ = some (.slice S sh.length sc) from rfl)
  have z0 := (hZ.cell 0).trans (show _ = some (.int .i64 tu) from rfl)
  have z1 := (hZ.cell 1).trans (show _ = some (.int .i64 se) from rfl)
  have z2 := (hZ.cell 2).trans (show _ = some (.int .i64 sp) from rfl)
  have z3 := (hZ.cell 3).trans (show _ = some (.slice X2 ws.length ws.length) from rfl)
  have z4 := (hZ.cell 4).trans (show _ = some (.slice X3 sh.length sh.length) from rfl)
  have g0 := (hG.cell 0).trans (show _ = some (.int .i64 tu) from rfl)
  have g1 := (hG.cell 1).trans (show _ = some (.int .i64 se) from rfl)
  have g2 := (hG.cell 2).trans (show _ = some (.int .i64 sp) from rfl)
  have g3 := (hG.cell 3).trans (show _ = some (.slice X2 ws.length ws.length) from rfl)
  have g4 := (hG.cell 4).trans (show _ = some (.slice X3 sh.length sh.length) from rfl)
  refine bodyPost_ret (v := .agg #[.int .i64 tu, .int .i64 se, .int .i64 sp, .slice X2 ws.length ws.length, .slice X3 sh.length sh.length]) (by simp [results, Tryz.results35, go_sem, z0, z1, z2, z3, z4]) rfl ?_
  exact ⟨X2, X3, rfl, O2.base (by omega), O3.base (by omega), ap, HB⟩
set_option maxHeartbeats 8000000 in
set_option maxRecDepth 100000 in
theorem toMee_is (rs : List Rul) (qs : List Que) (tu se sp : Int) (ws : List Int) (sh : List Sha) (os : List Out) (A0 A1 A2 A3 A4 : Option Addr) (c0 c1 c2 c3 c4 : Nat) (h0 : rs.length ≤ 1048576) (h1 : qs.length ≤ 1048576) (h2 : ws.length ≤ 1048576) (h3 : sh.length ≤ 1048576) (h4 : os.length ≤ 1048576) (w : World) (R0 : Rds 7 Rul.cells w A0 rs) (R1 : Rds 3 Que.cells w A1 qs) (R2 : Rds 1 intC w A2 ws) (R3 : Rds 3 Sha.cells w A3 sh) (R4 : Rds 3 Out.cells w A4 os) :
  Calls Tryz.prog 15 #[.agg #[.slice A0 rs.length c0, .slice A1 qs.length c1, .int .i64 tu, .int .i64 se, .int .i64 sp, .slice A2 ws.length c2, .slice A3 sh.length c3, .slice A4 os.length c4]] w fun e w' => ∃ X0 X1 X2 X3 X4, e = .returned (.agg #[.slice X0 rs.length rs.length, .slice X1 qs.length qs.length, .int .i64 tu, .int .i64 se, .int .i64 sp, .slice X2 ws.length ws.length, .slice X3 sh.length sh.length, .slice X4 os.length os.length]) ∧ OwnV w.heap.size 65 7 Rul.cells w' (.slice X0 rs.length rs.length) rs ∧ OwnV w.heap.size 63 3 Que.cells w' (.slice X1 qs.length qs.length) qs ∧ OwnV w.heap.size 3 1 intC w' (.slice X2 ws.length ws.length) ws ∧ OwnV w.heap.size 109 3 Sha.cells w' (.slice X3 sh.length sh.length) sh ∧ OwnV w.heap.size 81 3 Out.cells w' (.slice X4 os.length os.length) os ∧ Apart [.slice X0 rs.length rs.length, .slice X1 qs.length qs.length, .slice X2 ws.length ws.length, .slice X3 sh.length sh.length, .slice X4 os.length os.length] ∧ Below w.heap.size w w' := by
  have S0 := Lib.hid R0; have S1 := Lib.hid R1; have S2 := Lib.hid R2; have S3 := Lib.hid R3; have S4 := Lib.hid R4; clear R0 R1 R2 R3 R4
  go_enter Tryz.func15, Tryz.ntmps15
  go_upto_region 2 with fail
  have hq1 : Below w.heap.size w (World.alloc (World.alloc (World.alloc w (.cells #[.slice A0 rs.length c0, .slice A1 qs.length c1, .int .i64 tu, .int .i64 se, .int .i64 sp, .slice A2 ws.length c2, .slice A3 sh.length c3, .slice A4 os.length c4] 30)) (.cells #[.slice none 0 0, .slice none 0 0, .int .i64 0, .int .i64 0, .int .i64 0, .slice none 0 0, .slice none 0 0, .slice none 0 0] 44)) (.cells #[.slice none 0 0, .slice none 0 0, .int .i64 0, .int .i64 0, .int .i64 0, .slice none 0 0, .slice none 0 0, .slice none 0 0] 44)) := bl3 w _ _ _
  have hA : Blk (World.alloc (World.alloc (World.alloc w (.cells #[.slice A0 rs.length c0, .slice A1 qs.length c1, .int .i64 tu, .int .i64 se, .int .i64 sp, .slice A2 ws.length c2, .slice A3 sh.length c3, .slice A4 os.length c4] 30)) (.cells #[.slice none 0 0, .slice none 0 0, .int .i64 0, .int .i64 0, .int .i64 0, .slice none 0 0, .slice none 0 0, .slice none 0 0] 44)) (.cells #[.slice none 0 0, .slice none 0 0, .int .i64 0, .int .i64 0, .int .i64 0, .slice none 0 0, .slice none 0 0, .slice none 0 0] 44)) (w.heap.size) 30 #[.slice A0 rs.length c0, .slice A1 qs.length c1, .int .i64 tu, .int .i64 se, .int .i64 sp, .slice A2 ws.length c2, .slice A3 sh.length c3, .slice A4 os.length c4] := by repeat (first | exact Blk.new _ _ _ | exact Blk.new2 _ _ _ _ | exact Blk.new3 _ _ _ _ _ | exact Blk.new4 _ _ _ _ _ _ | refine Blk.alloc ?_ _)
  have hZ : Blk (World.alloc (World.alloc (World.alloc w (.cells #[.slice A0 rs.length c0, .slice A1 qs.length c1, .int .i64 tu, .int .i64 se, .int .i64 sp, .slice A2 ws.length c2, .slice A3 sh.length c3, .slice A4 os.length c4] 30)) (.cells #[.slice none 0 0, .slice none 0 0, .int .i64 0, .int .i64 0, .int .i64 0, .slice none 0 0, .slice none 0 0, .slice none 0 0] 44)) (.cells #[.slice none 0 0, .slice none 0 0, .int .i64 0, .int .i64 0, .int .i64 0, .slice none 0 0, .slice none 0 0, .slice none 0 0] 44)) (w.heap.size + 1) 44 #[.slice none 0 0, .slice none 0 0, .int .i64 0, .int .i64 0, .int .i64 0, .slice none 0 0, .slice none 0 0, .slice none 0 0] := by repeat (first | exact Blk.new _ _ _ | exact Blk.new2 _ _ _ _ | exact Blk.new3 _ _ _ _ _ | exact Blk.new4 _ _ _ _ _ _ | refine Blk.alloc ?_ _)
  have hG : Blk (World.alloc (World.alloc (World.alloc w (.cells #[.slice A0 rs.length c0, .slice A1 qs.length c1, .int .i64 tu, .int .i64 se, .int .i64 sp, .slice A2 ws.length c2, .slice A3 sh.length c3, .slice A4 os.length c4] 30)) (.cells #[.slice none 0 0, .slice none 0 0, .int .i64 0, .int .i64 0, .int .i64 0, .slice none 0 0, .slice none 0 0, .slice none 0 0] 44)) (.cells #[.slice none 0 0, .slice none 0 0, .int .i64 0, .int .i64 0, .int .i64 0, .slice none 0 0, .slice none 0 0, .slice none 0 0] 44)) (w.heap.size + 1 + 1) 44 #[.slice none 0 0, .slice none 0 0, .int .i64 0, .int .i64 0, .int .i64 0, .slice none 0 0, .slice none 0 0, .slice none 0 0] := by repeat (first | exact Blk.new _ _ _ | exact Blk.new2 _ _ _ _ | exact Blk.new3 _ _ _ _ _ | exact Blk.new4 _ _ _ _ _ _ | refine Blk.alloc ?_ _)
  generalize World.alloc (World.alloc (World.alloc w (.cells #[.slice A0 rs.length c0, .slice A1 qs.length c1, .int .i64 tu, .int .i64 se, .int .i64 sp, .slice A2 ws.length c2, .slice A3 sh.length c3, .slice A4 os.length c4] 30)) (.cells #[.slice none 0 0, .slice none 0 0, .int .i64 0, .int .i64 0, .int .i64 0, .slice none 0 0, .slice none 0 0, .slice none 0 0] 44)) (.cells #[.slice none 0 0, .slice none 0 0, .int .i64 0, .int .i64 0, .int .i64 0, .slice none 0 0, .slice none 0 0, .slice none 0 0] 44) = wX at *
  have HB := hq1
  have a0 := (hA.cell 0).trans (show _ = some (.slice A0 rs.length c0) from rfl)
  have a1 := (hA.cell 1).trans (show _ = some (.slice A1 qs.length c1) from rfl)
  have a2 := (hA.cell 2).trans (show _ = some (.int .i64 tu) from rfl)
  have a3 := (hA.cell 3).trans (show _ = some (.int .i64 se) from rfl)
  have a4 := (hA.cell 4).trans (show _ = some (.int .i64 sp) from rfl)
  have a5 := (hA.cell 5).trans (show _ = some (.slice A2 ws.length c2) from rfl)
  have a6 := (hA.cell 6).trans (show _ = some (.slice A3 sh.length c3) from rfl)
  have a7 := (hA.cell 7).trans (show _ = some (.slice A4 os.length c4) from rfl)
  have z0 := (hZ.cell 0).trans (show _ = some (.slice none 0 0) from rfl)
  have z1 := (hZ.cell 1).trans (show _ = some (.slice none 0 0) from rfl)
  have z2 := (hZ.cell 2).trans (show _ = some (.int .i64 0) from rfl)
  have z3 := (hZ.cell 3).trans (show _ = some (.int .i64 0) from rfl)
  have z4 := (hZ.cell 4).trans (show _ = some (.int .i64 0) from rfl)
  have z5 := (hZ.cell 5).trans (show _ = some (.slice none 0 0) from rfl)
  have z6 := (hZ.cell 6).trans (show _ = some (.slice none 0 0) from rfl)
  have z7 := (hZ.cell 7).trans (show _ = some (.slice none 0 0) from rfl)
  have g0 := (hG.cell 0).trans (show _ = some (.slice none 0 0) from rfl)
  have g1 := (hG.cell 1).trans (show _ = some (.slice none 0 0) from rfl)
  have g2 := (hG.cell 2).trans (show _ = some (.int .i64 0) from rfl)
  have g3 := (hG.cell 3).trans (show _ = some (.int .i64 0) from rfl)
  have g4 := (hG.cell 4).trans (show _ = some (.int .i64 0) from rfl)
  have g5 := (hG.cell 5).trans (show _ = some (.slice none 0 0) from rfl)
  have g6 := (hG.cell 6).trans (show _ = some (.slice none 0 0) from rfl)
  have g7 := (hG.cell 7).trans (show _ = some (.slice none 0 0) from rfl)
  have q0 := hG.lt
  go_wp2_with fail
  refine (toRuleS_is A0 c0 rs h0 _ (S0.out.below HB)).mono ?_
  rintro e w2 ⟨X0, rfl, O0, hb2⟩
  have hq2 : Below wX.heap.size wX w2 := bth (by repeat (first | exact Below.refl _ _ | refine Below.alloc ?_ (by first | exact Nat.le_refl _ | (simp <;> omega)) _ | refine Below.setCell ?_ (by first | exact Nat.le_refl _ | (simp <;> omega)) _)) hb2
  replace HB := bth HB hq2
  replace hA := hA.below hq2 hA.lt
  replace a0 := (hA.cell 0).trans (show _ = some (.slice A0 rs.length c0) from rfl)
  replace a1 := (hA.cell 1).trans (show _ = some (.slice A1 qs.length c1) from rfl)
  replace a2 := (hA.cell 2).trans (show _ = some (.int .i64 tu) from rfl)
  replace a3 := (hA.cell 3).trans (show _ = some (.int .i64 se) from rfl)
  replace a4 := (hA.cell 4).trans (show _ = some (.int .i64 sp) from rfl)
  replace a5 := (hA.cell 5).trans (show _ = some (.slice A2 ws.length c2) from rfl)
  replace a6 := (hA.cell 6).trans (show _ = some (.slice A3 sh.length c3) from rfl)
  replace a7 := (hA.cell 7).trans (show _ = some (.slice A4 os.length c4) from rfl)
  replace hZ := hZ.below hq2 hZ.lt
  replace z0 := (hZ.cell 0).trans (show _ = some (.slice none 0 0) from rfl)
  replace z1 := (hZ.cell 1).trans (show _ = some (.slice none 0 0) from rfl)
  replace z2 := (hZ.cell 2).trans (show _ = some (.int .i64 0) from rfl)
  replace z3 := (hZ.cell 3).trans (show _ = some (.int .i64 0) from rfl)
  replace z4 := (hZ.cell 4).trans (show _ = some (.int .i64 0) from rfl)
  replace z5 := (hZ.cell 5).trans (show _ = some (.slice none 0 0) from rfl)
  replace z6 := (hZ.cell 6).trans (show _ = some (.slice none 0 0) from rfl)
  replace z7 := (hZ.cell 7).trans (show _ = some (.slice none 0 0) from rfl)
  replace hG := hG.below hq2 hG.lt
  replace g0 := (hG.cell 0).trans (show _ = some (.slice none 0 0) from rfl)
  replace g1 := (hG.cell 1).trans (show _ = some (.slice none 0 0) from rfl)
  replace g2 := (hG.cell 2).trans (show _ = some (.int .i64 0) from rfl)
  replace g3 := (hG.cell 3).trans (show _ = some (.int .i64 0) from rfl)
  replace g4 := (hG.cell 4).trans (show _ = some (.int .i64 0) from rfl)
  replace g5 := (hG.cell 5).trans (show _ = some (.slice none 0 0) from rfl)
  replace g6 := (hG.cell 6).trans (show _ = some (.slice none 0 0) from rfl)
  replace g7 := (hG.cell 7).trans (show _ = some (.slice none 0 0) from rfl)
  have m0 := O0.lt
  have zz2 := hq2.size
  have fhG0 := hG.frozen 0
  have yhA := hA.lt
  have yhZ := hZ.lt
  have yhG := hG.lt
  go_upto_region 3 with fail
  clear fhG0 yhA yhZ yhG
  clear a0 a1 a2 a3 a4 a5 a6 a7 z0 z1 z2 z3 z4 z5 z6 z7 g0 g1 g2 g3 g4 g5 g6 g7
  replace HB : Below w.heap.size w (World.setCell w2 ⟨w.heap.size + 1 + 1, 0, none⟩ (.slice X0 rs.length rs.length)) := (HB.setCell (by show w.heap.size ≤ w.heap.size + 1 + 1; omega) (.slice X0 rs.length rs.length) (p := ⟨w.heap.size + 1 + 1, 0, none⟩))
  replace hA := (hA.far' (p := ⟨w.heap.size + 1 + 1, 0, none⟩) (by show _ ≠ w.heap.size + 1 + 1; omega) (.slice X0 rs.length rs.length))
  replace hZ := (hZ.far' (p := ⟨w.heap.size + 1 + 1, 0, none⟩) (by show _ ≠ w.heap.size + 1 + 1; omega) (.slice X0 rs.length rs.length))
  replace hG : Blk (World.setCell w2 ⟨w.heap.size + 1 + 1, 0, none⟩ (.slice X0 rs.length rs.length)) (w.heap.size + 1 + 1) 44 #[.slice X0 rs.length rs.length, .slice none 0 0, .int .i64 0, .int .i64 0, .int .i64 0, .slice none 0 0, .slice none 0 0, .slice none 0 0] := (hG.set_ 0 (.slice X0 rs.length rs.length))
  have gRW1 : World.grownBy w2 (World.setCell w2 ⟨w.heap.size + 1 + 1, 0, none⟩ (.slice X0 rs.length rs.length)) (some (w.heap.size + 1 + 1)) := (grown_set (j := 0) (grown_refl w2 (some (w.heap.size + 1 + 1))) (.slice X0 rs.length rs.length))
  have szW1 : ((World.setCell w2 ⟨w.heap.size + 1 + 1, 0, none⟩ (.slice X0 rs.length rs.length))).heap.size = w2.heap.size := by simp [World.setCell]
  generalize World.setCell w2 ⟨w.heap.size + 1 + 1, 0, none⟩ (.slice X0 rs.length rs.length) = W1 at *
  replace O0 := O0.kept gRW1 (fun k hk e => by have h1 := (O0.lt k hk); have h2 : k = w.heap.size + 1 + 1 := (Option.some.inj e); first | (clear gRW1; omega) | exact absurd h2 (neO0 k hk))
  have a0 := (hA.cell 0).trans (show _ = some (.slice A0 rs.length c0) from rfl)
  have a1 := (hA.cell 1).trans (show _ = some (.slice A1 qs.length c1) from rfl)
  have a2 := (hA.cell 2).trans (show _ = some (.int .i64 tu) from rfl)
  have a3 := (hA.cell 3).trans (show _ = some (.int .i64 se) from rfl)
  have a4 := (hA.cell 4).trans (show _ = some (.int .i64 sp) from rfl)
  have a5 := (hA.cell 5).trans (show _ = some (.slice A2 ws.length c2) from rfl)
  have a6 := (hA.cell 6).trans (show _ = some (.slice A3 sh.length c3) from rfl)
  have a7 := (hA.cell 7).trans (show _ = some (.slice A4 os.length c4) from rfl)
  have z0 := (hZ.cell 0).trans (show _ = some (.slice none 0 0) from rfl)
  have z1 := (hZ.cell 1).trans (show _ = some (.slice none 0 0) from rfl)
  have z2 := (hZ.cell 2).trans (show _ = some (.int .i64 0) from rfl)
  have z3 := (hZ.cell 3).trans (show _ = some (.int .i64 0) from rfl)
  have z4 := (hZ.cell 4).trans (show _ = some (.int .i64 0) from rfl)
  have z5 := (hZ.cell 5).trans (show _ = some (.slice none 0 0) from rfl)
  have z6 := (hZ.cell 6).trans (show _ = some (.slice none 0 0) from rfl)
  have z7 := (hZ.cell 7).trans (show _ = some (.slice none 0 0) from rfl)
  have g0 := (hG.cell 0).trans (show _ = some (.slice X0 rs.length rs.length) from rfl)
  have g1 := (hG.cell 1).trans (show _ = some (.slice none 0 0) from rfl)
  have g2 := (hG.cell 2).trans (show _ = some (.int .i64 0) from rfl)
  have g3 := (hG.cell 3).trans (show _ = some (.int .i64 0) from rfl)
  have g4 := (hG.cell 4).trans (show _ = some (.int .i64 0) from rfl)
  have g5 := (hG.cell 5).trans (show _ = some (.slice none 0 0) from rfl)
  have g6 := (hG.cell 6).trans (show _ = some (.slice none 0 0) from rfl)
  have g7 := (hG.cell 7).trans (show _ = some (.slice none 0 0) from rfl)
  have q1 := hG.lt
  go_wp2_with fail
  refine (toQuestionS_is A1 c1 qs h1 _ (S1.out.below HB)).mono ?_
  rintro e w3 ⟨X1, rfl, O1, hb3⟩
  have hq3 : Below W1.heap.size W1 w3 := bth (by repeat (first | exact Below.refl _ _ | refine Below.alloc ?_ (by first | exact Nat.le_refl _ | (simp <;> omega)) _ | refine Below.setCell ?_ (by first | exact Nat.le_refl _ | (simp <;> omega)) _)) hb3
  replace HB := bth HB hq3
  replace O0 := O0.later hq3
  replace hA := hA.below hq3 hA.lt
  replace a0 := (hA.cell 0).trans (show _ = some (.slice A0 rs.length c0) from rfl)
  replace a1 := (hA.cell 1).trans (show _ = some (.slice A1 qs.length c1) from rfl)
  replace a2 := (hA.cell 2).trans (show _ = some (.int .i64 tu) from rfl)
  replace a3 := (hA.cell 3).trans (show _ = some (.int .i64 se) from rfl)
  replace a4 := (hA.cell 4).trans (show _ = some (.int .i64 sp) from rfl)
  replace a5 := (hA.cell 5).trans (show _ = some (.slice A2 ws.length c2) from rfl)
  replace a6 := (hA.cell 6).trans (show _ = some (.slice A3 sh.length c3) from rfl)
  replace a7 := (hA.cell 7).trans (show _ = some (.slice A4 os.length c4) from rfl)
  replace hZ := hZ.below hq3 hZ.lt
  replace z0 := (hZ.cell 0).trans (show _ = some (.slice none 0 0) from rfl)
  replace z1 := (hZ.cell 1).trans (show _ = some (.slice none 0 0) from rfl)
  replace z2 := (hZ.cell 2).trans (show _ = some (.int .i64 0) from rfl)
  replace z3 := (hZ.cell 3).trans (show _ = some (.int .i64 0) from rfl)
  replace z4 := (hZ.cell 4).trans (show _ = some (.int .i64 0) from rfl)
  replace z5 := (hZ.cell 5).trans (show _ = some (.slice none 0 0) from rfl)
  replace z6 := (hZ.cell 6).trans (show _ = some (.slice none 0 0) from rfl)
  replace z7 := (hZ.cell 7).trans (show _ = some (.slice none 0 0) from rfl)
  replace hG := hG.below hq3 hG.lt
  replace g0 := (hG.cell 0).trans (show _ = some (.slice X0 rs.length rs.length) from rfl)
  replace g1 := (hG.cell 1).trans (show _ = some (.slice none 0 0) from rfl)
  replace g2 := (hG.cell 2).trans (show _ = some (.int .i64 0) from rfl)
  replace g3 := (hG.cell 3).trans (show _ = some (.int .i64 0) from rfl)
  replace g4 := (hG.cell 4).trans (show _ = some (.int .i64 0) from rfl)
  replace g5 := (hG.cell 5).trans (show _ = some (.slice none 0 0) from rfl)
  replace g6 := (hG.cell 6).trans (show _ = some (.slice none 0 0) from rfl)
  replace g7 := (hG.cell 7).trans (show _ = some (.slice none 0 0) from rfl)
  have m1 := O1.lt
  have zz3 := hq3.size
  have fhG1 := hG.frozen 1
  have yhA := hA.lt
  have yhZ := hZ.lt
  have yhG := hG.lt
  go_upto_region 4 with fail
  clear fhG1 yhA yhZ yhG
  clear a0 a1 a2 a3 a4 a5 a6 a7 z0 z1 z2 z3 z4 z5 z6 z7 g0 g1 g2 g3 g4 g5 g6 g7
  replace HB : Below w.heap.size w (World.setCell w3 ⟨w.heap.size + 1 + 1, 1, none⟩ (.slice X1 qs.length qs.length)) := (HB.setCell (by show w.heap.size ≤ w.heap.size + 1 + 1; omega) (.slice X1 qs.length qs.length) (p := ⟨w.heap.size + 1 + 1, 1, none⟩))
  replace hA := (hA.far' (p := ⟨w.heap.size + 1 + 1, 1, none⟩) (by show _ ≠ w.heap.size + 1 + 1; omega) (.slice X1 qs.length qs.length))
  replace hZ := (hZ.far' (p := ⟨w.heap.size + 1 + 1, 1, none⟩) (by show _ ≠ w.heap.size + 1 + 1; omega) (.slice X1 qs.length qs.length))
  replace hG : Blk (World.setCell w3 ⟨w.heap.size + 1 + 1, 1, none⟩ (.slice X1 qs.length qs.length)) (w.heap.size + 1 + 1) 44 #[.slice X0 rs.length rs.length, .slice X1 qs.length qs.length, .int .i64 0, .int .i64 0, .int .i64 0, .slice none 0 0, .slice none 0 0, .slice none 0 0] := (hG.set_ 1 (.slice X1 qs.length qs.length))
  have gRW2 : World.grownBy w3 (World.setCell w3 ⟨w.heap.size + 1 + 1, 1, none⟩ (.slice X1 qs.length qs.length)) (some (w.heap.size + 1 + 1)) := (grown_set (j := 1) (grown_refl w3 (some (w.heap.size + 1 + 1))) (.slice X1 qs.length qs.length))
  have szW2 : ((World.setCell w3 ⟨w.heap.size + 1 + 1, 1, none⟩ (.slice X1 qs.length qs.length))).heap.size = w3.heap.size := by simp [World.setCell]
  generalize World.setCell w3 ⟨w.heap.size + 1 + 1, 1, none⟩ (.slice X1 qs.length qs.length) = W2 at *
  replace O0 := O0.kept gRW2 (fun k hk e => by have h1 := (O0.lt k hk); have h2 : k = w.heap.size + 1 + 1 := (Option.some.inj e); first | (clear gRW2; omega) | exact absurd h2 (neO0 k hk))
  replace O1 := O1.kept gRW2 (fun k hk e => by have h1 := (O1.lt k hk); have h2 : k = w.heap.size + 1 + 1 := (Option.some.inj e); first | (clear gRW2; omega) | exact absurd h2 (neO1 k hk))
  have a0 := (hA.cell 0).trans (show _ = some (.slice A0 rs.length c0) from rfl)
  have a1 := (hA.cell 1).trans (show _ = some (.slice A1 qs.length c1) from rfl)
  have a2 := (hA.cell 2).trans (show _ = some (.int .i64 tu) from rfl)
  have a3 := (hA.cell 3).trans (show _ = some (.int .i64 se) from rfl)
  have a4 := (hA.cell 4).trans (show _ = some (.int .i64 sp) from rfl)
  have a5 := (hA.cell 5).trans (show _ = some (.slice A2 ws.length c2) from rfl)
  have a6 := (hA.cell 6).trans (show _ = some (.slice A3 sh.length c3) from rfl)
  have a7 := (hA.cell 7).trans (show _ = some (.slice A4 os.length c4) from rfl)
  have z0 := (hZ.cell 0).trans (show _ = some (.slice none 0 0) from rfl)
  have z1 := (hZ.cell 1).trans (show _ = some (.slice none 0 0) from rfl)
  have z2 := (hZ.cell 2).trans (show _ = some (.int .i64 0) from rfl)
  have z3 := (hZ.cell 3).trans (show _ = some (.int .i64 0) from rfl)
  have z4 := (hZ.cell 4).trans (show _ = some (.int .i64 0) from rfl)
  have z5 := (hZ.cell 5).trans (show _ = some (.slice none 0 0) from rfl)
  have z6 := (hZ.cell 6).trans (show _ = some (.slice none 0 0) from rfl)
  have z7 := (hZ.cell 7).trans (show _ = some (.slice none 0 0) from rfl)
  have g0 := (hG.cell 0).trans (show _ = some (.slice X0 rs.length rs.length) from rfl)
  have g1 := (hG.cell 1).trans (show _ = some (.slice X1 qs.length qs.length) from rfl)
  have g2 := (hG.cell 2).trans (show _ = some (.int .i64 0) from rfl)
  have g3 := (hG.cell 3).trans (show _ = some (.int .i64 0) from rfl)
  have g4 := (hG.cell 4).trans (show _ = some (.int .i64 0) from rfl)
  have g5 := (hG.cell 5).trans (show _ = some (.slice none 0 0) from rfl)
  have g6 := (hG.cell 6).trans (show _ = some (.slice none 0 0) from rfl)
  have g7 := (hG.cell 7).trans (show _ = some (.slice none 0 0) from rfl)
  have q2 := hG.lt
  go_wp2_with fail
  refine (toFloor_is tu se sp A2 ws c2 A3 c3 sh h2 h3 _ (S2.out.below HB) (S3.out.below HB)).mono ?_
  rintro e w4 ⟨X2, X3, rfl, O2, O3, ap23, hb4⟩
  have hq4 : Below W2.heap.size W2 w4 := bth (by repeat (first | exact Below.refl _ _ | refine Below.alloc ?_ (by first | exact Nat.le_refl _ | (simp <;> omega)) _ | refine Below.setCell ?_ (by first | exact Nat.le_refl _ | (simp <;> omega)) _)) hb4
  replace HB := bth HB hq4
  replace O0 := O0.later hq4
  replace O1 := O1.later hq4
  replace hA := hA.below hq4 hA.lt
  replace a0 := (hA.cell 0).trans (show _ = some (.slice A0 rs.length c0) from rfl)
  replace a1 := (hA.cell 1).trans (show _ = some (.slice A1 qs.length c1) from rfl)
  replace a2 := (hA.cell 2).trans (show _ = some (.int .i64 tu) from rfl)
  replace a3 := (hA.cell 3).trans (show _ = some (.int .i64 se) from rfl)
  replace a4 := (hA.cell 4).trans (show _ = some (.int .i64 sp) from rfl)
  replace a5 := (hA.cell 5).trans (show _ = some (.slice A2 ws.length c2) from rfl)
  replace a6 := (hA.cell 6).trans (show _ = some (.slice A3 sh.length c3) from rfl)
  replace a7 := (hA.cell 7).trans (show _ = some (.slice A4 os.length c4) from rfl)
  replace hZ := hZ.below hq4 hZ.lt
  replace z0 := (hZ.cell 0).trans (show _ = some (.slice none 0 0) from rfl)
  replace z1 := (hZ.cell 1).trans (show _ = some (.slice none 0 0) from rfl)
  replace z2 := (hZ.cell 2).trans (show _ = some (.int .i64 0) from rfl)
  replace z3 := (hZ.cell 3).trans (show _ = some (.int .i64 0) from rfl)
  replace z4 := (hZ.cell 4).trans (show _ = some (.int .i64 0) from rfl)
  replace z5 := (hZ.cell 5).trans (show _ = some (.slice none 0 0) from rfl)
  replace z6 := (hZ.cell 6).trans (show _ = some (.slice none 0 0) from rfl)
  replace z7 := (hZ.cell 7).trans (show _ = some (.slice none 0 0) from rfl)
  replace hG := hG.below hq4 hG.lt
  replace g0 := (hG.cell 0).trans (show _ = some (.slice X0 rs.length rs.length) from rfl)
  replace g1 := (hG.cell 1).trans (show _ = some (.slice X1 qs.length qs.length) from rfl)
  replace g2 := (hG.cell 2).trans (show _ = some (.int .i64 0) from rfl)
  replace g3 := (hG.cell 3).trans (show _ = some (.int .i64 0) from rfl)
  replace g4 := (hG.cell 4).trans (show _ = some (.int .i64 0) from rfl)
  replace g5 := (hG.cell 5).trans (show _ = some (.slice none 0 0) from rfl)
  replace g6 := (hG.cell 6).trans (show _ = some (.slice none 0 0) from rfl)
  replace g7 := (hG.cell 7).trans (show _ = some (.slice none 0 0) from rfl)
  have m2 := O2.lt
  have m3 := O3.lt
  have zz4 := hq4.size
  have fhG2 := hG.frozen 2
  have fhG3 := hG.frozen 3
  have fhG4 := hG.frozen 4
  have fhG5 := hG.frozen 5
  have fhG6 := hG.frozen 6
  have yhA := hA.lt
  have yhZ := hZ.lt
  have yhG := hG.lt
  go_upto_region 5 with fail
  clear fhG2 fhG3 fhG4 fhG5 fhG6 yhA yhZ yhG
  clear a0 a1 a2 a3 a4 a5 a6 a7 z0 z1 z2 z3 z4 z5 z6 z7 g0 g1 g2 g3 g4 g5 g6 g7
  replace HB : Below w.heap.size w (World.setCell (World.setCell (World.setCell (World.setCell (World.setCell w4 ⟨w.heap.size + 1 + 1, 2, none⟩ (.int .i64 tu)) ⟨w.heap.size + 1 + 1, 3, none⟩ (.int .i64 se)) ⟨w.heap.size + 1 + 1, 4, none⟩ (.int .i64 sp)) ⟨w.heap.size + 1 + 1, 5, none⟩ (.slice X2 ws.length ws.length)) ⟨w.heap.size + 1 + 1, 6, none⟩ (.slice X3 sh.length sh.length)) := (((((HB.setCell (by show w.heap.size ≤ w.heap.size + 1 + 1; omega) (.int .i64 tu) (p := ⟨w.heap.size + 1 + 1, 2, none⟩)).setCell (by show w.heap.size ≤ w.heap.size + 1 + 1; omega) (.int .i64 se) (p := ⟨w.heap.size + 1 + 1, 3, none⟩)).setCell (by show w.heap.size ≤ w.heap.size + 1 + 1; omega) (.int .i64 sp) (p := ⟨w.heap.size + 1 + 1, 4, none⟩)).setCell (by show w.heap.size ≤ w.heap.size + 1 + 1; omega) (.slice X2 ws.length ws.length) (p := ⟨w.heap.size + 1 + 1, 5, none⟩)).setCell (by show w.heap.size ≤ w.heap.size + 1 + 1; omega) (.slice X3 sh.length sh.length) (p := ⟨w.heap.size + 1 + 1, 6, none⟩))
  replace hA := (((((hA.far' (p := ⟨w.heap.size + 1 + 1, 2, none⟩) (by show _ ≠ w.heap.size + 1 + 1; omega) (.int .i64 tu)).far' (p := ⟨w.heap.size + 1 + 1, 3, none⟩) (by show _ ≠ w.heap.size + 1 + 1; omega) (.int .i64 se)).far' (p := ⟨w.heap.size + 1 + 1, 4, none⟩) (by show _ ≠ w.heap.size + 1 + 1; omega) (.int .i64 sp)).far' (p := ⟨w.heap.size + 1 + 1, 5, none⟩) (by show _ ≠ w.heap.size + 1 + 1; omega) (.slice X2 ws.length ws.length)).far' (p := ⟨w.heap.size + 1 + 1, 6, none⟩) (by show _ ≠ w.heap.size + 1 + 1; omega) (.slice X3 sh.length sh.length))
  replace hZ := (((((hZ.far' (p := ⟨w.heap.size + 1 + 1, 2, none⟩) (by show _ ≠ w.heap.size + 1 + 1; omega) (.int .i64 tu)).far' (p := ⟨w.heap.size + 1 + 1, 3, none⟩) (by show _ ≠ w.heap.size + 1 + 1; omega) (.int .i64 se)).far' (p := ⟨w.heap.size + 1 + 1, 4, none⟩) (by show _ ≠ w.heap.size + 1 + 1; omega) (.int .i64 sp)).far' (p := ⟨w.heap.size + 1 + 1, 5, none⟩) (by show _ ≠ w.heap.size + 1 + 1; omega) (.slice X2 ws.length ws.length)).far' (p := ⟨w.heap.size + 1 + 1, 6, none⟩) (by show _ ≠ w.heap.size + 1 + 1; omega) (.slice X3 sh.length sh.length))
  replace hG : Blk (World.setCell (World.setCell (World.setCell (World.setCell (World.setCell w4 ⟨w.heap.size + 1 + 1, 2, none⟩ (.int .i64 tu)) ⟨w.heap.size + 1 + 1, 3, none⟩ (.int .i64 se)) ⟨w.heap.size + 1 + 1, 4, none⟩ (.int .i64 sp)) ⟨w.heap.size + 1 + 1, 5, none⟩ (.slice X2 ws.length ws.length)) ⟨w.heap.size + 1 + 1, 6, none⟩ (.slice X3 sh.length sh.length)) (w.heap.size + 1 + 1) 44 #[.slice X0 rs.length rs.length, .slice X1 qs.length qs.length, .int .i64 tu, .int .i64 se, .int .i64 sp, .slice X2 ws.length ws.length, .slice X3 sh.length sh.length, .slice none 0 0] := (((((hG.set_ 2 (.int .i64 tu)).set_ 3 (.int .i64 se)).set_ 4 (.int .i64 sp)).set_ 5 (.slice X2 ws.length ws.length)).set_ 6 (.slice X3 sh.length sh.length))
  have gRW3 : World.grownBy w4 (World.setCell (World.setCell (World.setCell (World.setCell (World.setCell w4 ⟨w.heap.size + 1 + 1, 2, none⟩ (.int .i64 tu)) ⟨w.heap.size + 1 + 1, 3, none⟩ (.int .i64 se)) ⟨w.heap.size + 1 + 1, 4, none⟩ (.int .i64 sp)) ⟨w.heap.size + 1 + 1, 5, none⟩ (.slice X2 ws.length ws.length)) ⟨w.heap.size + 1 + 1, 6, none⟩ (.slice X3 sh.length sh.length)) (some (w.heap.size + 1 + 1)) := (grown_set (j := 6) (grown_set (j := 5) (grown_set (j := 4) (grown_set (j := 3) (grown_set (j := 2) (grown_refl w4 (some (w.heap.size + 1 + 1))) (.int .i64 tu)) (.int .i64 se)) (.int .i64 sp)) (.slice X2 ws.length ws.length)) (.slice X3 sh.length sh.length))
  have szW3 : ((World.setCell (World.setCell (World.setCell (World.setCell (World.setCell w4 ⟨w.heap.size + 1 + 1, 2, none⟩ (.int .i64 tu)) ⟨w.heap.size + 1 + 1, 3, none⟩ (.int .i64 se)) ⟨w.heap.size + 1 + 1, 4, none⟩ (.int .i64 sp)) ⟨w.heap.size + 1 + 1, 5, none⟩ (.slice X2 ws.length ws.length)) ⟨w.heap.size + 1 + 1, 6, none⟩ (.slice X3 sh.length sh.length))).heap.size = w4.heap.size := by simp [World.setCell]
  generalize World.setCell (World.setCell (World.setCell (World.setCell (World.setCell w4 ⟨w.heap.size + 1 + 1, 2, none⟩ (.int .i64 tu)) ⟨w.heap.size + 1 + 1, 3, none⟩ (.int .i64 se)) ⟨w.heap.size + 1 + 1, 4, none⟩ (.int .i64 sp)) ⟨w.heap.size + 1 + 1, 5, none⟩ (.slice X2 ws.length ws.length)) ⟨w.heap.size + 1 + 1, 6, none⟩ (.slice X3 sh.length sh.length) = W3 at *
  replace O0 := O0.kept gRW3 (fun k hk e => by have h1 := (O0.lt k hk); have h2 : k = w.heap.size + 1 + 1 := (Option.some.inj e); first | (clear gRW3; omega) | exact absurd h2 (neO0 k hk))
  replace O1 := O1.kept gRW3 (fun k hk e => by have h1 := (O1.lt k hk); have h2 : k = w.heap.size + 1 + 1 := (Option.some.inj e); first | (clear gRW3; omega) | exact absurd h2 (neO1 k hk))
  replace O2 := O2.kept gRW3 (fun k hk e => by have h1 := (O2.lt k hk); have h2 : k = w.heap.size + 1 + 1 := (Option.some.inj e); first | (clear gRW3; omega) | exact absurd h2 (neO2 k hk))
  replace O3 := O3.kept gRW3 (fun k hk e => by have h1 := (O3.lt k hk); have h2 : k = w.heap.size + 1 + 1 := (Option.some.inj e); first | (clear gRW3; omega) | exact absurd h2 (neO3 k hk))
  have a0 := (hA.cell 0).trans (show _ = some (.slice A0 rs.length c0) from rfl)
  have a1 := (hA.cell 1).trans (show _ = some (.slice A1 qs.length c1) from rfl)
  have a2 := (hA.cell 2).trans (show _ = some (.int .i64 tu) from rfl)
  have a3 := (hA.cell 3).trans (show _ = some (.int .i64 se) from rfl)
  have a4 := (hA.cell 4).trans (show _ = some (.int .i64 sp) from rfl)
  have a5 := (hA.cell 5).trans (show _ = some (.slice A2 ws.length c2) from rfl)
  have a6 := (hA.cell 6).trans (show _ = some (.slice A3 sh.length c3) from rfl)
  have a7 := (hA.cell 7).trans (show _ = some (.slice A4 os.length c4) from rfl)
  have z0 := (hZ.cell 0).trans (show _ = some (.slice none 0 0) from rfl)
  have z1 := (hZ.cell 1).trans (show _ = some (.slice none 0 0) from rfl)
  have z2 := (hZ.cell 2).trans (show _ = some (.int .i64 0) from rfl)
  have z3 := (hZ.cell 3).trans (show _ = some (.int .i64 0) from rfl)
  have z4 := (hZ.cell 4).trans (show _ = some (.int .i64 0) from rfl)
  have z5 := (hZ.cell 5).trans (show _ = some (.slice none 0 0) from rfl)
  have z6 := (hZ.cell 6).trans (show _ = some (.slice none 0 0) from rfl)
  have z7 := (hZ.cell 7).trans (show _ = some (.slice none 0 0) from rfl)
  have g0 := (hG.cell 0).trans (show _ = some (.slice X0 rs.length rs.length) from rfl)
  have g1 := (hG.cell 1).trans (show _ = some (.slice X1 qs.length qs.length) from rfl)
  have g2 := (hG.cell 2).trans (show _ = some (.int .i64 tu) from rfl)
  have g3 := (hG.cell 3).trans (show _ = some (.int .i64 se) from rfl)
  have g4 := (hG.cell 4).trans (show _ = some (.int .i64 sp) from rfl)
  have g5 := (hG.cell 5).trans (show _ = some (.slice X2 ws.length ws.length) from rfl)
  have g6 := (hG.cell 6).trans (show _ = some (.slice X3 sh.length sh.length) from rfl)
  have g7 := (hG.cell 7).trans (show _ = some (.slice none 0 0) from rfl)
  have q4 := hG.lt
  go_wp2_with fail
  refine (toOutcomeS_is A4 c4 os h4 _ (S4.out.below HB)).mono ?_
  rintro e w5 ⟨X4, rfl, O4, hb5⟩
  have hq5 : Below W3.heap.size W3 w5 := bth (by repeat (first | exact Below.refl _ _ | refine Below.alloc ?_ (by first | exact Nat.le_refl _ | (simp <;> omega)) _ | refine Below.setCell ?_ (by first | exact Nat.le_refl _ | (simp <;> omega)) _)) hb5
  replace HB := bth HB hq5
  replace O0 := O0.later hq5
  replace O1 := O1.later hq5
  replace O2 := O2.later hq5
  replace O3 := O3.later hq5
  replace hA := hA.below hq5 hA.lt
  replace a0 := (hA.cell 0).trans (show _ = some (.slice A0 rs.length c0) from rfl)
  replace a1 := (hA.cell 1).trans (show _ = some (.slice A1 qs.length c1) from rfl)
  replace a2 := (hA.cell 2).trans (show _ = some (.int .i64 tu) from rfl)
  replace a3 := (hA.cell 3).trans (show _ = some (.int .i64 se) from rfl)
  replace a4 := (hA.cell 4).trans (show _ = some (.int .i64 sp) from rfl)
  replace a5 := (hA.cell 5).trans (show _ = some (.slice A2 ws.length c2) from rfl)
  replace a6 := (hA.cell 6).trans (show _ = some (.slice A3 sh.length c3) from rfl)
  replace a7 := (hA.cell 7).trans (show _ = some (.slice A4 os.length c4) from rfl)
  replace hZ := hZ.below hq5 hZ.lt
  replace z0 := (hZ.cell 0).trans (show _ = some (.slice none 0 0) from rfl)
  replace z1 := (hZ.cell 1).trans (show _ = some (.slice none 0 0) from rfl)
  replace z2 := (hZ.cell 2).trans (show _ = some (.int .i64 0) from rfl)
  replace z3 := (hZ.cell 3).trans (show _ = some (.int .i64 0) from rfl)
  replace z4 := (hZ.cell 4).trans (show _ = some (.int .i64 0) from rfl)
  replace z5 := (hZ.cell 5).trans (show _ = some (.slice none 0 0) from rfl)
  replace z6 := (hZ.cell 6).trans (show _ = some (.slice none 0 0) from rfl)
  replace z7 := (hZ.cell 7).trans (show _ = some (.slice none 0 0) from rfl)
  replace hG := hG.below hq5 hG.lt
  replace g0 := (hG.cell 0).trans (show _ = some (.slice X0 rs.length rs.length) from rfl)
  replace g1 := (hG.cell 1).trans (show _ = some (.slice X1 qs.length qs.length) from rfl)
  replace g2 := (hG.cell 2).trans (show _ = some (.int .i64 tu) from rfl)
  replace g3 := (hG.cell 3).trans (show _ = some (.int .i64 se) from rfl)
  replace g4 := (hG.cell 4).trans (show _ = some (.int .i64 sp) from rfl)
  replace g5 := (hG.cell 5).trans (show _ = some (.slice X2 ws.length ws.length) from rfl)
  replace g6 := (hG.cell 6).trans (show _ = some (.slice X3 sh.length sh.length) from rfl)
  replace g7 := (hG.cell 7).trans (show _ = some (.slice none 0 0) from rfl)
  have m4 := O4.lt
  have zz5 := hq5.size
  have ap : Apart [.slice X0 rs.length rs.length, .slice X1 qs.length qs.length, .slice X2 ws.length ws.length, .slice X3 sh.length sh.length, .slice X4 os.length os.length] := by
    refine List.Pairwise.cons ?_ (List.Pairwise.cons ?_ (List.Pairwise.cons ?_ (List.Pairwise.cons ?_ (List.Pairwise.cons ?_ List.Pairwise.nil))))
    · intro v hv k hk hk'
      have e1 := (m0 k hk).2
      simp only [List.mem_cons, List.not_mem_nil, or_false] at hv
      rcases hv with rfl | rfl | rfl | rfl
      · have e2 := (m1 k hk'.symm).1; omega
      · have e2 := (m2 k hk'.symm).1; omega
      · have e2 := (m3 k hk'.symm).1; omega
      · have e2 := (m4 k hk'.symm).1; omega
    · intro v hv k hk hk'
      have e1 := (m1 k hk).2
      simp only [List.mem_cons, List.not_mem_nil, or_false] at hv
      rcases hv with rfl | rfl | rfl
      · have e2 := (m2 k hk'.symm).1; omega
      · have e2 := (m3 k hk'.symm).1; omega
      · have e2 := (m4 k hk'.symm).1; omega
    · intro v hv k hk hk'
      have e1 := (m2 k hk).2
      simp only [List.mem_cons, List.not_mem_nil, or_false] at hv
      rcases hv with rfl | rfl
      · exact ap23 k hk hk'
      · have e2 := (m4 k hk'.symm).1; omega
    · intro v hv k hk hk'
      have e1 := (m3 k hk).2
      simp only [List.mem_cons, List.not_mem_nil, or_false] at hv
      subst hv
      have e2 := (m4 k hk'.symm).1; omega
    · intro v hv; simp at hv
  have fhG7 := hG.frozen 7
  have yhA := hA.lt
  have yhZ := hZ.lt
  have yhG := hG.lt
  go_upto_region 6 with fail
  clear fhG7 yhA yhZ yhG
  clear a0 a1 a2 a3 a4 a5 a6 a7 z0 z1 z2 z3 z4 z5 z6 z7 g0 g1 g2 g3 g4 g5 g6 g7
  replace HB : Below w.heap.size w (World.setCell w5 ⟨w.heap.size + 1 + 1, 7, none⟩ (.slice X4 os.length os.length)) := (HB.setCell (by show w.heap.size ≤ w.heap.size + 1 + 1; omega) (.slice X4 os.length os.length) (p := ⟨w.heap.size + 1 + 1, 7, none⟩))
  replace hA := (hA.far' (p := ⟨w.heap.size + 1 + 1, 7, none⟩) (by show _ ≠ w.heap.size + 1 + 1; omega) (.slice X4 os.length os.length))
  replace hZ := (hZ.far' (p := ⟨w.heap.size + 1 + 1, 7, none⟩) (by show _ ≠ w.heap.size + 1 + 1; omega) (.slice X4 os.length os.length))
  replace hG : Blk (World.setCell w5 ⟨w.heap.size + 1 + 1, 7, none⟩ (.slice X4 os.length os.length)) (w.heap.size + 1 + 1) 44 #[.slice X0 rs.length rs.length, .slice X1 qs.length qs.length, .int .i64 tu, .int .i64 se, .int .i64 sp, .slice X2 ws.length ws.length, .slice X3 sh.length sh.length, .slice X4 os.length os.length] := (hG.set_ 7 (.slice X4 os.length os.length))
  have gRW4 : World.grownBy w5 (World.setCell w5 ⟨w.heap.size + 1 + 1, 7, none⟩ (.slice X4 os.length os.length)) (some (w.heap.size + 1 + 1)) := (grown_set (j := 7) (grown_refl w5 (some (w.heap.size + 1 + 1))) (.slice X4 os.length os.length))
  have szW4 : ((World.setCell w5 ⟨w.heap.size + 1 + 1, 7, none⟩ (.slice X4 os.length os.length))).heap.size = w5.heap.size := by simp [World.setCell]
  generalize World.setCell w5 ⟨w.heap.size + 1 + 1, 7, none⟩ (.slice X4 os.length os.length) = W4 at *
  replace O0 := O0.kept gRW4 (fun k hk e => by have h1 := (O0.lt k hk); have h2 : k = w.heap.size + 1 + 1 := (Option.some.inj e); first | (clear gRW4; omega) | exact absurd h2 (neO0 k hk))
  replace O1 := O1.kept gRW4 (fun k hk e => by have h1 := (O1.lt k hk); have h2 : k = w.heap.size + 1 + 1 := (Option.some.inj e); first | (clear gRW4; omega) | exact absurd h2 (neO1 k hk))
  replace O2 := O2.kept gRW4 (fun k hk e => by have h1 := (O2.lt k hk); have h2 : k = w.heap.size + 1 + 1 := (Option.some.inj e); first | (clear gRW4; omega) | exact absurd h2 (neO2 k hk))
  replace O3 := O3.kept gRW4 (fun k hk e => by have h1 := (O3.lt k hk); have h2 : k = w.heap.size + 1 + 1 := (Option.some.inj e); first | (clear gRW4; omega) | exact absurd h2 (neO3 k hk))
  replace O4 := O4.kept gRW4 (fun k hk e => by have h1 := (O4.lt k hk); have h2 : k = w.heap.size + 1 + 1 := (Option.some.inj e); first | (clear gRW4; omega) | exact absurd h2 (neO4 k hk))
  have a0 := (hA.cell 0).trans (show _ = some (.slice A0 rs.length c0) from rfl)
  have a1 := (hA.cell 1).trans (show _ = some (.slice A1 qs.length c1) from rfl)
  have a2 := (hA.cell 2).trans (show _ = some (.int .i64 tu) from rfl)
  have a3 := (hA.cell 3).trans (show _ = some (.int .i64 se) from rfl)
  have a4 := (hA.cell 4).trans (show _ = some (.int .i64 sp) from rfl)
  have a5 := (hA.cell 5).trans (show _ = some (.slice A2 ws.length c2) from rfl)
  have a6 := (hA.cell 6).trans (show _ = some (.slice A3 sh.length c3) from rfl)
  have a7 := (hA.cell 7).trans (show _ = some (.slice A4 os.length c4) from rfl)
  have z0 := (hZ.cell 0).trans (show _ = some (.slice none 0 0) from rfl)
  have z1 := (hZ.cell 1).trans (show _ = some (.slice none 0 0) from rfl)
  have z2 := (hZ.cell 2).trans (show _ = some (.int .i64 0) from rfl)
  have z3 := (hZ.cell 3).trans (show _ = some (.int .i64 0) from rfl)
  have z4 := (hZ.cell 4).trans (show _ = some (.int .i64 0) from rfl)
  have z5 := (hZ.cell 5).trans (show _ = some (.slice none 0 0) from rfl)
  have z6 := (hZ.cell 6).trans (show _ = some (.slice none 0 0) from rfl)
  have z7 := (hZ.cell 7).trans (show _ = some (.slice none 0 0) from rfl)
  have g0 := (hG.cell 0).trans (show _ = some (.slice X0 rs.length rs.length) from rfl)
  have g1 := (hG.cell 1).trans (show _ = some (.slice X1 qs.length qs.length) from rfl)
  have g2 := (hG.cell 2).trans (show _ = some (.int .i64 tu) from rfl)
  have g3 := (hG.cell 3).trans (show _ = some (.int .i64 se) from rfl)
  have g4 := (hG.cell 4).trans (show _ = some (.int .i64 sp) from rfl)
  have g5 := (hG.cell 5).trans (show _ = some (.slice X2 ws.length ws.length) from rfl)
  have g6 := (hG.cell 6).trans (show _ = some (.slice X3 sh.length sh.length) from rfl)
  have g7 := (hG.cell 7).trans (show _ = some (.slice X4 os.length os.length) from rfl)
  have fhZ0 := hZ.frozen 0
  have fhZ1 := hZ.frozen 1
  have fhZ2 := hZ.frozen 2
  have fhZ3 := hZ.frozen 3
  have fhZ4 := hZ.frozen 4
  have fhZ5 := hZ.frozen 5
  have fhZ6 := hZ.frozen 6
  have fhZ7 := hZ.frozen 7
  have yhA := hA.lt
  have yhZ := hZ.lt
  have yhG := hG.lt
  go_wp2
  clear a0 a1 a2 a3 a4 a5 a6 a7 z0 z1 z2 z3 z4 z5 z6 z7 g0 g1 g2 g3 g4 g5 g6 g7
  replace HB : Below w.heap.size w (World.setCell (World.setCell (World.setCell (World.setCell (World.setCell (World.setCell (World.setCell (World.setCell W4 ⟨w.heap.size + 1, 0, none⟩ (.slice X0 rs.length rs.length)) ⟨w.heap.size + 1, 1, none⟩ (.slice X1 qs.length qs.length)) ⟨w.heap.size + 1, 2, none⟩ (.int .i64 tu)) ⟨w.heap.size + 1, 3, none⟩ (.int .i64 se)) ⟨w.heap.size + 1, 4, none⟩ (.int .i64 sp)) ⟨w.heap.size + 1, 5, none⟩ (.slice X2 ws.length ws.length)) ⟨w.heap.size + 1, 6, none⟩ (.slice X3 sh.length sh.length)) ⟨w.heap.size + 1, 7, none⟩ (.slice X4 os.length os.length)) := ((((((((HB.setCell (by show w.heap.size ≤ w.heap.size + 1; omega) (.slice X0 rs.length rs.length) (p := ⟨w.heap.size + 1, 0, none⟩)).setCell (by show w.heap.size ≤ w.heap.size + 1; omega) (.slice X1 qs.length qs.length) (p := ⟨w.heap.size + 1, 1, none⟩)).setCell (by show w.heap.size ≤ w.heap.size + 1; omega) (.int .i64 tu) (p := ⟨w.heap.size + 1, 2, none⟩)).setCell (by show w.heap.size ≤ w.heap.size + 1; omega) (.int .i64 se) (p := ⟨w.heap.size + 1, 3, none⟩)).setCell (by show w.heap.size ≤ w.heap.size + 1; omega) (.int .i64 sp) (p := ⟨w.heap.size + 1, 4, none⟩)).setCell (by show w.heap.size ≤ w.heap.size + 1; omega) (.slice X2 ws.length ws.length) (p := ⟨w.heap.size + 1, 5, none⟩)).setCell (by show w.heap.size ≤ w.heap.size + 1; omega) (.slice X3 sh.length sh.length) (p := ⟨w.heap.size + 1, 6, none⟩)).setCell (by show w.heap.size ≤ w.heap.size + 1; omega) (.slice X4 os.length os.length) (p := ⟨w.heap.size + 1, 7, none⟩))
  replace hA := ((((((((hA.far' (p := ⟨w.heap.size + 1, 0, none⟩) (by show _ ≠ w.heap.size + 1; omega) (.slice X0 rs.length rs.length)).far' (p := ⟨w.heap.size + 1, 1, none⟩) (by show _ ≠ w.heap.size + 1; omega) (.slice X1 qs.length qs.length)).far' (p := ⟨w.heap.size + 1, 2, none⟩) (by show _ ≠ w.heap.size + 1; omega) (.int .i64 tu)).far' (p := ⟨w.heap.size + 1, 3, none⟩) (by show _ ≠ w.heap.size + 1; omega) (.int .i64 se)).far' (p := ⟨w.heap.size + 1, 4, none⟩) (by show _ ≠ w.heap.size + 1; omega) (.int .i64 sp)).far' (p := ⟨w.heap.size + 1, 5, none⟩) (by show _ ≠ w.heap.size + 1; omega) (.slice X2 ws.length ws.length)).far' (p := ⟨w.heap.size + 1, 6, none⟩) (by show _ ≠ w.heap.size + 1; omega) (.slice X3 sh.length sh.length)).far' (p := ⟨w.heap.size + 1, 7, none⟩) (by show _ ≠ w.heap.size + 1; omega) (.slice X4 os.length os.length))
  replace hZ : Blk (World.setCell (World.setCell (World.setCell (World.setCell (World.setCell (World.setCell (World.setCell (World.setCell W4 ⟨w.heap.size + 1, 0, none⟩ (.slice X0 rs.length rs.length)) ⟨w.heap.size + 1, 1, none⟩ (.slice X1 qs.length qs.length)) ⟨w.heap.size + 1, 2, none⟩ (.int .i64 tu)) ⟨w.heap.size + 1, 3, none⟩ (.int .i64 se)) ⟨w.heap.size + 1, 4, none⟩ (.int .i64 sp)) ⟨w.heap.size + 1, 5, none⟩ (.slice X2 ws.length ws.length)) ⟨w.heap.size + 1, 6, none⟩ (.slice X3 sh.length sh.length)) ⟨w.heap.size + 1, 7, none⟩ (.slice X4 os.length os.length)) (w.heap.size + 1) 44 #[.slice X0 rs.length rs.length, .slice X1 qs.length qs.length, .int .i64 tu, .int .i64 se, .int .i64 sp, .slice X2 ws.length ws.length, .slice X3 sh.length sh.length, .slice X4 os.length os.length] := ((((((((hZ.set_ 0 (.slice X0 rs.length rs.length)).set_ 1 (.slice X1 qs.length qs.length)).set_ 2 (.int .i64 tu)).set_ 3 (.int .i64 se)).set_ 4 (.int .i64 sp)).set_ 5 (.slice X2 ws.length ws.length)).set_ 6 (.slice X3 sh.length sh.length)).set_ 7 (.slice X4 os.length os.length))
  replace hG := ((((((((hG.far' (p := ⟨w.heap.size + 1, 0, none⟩) (by show _ ≠ w.heap.size + 1; omega) (.slice X0 rs.length rs.length)).far' (p := ⟨w.heap.size + 1, 1, none⟩) (by show _ ≠ w.heap.size + 1; omega) (.slice X1 qs.length qs.length)).far' (p := ⟨w.heap.size + 1, 2, none⟩) (by show _ ≠ w.heap.size + 1; omega) (.int .i64 tu)).far' (p := ⟨w.heap.size + 1, 3, none⟩) (by show _ ≠ w.heap.size + 1; omega) (.int .i64 se)).far' (p := ⟨w.heap.size + 1, 4, none⟩) (by show _ ≠ w.heap.size + 1; omega) (.int .i64 sp)).far' (p := ⟨w.heap.size + 1, 5, none⟩) (by show _ ≠ w.heap.size + 1; omega) (.slice X2 ws.length ws.length)).far' (p := ⟨w.heap.size + 1, 6, none⟩) (by show _ ≠ w.heap.size + 1; omega) (.slice X3 sh.length sh.length)).far' (p := ⟨w.heap.size + 1, 7, none⟩) (by show _ ≠ w.heap.size + 1; omega) (.slice X4 os.length os.length))
  have gRW9 : World.grownBy W4 (World.setCell (World.setCell (World.setCell (World.setCell (World.setCell (World.setCell (World.setCell (World.setCell W4 ⟨w.heap.size + 1, 0, none⟩ (.slice X0 rs.length rs.length)) ⟨w.heap.size + 1, 1, none⟩ (.slice X1 qs.length qs.length)) ⟨w.heap.size + 1, 2, none⟩ (.int .i64 tu)) ⟨w.heap.size + 1, 3, none⟩ (.int .i64 se)) ⟨w.heap.size + 1, 4, none⟩ (.int .i64 sp)) ⟨w.heap.size + 1, 5, none⟩ (.slice X2 ws.length ws.length)) ⟨w.heap.size + 1, 6, none⟩ (.slice X3 sh.length sh.length)) ⟨w.heap.size + 1, 7, none⟩ (.slice X4 os.length os.length)) (some (w.heap.size + 1)) := (grown_set (j := 7) (grown_set (j := 6) (grown_set (j := 5) (grown_set (j := 4) (grown_set (j := 3) (grown_set (j := 2) (grown_set (j := 1) (grown_set (j := 0) (grown_refl W4 (some (w.heap.size + 1))) (.slice X0 rs.length rs.length)) (.slice X1 qs.length qs.length)) (.int .i64 tu)) (.int .i64 se)) (.int .i64 sp)) (.slice X2 ws.length ws.length)) (.slice X3 sh.length sh.length)) (.slice X4 os.length os.length))
  have szW9 : ((World.setCell (World.setCell (World.setCell (World.setCell (World.setCell (World.setCell (World.setCell (World.setCell W4 ⟨w.heap.size + 1, 0, none⟩ (.slice X0 rs.length rs.length)) ⟨w.heap.size + 1, 1, none⟩ (.slice X1 qs.length qs.length)) ⟨w.heap.size + 1, 2, none⟩ (.int .i64 tu)) ⟨w.heap.size + 1, 3, none⟩ (.int .i64 se)) ⟨w.heap.size + 1, 4, none⟩ (.int .i64 sp)) ⟨w.heap.size + 1, 5, none⟩ (.slice X2 ws.length ws.length)) ⟨w.heap.size + 1, 6, none⟩ (.slice X3 sh.length sh.length)) ⟨w.heap.size + 1, 7, none⟩ (.slice X4 os.length os.length))).heap.size = W4.heap.size := by simp [World.setCell]
  generalize World.setCell (World.setCell (World.setCell (World.setCell (World.setCell (World.setCell (World.setCell (World.setCell W4 ⟨w.heap.size + 1, 0, none⟩ (.slice X0 rs.length rs.length)) ⟨w.heap.size + 1, 1, none⟩ (.slice X1 qs.length qs.length)) ⟨w.heap.size + 1, 2, none⟩ (.int .i64 tu)) ⟨w.heap.size + 1, 3, none⟩ (.int .i64 se)) ⟨w.heap.size + 1, 4, none⟩ (.int .i64 sp)) ⟨w.heap.size + 1, 5, none⟩ (.slice X2 ws.length ws.length)) ⟨w.heap.size + 1, 6, none⟩ (.slice X3 sh.length sh.length)) ⟨w.heap.size + 1, 7, none⟩ (.slice X4 os.length os.length) = W9 at *
  replace O0 := O0.kept gRW9 (fun k hk e => by have h1 := (O0.lt k hk); have h2 : k = w.heap.size + 1 := (Option.some.inj e); first | (clear gRW9; omega) | exact absurd h2 (neO0 k hk))
  replace O1 := O1.kept gRW9 (fun k hk e => by have h1 := (O1.lt k hk); have h2 : k = w.heap.size + 1 := (Option.some.inj e); first | (clear gRW9; omega) | exact absurd h2 (neO1 k hk))
  replace O2 := O2.kept gRW9 (fun k hk e => by have h1 := (O2.lt k hk); have h2 : k = w.heap.size + 1 := (Option.some.inj e); first | (clear gRW9; omega) | exact absurd h2 (neO2 k hk))
  replace O3 := O3.kept gRW9 (fun k hk e => by have h1 := (O3.lt k hk); have h2 : k = w.heap.size + 1 := (Option.some.inj e); first | (clear gRW9; omega) | exact absurd h2 (neO3 k hk))
  replace O4 := O4.kept gRW9 (fun k hk e => by have h1 := (O4.lt k hk); have h2 : k = w.heap.size + 1 := (Option.some.inj e); first | (clear gRW9; omega) | exact absurd h2 (neO4 k hk))
  have a0 := (hA.cell 0).trans (show _ = some (.slice A0 rs.length c0) from rfl)
  have a1 := (hA.cell 1).trans (show _ = some (.slice A1 qs.length c1) from rfl)
  have a2 := (hA.cell 2).trans (show _ = some (.int .i64 tu) from rfl)
  have a3 := (hA.cell 3).trans (show _ = some (.int .i64 se) from rfl)
  have a4 := (hA.cell 4).trans (show _ = some (.int .i64 sp) from rfl)
  have a5 := (hA.cell 5).trans (show _ = some (.slice A2 ws.length c2) from rfl)
  have a6 := (hA.cell 6).trans (show _ = some (.slice A3 sh.length c3) from rfl)
  have a7 := (hA.cell 7).trans (show _ = some (.slice A4 os.length c4) from rfl)
  have z0 := (hZ.cell 0).trans (show _ = some (.slice X0 rs.length rs.length) from rfl)
  have z1 := (hZ.cell 1).trans (show _ = some (.slice X1 qs.length qs.length) from rfl)
  have z2 := (hZ.cell 2).trans (show _ = some (.int .i64 tu) from rfl)
  have z3 := (hZ.cell 3).trans (show _ = some (.int .i64 se) from rfl)
  have z4 := (hZ.cell 4).trans (show _ = some (.int .i64 sp) from rfl)
  have z5 := (hZ.cell 5).trans (show _ = some (.slice X2 ws.length ws.length) from rfl)
  have z6 := (hZ.cell 6).trans (show _ = some (.slice X3 sh.length sh.length) from rfl)
  have z7 := (hZ.cell 7).trans (show _ = some (.slice X4 os.length os.length) from rfl)
  have g0 := (hG.cell 0).trans (show _ = some (.slice X0 rs.length rs.length) from rfl)
  have g1 := (hG.cell 1).trans (show _ = some (.slice X1 qs.length qs.length) from rfl)
  have g2 := (hG.cell 2).trans (show _ = some (.int .i64 tu) from rfl)
  have g3 := (hG.cell 3).trans (show _ = some (.int .i64 se) from rfl)
  have g4 := (hG.cell 4).trans (show _ = some (.int .i64 sp) from rfl)
  have g5 := (hG.cell 5).trans (show _ = some (.slice X2 ws.length ws.length) from rfl)
  have g6 := (hG.cell 6).trans (show _ = some (.slice X3 sh.length sh.length) from rfl)
  have g7 := (hG.cell 7).trans (show _ = some (.slice X4 os.length os.length) from rfl)
  refine bodyPost_ret (v := .agg #[.slice X0 rs.length rs.length, .slice X1 qs.length qs.length, .int .i64 tu, .int .i64 se, .int .i64 sp, .slice X2 ws.length ws.length, .slice X3 sh.length sh.length, .slice X4 os.length os.length]) (by simp [results, Tryz.results15, go_sem, z0, z1, z2, z3, z4, z5, z6, z7]) rfl ?_
  exact ⟨X0, X1, X2, X3, X4, rfl, O0.base (by omega), O1.base (by omega), O2.base (by omega), O3.base (by omega), O4.base (by omega), ap, HB⟩
theorem szMeeting_is (m : Mee) (A0 A1 A2 A3 A4 : Option Addr) (c0 c1 c2 c3 c4 : Nat) (h0 : m.rules.length ≤ maxLen) (h1 : m.pend.length ≤ maxLen) (h2 : m.wait.length ≤ maxLen) (h3 : m.shares.length ≤ maxLen) (h4 : m.outs.length ≤ maxLen) (l : Int) (l0 : 0 ≤ l) (l1 : l ≤ 1048576) (w : World) (R0 : Rds 7 Rul.cells w A0 m.rules) :
  Calls Tryz.prog 12 #[.agg #[.slice A0 m.rules.length c0, .slice A1 m.pend.length c1, .int .i64 m.turns, .int .i64 m.secs, .int .i64 m.spk, .slice A2 m.wait.length c2, .slice A3 m.shares.length c3, .slice A4 m.outs.length c4], .int .i64 l] w fun e w' => ∃ r : Int, e = .returned (.int .i64 r) ∧ -1 ≤ r ∧ r ≤ l ∧ (r < 0 ∨ m.rules.length ≤ 1048576 ∧ m.pend.length ≤ 1048576 ∧ m.wait.length ≤ 1048576 ∧ m.shares.length ≤ 1048576 ∧ m.outs.length ≤ 1048576) ∧ Below w.heap.size w w' :=
  szMee_is m.rules m.pend m.turns m.secs m.spk m.wait m.shares m.outs A0 A1 A2 A3 A4 c0 c1 c2 c3 c4 h0 h1 h2 h3 h4 l l0 l1 w R0
theorem eqMeeting_is (m : Mee) (A0 A1 A2 A3 A4 D0 D1 D2 D3 D4 : Option Addr) (c0 c1 c2 c3 c4 d0 d1 d2 d3 d4 : Nat) (h0 : m.rules.length ≤ 1048576) (h1 : m.pend.length ≤ 1048576) (h2 : m.wait.length ≤ 1048576) (h3 : m.shares.length ≤ 1048576) (h4 : m.outs.length ≤ 1048576) (w : World) (R0 : Rds 7 Rul.cells w A0 m.rules) (R1 : Rds 3 Que.cells w A1 m.pend) (R2 : Rds 1 intC w A2 m.wait) (R3 : Rds 3 Sha.cells w A3 m.shares) (R4 : Rds 3 Out.cells w A4 m.outs) (Q0 : Rds 7 Rul.cells w D0 m.rules) (Q1 : Rds 3 Que.cells w D1 m.pend) (Q2 : Rds 1 intC w D2 m.wait) (Q3 : Rds 3 Sha.cells w D3 m.shares) (Q4 : Rds 3 Out.cells w D4 m.outs) :
  Calls Tryz.prog 19 #[.agg #[.slice A0 m.rules.length c0, .slice A1 m.pend.length c1, .int .i64 m.turns, .int .i64 m.secs, .int .i64 m.spk, .slice A2 m.wait.length c2, .slice A3 m.shares.length c3, .slice A4 m.outs.length c4], .agg #[.slice D0 m.rules.length d0, .slice D1 m.pend.length d1, .int .i64 m.turns, .int .i64 m.secs, .int .i64 m.spk, .slice D2 m.wait.length d2, .slice D3 m.shares.length d3, .slice D4 m.outs.length d4]] w fun e w' => e = .returned (.bool true) ∧ Below w.heap.size w w' :=
  eqMee_is m.rules m.pend m.turns m.secs m.spk m.wait m.shares m.outs A0 A1 A2 A3 A4 c0 c1 c2 c3 c4 D0 D1 D2 D3 D4 d0 d1 d2 d3 d4 h0 h1 h2 h3 h4 w R0 R1 R2 R3 R4 Q0 Q1 Q2 Q3 Q4
theorem toMeeting_is (m : Mee) (A0 A1 A2 A3 A4 : Option Addr) (c0 c1 c2 c3 c4 : Nat) (h0 : m.rules.length ≤ 1048576) (h1 : m.pend.length ≤ 1048576) (h2 : m.wait.length ≤ 1048576) (h3 : m.shares.length ≤ 1048576) (h4 : m.outs.length ≤ 1048576) (w : World) (R0 : Rds 7 Rul.cells w A0 m.rules) (R1 : Rds 3 Que.cells w A1 m.pend) (R2 : Rds 1 intC w A2 m.wait) (R3 : Rds 3 Sha.cells w A3 m.shares) (R4 : Rds 3 Out.cells w A4 m.outs) :
  Calls Tryz.prog 15 #[.agg #[.slice A0 m.rules.length c0, .slice A1 m.pend.length c1, .int .i64 m.turns, .int .i64 m.secs, .int .i64 m.spk, .slice A2 m.wait.length c2, .slice A3 m.shares.length c3, .slice A4 m.outs.length c4]] w fun e w' => ∃ X0 X1 X2 X3 X4, e = .returned (.agg #[.slice X0 m.rules.length m.rules.length, .slice X1 m.pend.length m.pend.length, .int .i64 m.turns, .int .i64 m.secs, .int .i64 m.spk, .slice X2 m.wait.length m.wait.length, .slice X3 m.shares.length m.shares.length, .slice X4 m.outs.length m.outs.length]) ∧ OwnV w.heap.size 65 7 Rul.cells w' (.slice X0 m.rules.length m.rules.length) m.rules ∧ OwnV w.heap.size 63 3 Que.cells w' (.slice X1 m.pend.length m.pend.length) m.pend ∧ OwnV w.heap.size 3 1 intC w' (.slice X2 m.wait.length m.wait.length) m.wait ∧ OwnV w.heap.size 109 3 Sha.cells w' (.slice X3 m.shares.length m.shares.length) m.shares ∧ OwnV w.heap.size 81 3 Out.cells w' (.slice X4 m.outs.length m.outs.length) m.outs ∧ Apart [.slice X0 m.rules.length m.rules.length, .slice X1 m.pend.length m.pend.length, .slice X2 m.wait.length m.wait.length, .slice X3 m.shares.length m.shares.length, .slice X4 m.outs.length m.outs.length] ∧ Below w.heap.size w w' :=
  toMee_is m.rules m.pend m.turns m.secs m.spk m.wait m.shares m.outs A0 A1 A2 A3 A4 c0 c1 c2 c3 c4 h0 h1 h2 h3 h4 w R0 R1 R2 R3 R4
end Go.Proofs.YtpkagohflkcnkaaGreatDoor
