/- The law of decided questions: the prevailing side, the switches that turn it, who may reconsider. -/
import Derived.Test.YthgaddnbgnennaaDoorDcd
import Derived.Test.YthgaddnbgnennaaDoorDec7
import Derived.Test.YthgaddnbgnennaaDoorSw
import Derived.Test.YthgaddnbgnennaaDoorPs
import Derived.Test.YthgaddnbgnennaaDoorTxd
import Derived.Test.YthgaddnbgnennaaDoorRcU
import Derived.Deep.Cut
namespace Go.Proofs.YthgaddnbgnennaaDoor
open Go.RowKit Go.G9
theorem firstTo_spec {p : Nat → Bool} : ∀ {m k : Nat}, firstTo p m = some k → k < m ∧ p k = true
  | 0, k, h => by simp [firstTo] at h
  | m + 1, k, h => by
    unfold firstTo at h
    split at h
    · rename_i j hj
      cases h
      have := firstTo_spec hj
      exact ⟨by omega, this.2⟩
    · split at h
      · rename_i hp
        cases h
        exact ⟨by omega, hp⟩
      · cases h
theorem mayOut_done {x : Dec} {m t : Int} (hx : x.done = true) : ∃ b : Bool, mayOut x m t = .tuple #[.bool false, .bool b] := by
  unfold mayOut; split
  · exact ⟨true, by simp [hx]⟩
  · exact ⟨false, rfl⟩
theorem iPrevL_is (d : Dec) (Y N : Option Addr) (yc nc : Nat) (L : List Int) (v : Bool) (hL : psL d = L) (hv : decB d = v) (hy : d.yes.length ≤ 1048576) (hn : d.no.length ≤ 1048576) (hY : Y = none → d.yes = [] ∧ yc = 0) (hN : N = none → d.no = [] ∧ nc = 0) (w : World) (hRy : Rds 1 intC w Y d.yes) (hRn : Rds 1 intC w N d.no) :
  Calls Tryd.prog 20 #[.agg #[.int .i64 d.id, .int .i64 d.day, .int .i64 d.need, .slice Y d.yes.length yc, .slice N d.no.length nc, .bool d.done]] w fun e w' => ∃ A c, e = .returned (.tuple #[.slice A L.length c, .bool v]) ∧ OwnV w.heap.size 3 1 intC w' (.slice A L.length c) L ∧ Below w.heap.size w w' := by
  subst hL; subst hv; exact iPrev_is d Y N yc nc hy hn hY hN w hRy hRn
theorem sPrevL_is (d : Dec) (Y N : Option Addr) (yc nc : Nat) (L : List Int) (v : Bool) (hL : psL d = L) (hv : decB d = v) (hy : d.yes.length ≤ 1048576) (hn : d.no.length ≤ 1048576) (hY : Y = none → d.yes = [] ∧ yc = 0) (hN : N = none → d.no = [] ∧ nc = 0) (w : World) (hRy : Rds 1 intC w Y d.yes) (hRn : Rds 1 intC w N d.no) :
  Calls Tryd.prog 23 #[.agg #[.int .i64 d.id, .int .i64 d.day, .int .i64 d.need, .slice Y d.yes.length yc, .slice N d.no.length nc, .bool d.done]] w fun e w' => ∃ A c, e = .returned (.tuple #[.slice A L.length c, .bool v]) ∧ OwnV w.heap.size 3 1 intC w' (.slice A L.length c) L ∧ Below w.heap.size w w' := by
  subst hL; subst hv; exact sPrev_is d Y N yc nc hy hn hY hN w hRy hRn
set_option maxHeartbeats 16000000 in
set_option maxRecDepth 100000 in
theorem law_decisions (A : Option Addr) (c : Nat) (cs : List UInt8) (w : World) (hR : Rds 1 u8C w A cs) (HT : Tab w) :
  Calls Tryd.prog 5 #[.slice A cs.length c] w fun e w' => e = .returned (.bool true) ∧ Below w.heap.size w w' := by
  cases hv : decide (65536 < cs.length)
  case true =>
    go_enter Tryd.func5, Tryd.ntmps5
    go_wp2_with fail
    refine (rBigR_is A c cs.length _ hv _).mono ?_
    rintro e _ ⟨rfl, rfl⟩
    go_wp2
    go_ret
    exact ⟨rfl, (by repeat (first | exact Below.refl _ _ | refine Below.alloc ?_ (by first | exact Nat.le_refl _ | (simp <;> omega)) _ | refine Below.setCell ?_ (by first | exact Nat.le_refl _ | (simp <;> omega)) _))⟩
  have hcs : cs.length ≤ 1048576 := by have := of_decide_eq_false hv; omega
  go_enter Tryd.func5, Tryd.ntmps5
  go_wp2_with fail
  refine (rBigR_is A c cs.length _ hv _).mono ?_
  rintro e w0 ⟨rfl, h0⟩
  rw [h0]
  clear h0 w0
  go_wp2_with fail
  refine (drawSw_is A c cs hcs _ (hR.below (by repeat (first | exact Below.refl _ _ | refine Below.alloc ?_ (by first | exact Nat.le_refl _ | (simp <;> omega)) _ | refine Below.setCell ?_ (by first | exact Nat.le_refl _ | (simp <;> omega)) _)))).mono ?_
  rintro e w1 ⟨d, Y, N', yc, nc, rfl, hly, hln, hYs, hNs, hb1⟩
  have hq1 : Below w.heap.size w w1 := bth (by repeat (first | exact Below.refl _ _ | refine Below.alloc ?_ (by first | exact Nat.le_refl _ | (simp <;> omega)) _ | refine Below.setCell ?_ (by first | exact Nat.le_refl _ | (simp <;> omega)) _)) hb1
  have HB : Below w.heap.size w w1 := hq1
  replace hR := hR.below hq1
  replace HT := HT.below hq1
  have RY := hYs.rds
  have RN := hNs.rds
  have hYn := Lib.hid hYs.nil
  have hNn := Lib.hid hNs.nil
  clear hYs hNs
  have hy : d.yes.length ≤ 1048576 := by omega
  have hn : d.no.length ≤ 1048576 := by omega
  cases hd : decB d
  · skip
    have E1 : Hid (swOut d = .tuple #[.int .i64 0, .bool false]) := Lib.hid (by simp [swOut, hd])
    have E2 : Hid (wasOut d = .tuple #[.bool false, .bool false]) := Lib.hid (by simp [wasOut, hd])
    have EL : Hid (psL d = []) := Lib.hid (by simp [psL, hd])
    have HD := Lib.hid hd
    clear hd
    go_wp2_with fail
    refine (iSwitches_is d Y N' yc nc hy hn _ E1.out _ (RY.below (by repeat (first | exact Below.refl _ _ | refine Below.alloc ?_ (by first | exact Nat.le_refl _ | (simp <;> omega)) _ | refine Below.setCell ?_ (by first | exact Nat.le_refl _ | (simp <;> omega)) _))) (RN.below (by repeat (first | exact Below.refl _ _ | refine Below.alloc ?_ (by first | exact Nat.le_refl _ | (simp <;> omega)) _ | refine Below.setCell ?_ (by first | exact Nat.le_refl _ | (simp <;> omega)) _)))).mono ?_
    rintro e w2 ⟨rfl, hb2⟩
    have hq2 : Below w1.heap.size w1 w2 := bth (by repeat (first | exact Below.refl _ _ | refine Below.alloc ?_ (by first | exact Nat.le_refl _ | (simp <;> omega)) _ | refine Below.setCell ?_ (by first | exact Nat.le_refl _ | (simp <;> omega)) _)) hb2
    replace HB := bth HB hq2
    replace hR := hR.below hq2
    replace HT := HT.below hq2
    replace RY := RY.below hq2
    replace RN := RN.below hq2
    have hD : Blk w2 (w1.heap.size) 35 #[.int .i64 d.id, .int .i64 d.day, .int .i64 d.need, .slice Y d.yes.length yc, .slice N' d.no.length nc, .bool d.done] := Blk.below (by repeat (first | exact Blk.new _ _ _ | exact Blk.new2 _ _ _ _ | exact Blk.new3 _ _ _ _ _ | exact Blk.new4 _ _ _ _ _ _ | refine Blk.alloc ?_ _)) hb2 (by simp <;> omega)
    have b0 := (hD.cell 0).trans (show _ = some (.int .i64 d.id) from rfl)
    have b1 := (hD.cell 1).trans (show _ = some (.int .i64 d.day) from rfl)
    have b2 := (hD.cell 2).trans (show _ = some (.int .i64 d.need) from rfl)
    have b3 := (hD.cell 3).trans (show _ = some (.slice Y d.yes.length yc) from rfl)
    have b4 := (hD.cell 4).trans (show _ = some (.slice N' d.no.length nc) from rfl)
    have b5 := (hD.cell 5).trans (show _ = some (.bool d.done) from rfl)
    have yhD := hD.lt
    go_wp2_with fail
    refine (sSwitches_is d Y N' yc nc hy hn hYn.out hNn.out _ E1.out _ (RY.below (by repeat (first | exact Below.refl _ _ | refine Below.alloc ?_ (by first | exact Nat.le_refl _ | (simp <;> omega)) _ | refine Below.setCell ?_ (by first | exact Nat.le_refl _ | (simp <;> omega)) _))) (RN.below (by repeat (first | exact Below.refl _ _ | refine Below.alloc ?_ (by first | exact Nat.le_refl _ | (simp <;> omega)) _ | refine Below.setCell ?_ (by first | exact Nat.le_refl _ | (simp <;> omega)) _)))).mono ?_
    rintro e w3 ⟨rfl, hb3⟩
    have hq3 : Below w2.heap.size w2 w3 := bth (by repeat (first | exact Below.refl _ _ | refine Below.alloc ?_ (by first | exact Nat.le_refl _ | (simp <;> omega)) _ | refine Below.setCell ?_ (by first | exact Nat.le_refl _ | (simp <;> omega)) _)) hb3
    replace HB := bth HB hq3
    replace hR := hR.below hq3
    replace HT := HT.below hq3
    replace RY := RY.below hq3
    replace RN := RN.below hq3
    replace hD := hD.below hq3 hD.lt
    replace b0 := (hD.cell 0).trans (show _ = some (.int .i64 d.id) from rfl)
    replace b1 := (hD.cell 1).trans (show _ = some (.int .i64 d.day) from rfl)
    replace b2 := (hD.cell 2).trans (show _ = some (.int .i64 d.need) from rfl)
    replace b3 := (hD.cell 3).trans (show _ = some (.slice Y d.yes.length yc) from rfl)
    replace b4 := (hD.cell 4).trans (show _ = some (.slice N' d.no.length nc) from rfl)
    replace b5 := (hD.cell 5).trans (show _ = some (.bool d.done) from rfl)
    have yhD := hD.lt
    go_wp2_with fail
    refine (iWasAdopted_is d Y N' yc nc hy hn _ E2.out _ (RY.below (by repeat (first | exact Below.refl _ _ | refine Below.alloc ?_ (by first | exact Nat.le_refl _ | (simp <;> omega)) _ | refine Below.setCell ?_ (by first | exact Nat.le_refl _ | (simp <;> omega)) _))) (RN.below (by repeat (first | exact Below.refl _ _ | refine Below.alloc ?_ (by first | exact Nat.le_refl _ | (simp <;> omega)) _ | refine Below.setCell ?_ (by first | exact Nat.le_refl _ | (simp <;> omega)) _)))).mono ?_
    rintro e w4 ⟨rfl, hb4⟩
    have hq4 : Below w3.heap.size w3 w4 := bth (by repeat (first | exact Below.refl _ _ | refine Below.alloc ?_ (by first | exact Nat.le_refl _ | (simp <;> omega)) _ | refine Below.setCell ?_ (by first | exact Nat.le_refl _ | (simp <;> omega)) _)) hb4
    replace HB := bth HB hq4
    replace hR := hR.below hq4
    replace HT := HT.below hq4
    replace RY := RY.below hq4
    replace RN := RN.below hq4
    replace hD := hD.below hq4 hD.lt
    replace b0 := (hD.cell 0).trans (show _ = some (.int .i64 d.id) from rfl)
    replace b1 := (hD.cell 1).trans (show _ = some (.int .i64 d.day) from rfl)
    replace b2 := (hD.cell 2).trans (show _ = some (.int .i64 d.need) from rfl)
    replace b3 := (hD.cell 3).trans (show _ = some (.slice Y d.yes.length yc) from rfl)
    replace b4 := (hD.cell 4).trans (show _ = some (.slice N' d.no.length nc) from rfl)
    replace b5 := (hD.cell 5).trans (show _ = some (.bool d.done) from rfl)
    have yhD := hD.lt
    go_wp2_with fail
    refine (iPrevL_is d Y N' yc nc [] false EL.out HD.out hy hn hYn.out hNn.out _ (RY.below (by repeat (first | exact Below.refl _ _ | refine Below.alloc ?_ (by first | exact Nat.le_refl _ | (simp <;> omega)) _ | refine Below.setCell ?_ (by first | exact Nat.le_refl _ | (simp <;> omega)) _))) (RN.below (by repeat (first | exact Below.refl _ _ | refine Below.alloc ?_ (by first | exact Nat.le_refl _ | (simp <;> omega)) _ | refine Below.setCell ?_ (by first | exact Nat.le_refl _ | (simp <;> omega)) _)))).mono ?_
    rintro e w5 ⟨A7, c7, rfl, O7, hb5⟩
    have hq5 : Below w4.heap.size w4 w5 := bth (by repeat (first | exact Below.refl _ _ | refine Below.alloc ?_ (by first | exact Nat.le_refl _ | (simp <;> omega)) _ | refine Below.setCell ?_ (by first | exact Nat.le_refl _ | (simp <;> omega)) _)) hb5
    replace HB := bth HB hq5
    replace hR := hR.below hq5
    replace HT := HT.below hq5
    replace RY := RY.below hq5
    replace RN := RN.below hq5
    replace hD := hD.below hq5 hD.lt
    replace b0 := (hD.cell 0).trans (show _ = some (.int .i64 d.id) from rfl)
    replace b1 := (hD.cell 1).trans (show _ = some (.int .i64 d.day) from rfl)
    replace b2 := (hD.cell 2).trans (show _ = some (.int .i64 d.need) from rfl)
    replace b3 := (hD.cell 3).trans (show _ = some (.slice Y d.yes.length yc) from rfl)
    replace b4 := (hD.cell 4).trans (show _ = some (.slice N' d.no.length nc) from rfl)
    replace b5 := (hD.cell 5).trans (show _ = some (.bool d.done) from rfl)
    have Q7 := O7.rds (hf := intC_len)
    clear O7
    have yhD := hD.lt
    go_wp2_with fail
    refine (sWasAdopted_is d Y N' yc nc hy hn _ E2.out _ (RY.below (by repeat (first | exact Below.refl _ _ | refine Below.alloc ?_ (by first | exact Nat.le_refl _ | (simp <;> omega)) _ | refine Below.setCell ?_ (by first | exact Nat.le_refl _ | (simp <;> omega)) _))) (RN.below (by repeat (first | exact Below.refl _ _ | refine Below.alloc ?_ (by first | exact Nat.le_refl _ | (simp <;> omega)) _ | refine Below.setCell ?_ (by first | exact Nat.le_refl _ | (simp <;> omega)) _)))).mono ?_
    rintro e w6 ⟨rfl, hb6⟩
    have hq6 : Below w5.heap.size w5 w6 := bth (by repeat (first | exact Below.refl _ _ | refine Below.alloc ?_ (by first | exact Nat.le_refl _ | (simp <;> omega)) _ | refine Below.setCell ?_ (by first | exact Nat.le_refl _ | (simp <;> omega)) _)) hb6
    replace HB := bth HB hq6
    replace hR := hR.below hq6
    replace HT := HT.below hq6
    replace RY := RY.below hq6
    replace RN := RN.below hq6
    replace Q7 := Q7.below hq6
    replace hD := hD.below hq6 hD.lt
    replace b0 := (hD.cell 0).trans (show _ = some (.int .i64 d.id) from rfl)
    replace b1 := (hD.cell 1).trans (show _ = some (.int .i64 d.day) from rfl)
    replace b2 := (hD.cell 2).trans (show _ = some (.int .i64 d.need) from rfl)
    replace b3 := (hD.cell 3).trans (show _ = some (.slice Y d.yes.length yc) from rfl)
    replace b4 := (hD.cell 4).trans (show _ = some (.slice N' d.no.length nc) from rfl)
    replace b5 := (hD.cell 5).trans (show _ = some (.bool d.done) from rfl)
    have yhD := hD.lt
    go_wp2_with fail
    refine (isValidDecided_is d Y N' yc nc hy hn false HD.out _ (RY.below (by repeat (first | exact Below.refl _ _ | refine Below.alloc ?_ (by first | exact Nat.le_refl _ | (simp <;> omega)) _ | refine Below.setCell ?_ (by first | exact Nat.le_refl _ | (simp <;> omega)) _))) (RN.below (by repeat (first | exact Below.refl _ _ | refine Below.alloc ?_ (by first | exact Nat.le_refl _ | (simp <;> omega)) _ | refine Below.setCell ?_ (by first | exact Nat.le_refl _ | (simp <;> omega)) _)))).mono ?_
    rintro e w7 ⟨rfl, hb7⟩
    have hq7 : Below w6.heap.size w6 w7 := bth (by repeat (first | exact Below.refl _ _ | refine Below.alloc ?_ (by first | exact Nat.le_refl _ | (simp <;> omega)) _ | refine Below.setCell ?_ (by first | exact Nat.le_refl _ | (simp <;> omega)) _)) hb7
    replace HB := bth HB hq7
    replace hR := hR.below hq7
    replace HT := HT.below hq7
    replace RY := RY.below hq7
    replace RN := RN.below hq7
    replace Q7 := Q7.below hq7
    replace hD := hD.below hq7 hD.lt
    replace b0 := (hD.cell 0).trans (show _ = some (.int .i64 d.id) from rfl)
    replace b1 := (hD.cell 1).trans (show _ = some (.int .i64 d.day) from rfl)
    replace b2 := (hD.cell 2).trans (show _ = some (.int .i64 d.need) from rfl)
    replace b3 := (hD.cell 3).trans (show _ = some (.slice Y d.yes.length yc) from rfl)
    replace b4 := (hD.cell 4).trans (show _ = some (.slice N' d.no.length nc) from rfl)
    replace b5 := (hD.cell 5).trans (show _ = some (.bool d.done) from rfl)
    have yhD := hD.lt
    go_wp2_with fail
    refine (sPrevL_is d Y N' yc nc [] false EL.out HD.out hy hn hYn.out hNn.out _ (RY.below (by repeat (first | exact Below.refl _ _ | refine Below.alloc ?_ (by first | exact Nat.le_refl _ | (simp <;> omega)) _ | refine Below.setCell ?_ (by first | exact Nat.le_refl _ | (simp <;> omega)) _))) (RN.below (by repeat (first | exact Below.refl _ _ | refine Below.alloc ?_ (by first | exact Nat.le_refl _ | (simp <;> omega)) _ | refine Below.setCell ?_ (by first | exact Nat.le_refl _ | (simp <;> omega)) _)))).mono ?_
    rintro e w8 ⟨A8, c8, rfl, O8, hb8⟩
    have hq8 : Below w7.heap.size w7 w8 := bth (by repeat (first | exact Below.refl _ _ | refine Below.alloc ?_ (by first | exact Nat.le_refl _ | (simp <;> omega)) _ | refine Below.setCell ?_ (by first | exact Nat.le_refl _ | (simp <;> omega)) _)) hb8
    replace HB := bth HB hq8
    replace hR := hR.below hq8
    replace HT := HT.below hq8
    replace RY := RY.below hq8
    replace RN := RN.below hq8
    replace Q7 := Q7.below hq8
    replace hD := hD.below hq8 hD.lt
    replace b0 := (hD.cell 0).trans (show _ = some (.int .i64 d.id) from rfl)
    replace b1 := (hD.cell 1).trans (show _ = some (.int .i64 d.day) from rfl)
    replace b2 := (hD.cell 2).trans (show _ = some (.int .i64 d.need) from rfl)
    replace b3 := (hD.cell 3).trans (show _ = some (.slice Y d.yes.length yc) from rfl)
    replace b4 := (hD.cell 4).trans (show _ = some (.slice N' d.no.length nc) from rfl)
    replace b5 := (hD.cell 5).trans (show _ = some (.bool d.done) from rfl)
    have Q8 := O8.rds (hf := intC_len)
    clear O8
    have yhD := hD.lt
    go_wp2_with fail
    refine (rInts_is A7 A8 c7 c8 [] (by first | omega | simp) _ (Q7.below (by repeat (first | exact Below.refl _ _ | refine Below.alloc ?_ (by first | exact Nat.le_refl _ | (simp <;> omega)) _ | refine Below.setCell ?_ (by first | exact Nat.le_refl _ | (simp <;> omega)) _))) (Q8.below (by repeat (first | exact Below.refl _ _ | refine Below.alloc ?_ (by first | exact Nat.le_refl _ | (simp <;> omega)) _ | refine Below.setCell ?_ (by first | exact Nat.le_refl _ | (simp <;> omega)) _)))).mono ?_
    rintro e w9 ⟨rfl, hb9⟩
    have hq9 : Below w8.heap.size w8 w9 := bth (by repeat (first | exact Below.refl _ _ | refine Below.alloc ?_ (by first | exact Nat.le_refl _ | (simp <;> omega)) _ | refine Below.setCell ?_ (by first | exact Nat.le_refl _ | (simp <;> omega)) _)) hb9
    replace HB := bth HB hq9
    replace hR := hR.below hq9
    replace HT := HT.below hq9
    replace RY := RY.below hq9
    replace RN := RN.below hq9
    replace Q7 := Q7.below hq9
    replace Q8 := Q8.below hq9
    replace hD := hD.below hq9 hD.lt
    replace b0 := (hD.cell 0).trans (show _ = some (.int .i64 d.id) from rfl)
    replace b1 := (hD.cell 1).trans (show _ = some (.int .i64 d.day) from rfl)
    replace b2 := (hD.cell 2).trans (show _ = some (.int .i64 d.need) from rfl)
    replace b3 := (hD.cell 3).trans (show _ = some (.slice Y d.yes.length yc) from rfl)
    replace b4 := (hD.cell 4).trans (show _ = some (.slice N' d.no.length nc) from rfl)
    replace b5 := (hD.cell 5).trans (show _ = some (.bool d.done) from rfl)
    clear Q7 Q8
    have yhD := hD.lt
    clear RY RN
    have yhD := hD.lt
    go_wp2_with fail
    refine (drawMay_is A c cs hcs _ (hR.below (by repeat (first | exact Below.refl _ _ | refine Below.alloc ?_ (by first | exact Nat.le_refl _ | (simp <;> omega)) _ | refine Below.setCell ?_ (by first | exact Nat.le_refl _ | (simp <;> omega)) _)))).mono ?_
    rintro e w10 ⟨x, P, Q', pc, qc, m, t, rfl, hxy, hxn, hm, ht, hPs, hQs, hb10⟩
    have hq10 : Below w9.heap.size w9 w10 := bth (by repeat (first | exact Below.refl _ _ | refine Below.alloc ?_ (by first | exact Nat.le_refl _ | (simp <;> omega)) _ | refine Below.setCell ?_ (by first | exact Nat.le_refl _ | (simp <;> omega)) _)) hb10
    replace HB := bth HB hq10
    replace hR := hR.below hq10
    replace HT := HT.below hq10
    replace hD := hD.below hq10 hD.lt
    replace b0 := (hD.cell 0).trans (show _ = some (.int .i64 d.id) from rfl)
    replace b1 := (hD.cell 1).trans (show _ = some (.int .i64 d.day) from rfl)
    replace b2 := (hD.cell 2).trans (show _ = some (.int .i64 d.need) from rfl)
    replace b3 := (hD.cell 3).trans (show _ = some (.slice Y d.yes.length yc) from rfl)
    replace b4 := (hD.cell 4).trans (show _ = some (.slice N' d.no.length nc) from rfl)
    replace b5 := (hD.cell 5).trans (show _ = some (.bool d.done) from rfl)
    have RP := hPs.rds
    have RQ := hQs.rds
    have hPn := Lib.hid hPs.nil
    have hQn := Lib.hid hQs.nil
    clear hPs hQs
    have hxy' : x.yes.length ≤ 1048576 := by omega
    have hxn' : x.no.length ≤ 1048576 := by omega
    by_cases hxd : x.done = true
    · skip
      obtain ⟨mb, hmo⟩ := mayOut_done (m := m) (t := t) hxd
      have HM := Lib.hid hmo
      have HX : Hid (x.done = true) := Lib.hid hxd
      clear hmo hxd
      have yhD := hD.lt
      go_wp2_with fail
      refine (iMay_is x P Q' pc qc hxy' hxn' m t _ HM.out _ (RP.below (by repeat (first | exact Below.refl _ _ | refine Below.alloc ?_ (by first | exact Nat.le_refl _ | (simp <;> omega)) _ | refine Below.setCell ?_ (by first | exact Nat.le_refl _ | (simp <;> omega)) _))) (RQ.below (by repeat (first | exact Below.refl _ _ | refine Below.alloc ?_ (by first | exact Nat.le_refl _ | (simp <;> omega)) _ | refine Below.setCell ?_ (by first | exact Nat.le_refl _ | (simp <;> omega)) _)))).mono ?_
      rintro e w11 ⟨rfl, hb11⟩
      have hq11 : Below w10.heap.size w10 w11 := bth (by repeat (first | exact Below.refl _ _ | refine Below.alloc ?_ (by first | exact Nat.le_refl _ | (simp <;> omega)) _ | refine Below.setCell ?_ (by first | exact Nat.le_refl _ | (simp <;> omega)) _)) hb11
      replace HB := bth HB hq11
      replace hR := hR.below hq11
      replace HT := HT.below hq11
      replace RP := RP.below hq11
      replace RQ := RQ.below hq11
      replace hD := hD.below hq11 hD.lt
      replace b0 := (hD.cell 0).trans (show _ = some (.int .i64 d.id) from rfl)
      replace b1 := (hD.cell 1).trans (show _ = some (.int .i64 d.day) from rfl)
      replace b2 := (hD.cell 2).trans (show _ = some (.int .i64 d.need) from rfl)
      replace b3 := (hD.cell 3).trans (show _ = some (.slice Y d.yes.length yc) from rfl)
      replace b4 := (hD.cell 4).trans (show _ = some (.slice N' d.no.length nc) from rfl)
      replace b5 := (hD.cell 5).trans (show _ = some (.bool d.done) from rfl)
      have hX : Blk w11 (w10.heap.size) 35 #[.int .i64 x.id, .int .i64 x.day, .int .i64 x.need, .slice P x.yes.length pc, .slice Q' x.no.length qc, .bool x.done] := Blk.below (by repeat (first | exact Blk.new _ _ _ | exact Blk.new2 _ _ _ _ | exact Blk.new3 _ _ _ _ _ | exact Blk.new4 _ _ _ _ _ _ | refine Blk.alloc ?_ _)) hb11 (by simp <;> omega)
      have x0 := (hX.cell 0).trans (show _ = some (.int .i64 x.id) from rfl)
      have x1 := (hX.cell 1).trans (show _ = some (.int .i64 x.day) from rfl)
      have x2 := (hX.cell 2).trans (show _ = some (.int .i64 x.need) from rfl)
      have x3 := (hX.cell 3).trans (show _ = some (.slice P x.yes.length pc) from rfl)
      have x4 := (hX.cell 4).trans (show _ = some (.slice Q' x.no.length qc) from rfl)
      have x5 := (hX.cell 5).trans (show _ = some (.bool x.done) from rfl)
      have yhD := hD.lt
      have yhX := hX.lt
      go_wp2_with fail
      refine (sMay_is x P Q' pc qc hxy' hxn' hPn.out hQn.out m t _ HM.out _ (RP.below (by repeat (first | exact Below.refl _ _ | refine Below.alloc ?_ (by first | exact Nat.le_refl _ | (simp <;> omega)) _ | refine Below.setCell ?_ (by first | exact Nat.le_refl _ | (simp <;> omega)) _))) (RQ.below (by repeat (first | exact Below.refl _ _ | refine Below.alloc ?_ (by first | exact Nat.le_refl _ | (simp <;> omega)) _ | refine Below.setCell ?_ (by first | exact Nat.le_refl _ | (simp <;> omega)) _)))).mono ?_
      rintro e w12 ⟨rfl, hb12⟩
      have hq12 : Below w11.heap.size w11 w12 := bth (by repeat (first | exact Below.refl _ _ | refine Below.alloc ?_ (by first | exact Nat.le_refl _ | (simp <;> omega)) _ | refine Below.setCell ?_ (by first | exact Nat.le_refl _ | (simp <;> omega)) _)) hb12
      replace HB := bth HB hq12
      replace hR := hR.below hq12
      replace HT := HT.below hq12
      replace RP := RP.below hq12
      replace RQ := RQ.below hq12
      replace hD := hD.below hq12 hD.lt
      replace b0 := (hD.cell 0).trans (show _ = some (.int .i64 d.id) from rfl)
      replace b1 := (hD.cell 1).trans (show _ = some (.int .i64 d.day) from rfl)
      replace b2 := (hD.cell 2).trans (show _ = some (.int .i64 d.need) from rfl)
      replace b3 := (hD.cell 3).trans (show _ = some (.slice Y d.yes.length yc) from rfl)
      replace b4 := (hD.cell 4).trans (show _ = some (.slice N' d.no.length nc) from rfl)
      replace b5 := (hD.cell 5).trans (show _ = some (.bool d.done) from rfl)
      replace hX := hX.below hq12 hX.lt
      replace x0 := (hX.cell 0).trans (show _ = some (.int .i64 x.id) from rfl)
      replace x1 := (hX.cell 1).trans (show _ = some (.int .i64 x.day) from rfl)
      replace x2 := (hX.cell 2).trans (show _ = some (.int .i64 x.need) from rfl)
      replace x3 := (hX.cell 3).trans (show _ = some (.slice P x.yes.length pc) from rfl)
      replace x4 := (hX.cell 4).trans (show _ = some (.slice Q' x.no.length qc) from rfl)
      replace x5 := (hX.cell 5).trans (show _ = some (.bool x.done) from rfl)
      clear RP RQ
      rw [HX.out] at x5
      have yhD := hD.lt
      have yhX := hX.lt
      go_wp2_with fail
      refine (drawDt_is A c cs hcs _ (hR.below (by repeat (first | exact Below.refl _ _ | refine Below.alloc ?_ (by first | exact Nat.le_refl _ | (simp <;> omega)) _ | refine Below.setCell ?_ (by first | exact Nat.le_refl _ | (simp <;> omega)) _)))).mono ?_
      rintro e w13 ⟨z, S, U', sc, uc, rfl, hzy, hzn, hSs, hUs, hb13⟩
      have hq13 : Below w12.heap.size w12 w13 := bth (by repeat (first | exact Below.refl _ _ | refine Below.alloc ?_ (by first | exact Nat.le_refl _ | (simp <;> omega)) _ | refine Below.setCell ?_ (by first | exact Nat.le_refl _ | (simp <;> omega)) _)) hb13
      replace HB := bth HB hq13
      replace hR := hR.below hq13
      replace HT := HT.below hq13
      replace hD := hD.below hq13 hD.lt
      replace b0 := (hD.cell 0).trans (show _ = some (.int .i64 d.id) from rfl)
      replace b1 := (hD.cell 1).trans (show _ = some (.int .i64 d.day) from rfl)
      replace b2 := (hD.cell 2).trans (show _ = some (.int .i64 d.need) from rfl)
      replace b3 := (hD.cell 3).trans (show _ = some (.slice Y d.yes.length yc) from rfl)
      replace b4 := (hD.cell 4).trans (show _ = some (.slice N' d.no.length nc) from rfl)
      replace b5 := (hD.cell 5).trans (show _ = some (.bool d.done) from rfl)
      replace hX := hX.below hq13 hX.lt
      replace x0 := (hX.cell 0).trans (show _ = some (.int .i64 x.id) from rfl)
      replace x1 := (hX.cell 1).trans (show _ = some (.int .i64 x.day) from rfl)
      replace x2 := (hX.cell 2).trans (show _ = some (.int .i64 x.need) from rfl)
      replace x3 := (hX.cell 3).trans (show _ = some (.slice P x.yes.length pc) from rfl)
      replace x4 := (hX.cell 4).trans (show _ = some (.slice Q' x.no.length qc) from rfl)
      replace x5 := (hX.cell 5).trans (show _ = some (.bool x.done) from rfl)
      skip
      have RS := hSs.rds
      have RU := hUs.rds
      clear hSs hUs
      have hzy' : z.yes.length ≤ 1048576 := by omega
      have hzn' : z.no.length ≤ 1048576 := by omega
      obtain ⟨zs, zb, hdt⟩ := dtOut_form z
      have HZ := Lib.hid hdt
      clear hdt
      have yhD := hD.lt
      have yhX := hX.lt
      go_wp2_with fail
      refine (iDecidedText_is z S U' sc uc hzy' hzn' _ HZ.out _ (RS.below (by repeat (first | exact Below.refl _ _ | refine Below.alloc ?_ (by first | exact Nat.le_refl _ | (simp <;> omega)) _ | refine Below.setCell ?_ (by first | exact Nat.le_refl _ | (simp <;> omega)) _))) (RU.below (by repeat (first | exact Below.refl _ _ | refine Below.alloc ?_ (by first | exact Nat.le_refl _ | (simp <;> omega)) _ | refine Below.setCell ?_ (by first | exact Nat.le_refl _ | (simp <;> omega)) _))) (HT.below (by repeat (first | exact Below.refl _ _ | refine Below.alloc ?_ (by first | exact Nat.le_refl _ | (simp <;> omega)) _ | refine Below.setCell ?_ (by first | exact Nat.le_refl _ | (simp <;> omega)) _)))).mono ?_
      rintro e w14 ⟨rfl, hb14⟩
      have hq14 : Below w13.heap.size w13 w14 := bth (by repeat (first | exact Below.refl _ _ | refine Below.alloc ?_ (by first | exact Nat.le_refl _ | (simp <;> omega)) _ | refine Below.setCell ?_ (by first | exact Nat.le_refl _ | (simp <;> omega)) _)) hb14
      replace HB := bth HB hq14
      replace hR := hR.below hq14
      replace HT := HT.below hq14
      replace RS := RS.below hq14
      replace RU := RU.below hq14
      replace hD := hD.below hq14 hD.lt
      replace b0 := (hD.cell 0).trans (show _ = some (.int .i64 d.id) from rfl)
      replace b1 := (hD.cell 1).trans (show _ = some (.int .i64 d.day) from rfl)
      replace b2 := (hD.cell 2).trans (show _ = some (.int .i64 d.need) from rfl)
      replace b3 := (hD.cell 3).trans (show _ = some (.slice Y d.yes.length yc) from rfl)
      replace b4 := (hD.cell 4).trans (show _ = some (.slice N' d.no.length nc) from rfl)
      replace b5 := (hD.cell 5).trans (show _ = some (.bool d.done) from rfl)
      replace hX := hX.below hq14 hX.lt
      replace x0 := (hX.cell 0).trans (show _ = some (.int .i64 x.id) from rfl)
      replace x1 := (hX.cell 1).trans (show _ = some (.int .i64 x.day) from rfl)
      replace x2 := (hX.cell 2).trans (show _ = some (.int .i64 x.need) from rfl)
      replace x3 := (hX.cell 3).trans (show _ = some (.slice P x.yes.length pc) from rfl)
      replace x4 := (hX.cell 4).trans (show _ = some (.slice Q' x.no.length qc) from rfl)
      replace x5 := (hX.cell 5).trans (show _ = some (.bool x.done) from rfl)
      have hZ : Blk w14 (w13.heap.size) 35 #[.int .i64 z.id, .int .i64 z.day, .int .i64 z.need, .slice S z.yes.length sc, .slice U' z.no.length uc, .bool z.done] := Blk.below (by repeat (first | exact Blk.new _ _ _ | exact Blk.new2 _ _ _ _ | exact Blk.new3 _ _ _ _ _ | exact Blk.new4 _ _ _ _ _ _ | refine Blk.alloc ?_ _)) hb14 (by simp <;> omega)
      have z0 := (hZ.cell 0).trans (show _ = some (.int .i64 z.id) from rfl)
      have z1 := (hZ.cell 1).trans (show _ = some (.int .i64 z.day) from rfl)
      have z2 := (hZ.cell 2).trans (show _ = some (.int .i64 z.need) from rfl)
      have z3 := (hZ.cell 3).trans (show _ = some (.slice S z.yes.length sc) from rfl)
      have z4 := (hZ.cell 4).trans (show _ = some (.slice U' z.no.length uc) from rfl)
      have z5 := (hZ.cell 5).trans (show _ = some (.bool z.done) from rfl)
      have yhD := hD.lt
      have yhX := hX.lt
      have yhZ := hZ.lt
      go_wp2_with fail
      refine (sDecidedText_is z S U' sc uc hzy' hzn' _ HZ.out _ (RS.below (by repeat (first | exact Below.refl _ _ | refine Below.alloc ?_ (by first | exact Nat.le_refl _ | (simp <;> omega)) _ | refine Below.setCell ?_ (by first | exact Nat.le_refl _ | (simp <;> omega)) _))) (RU.below (by repeat (first | exact Below.refl _ _ | refine Below.alloc ?_ (by first | exact Nat.le_refl _ | (simp <;> omega)) _ | refine Below.setCell ?_ (by first | exact Nat.le_refl _ | (simp <;> omega)) _)))).mono ?_
      rintro e w15 ⟨rfl, hb15⟩
      have hq15 : Below w14.heap.size w14 w15 := bth (by repeat (first | exact Below.refl _ _ | refine Below.alloc ?_ (by first | exact Nat.le_refl _ | (simp <;> omega)) _ | refine Below.setCell ?_ (by first | exact Nat.le_refl _ | (simp <;> omega)) _)) hb15
      replace HB := bth HB hq15
      replace hR := hR.below hq15
      replace HT := HT.below hq15
      replace RS := RS.below hq15
      replace RU := RU.below hq15
      replace hD := hD.below hq15 hD.lt
      replace b0 := (hD.cell 0).trans (show _ = some (.int .i64 d.id) from rfl)
      replace b1 := (hD.cell 1).trans (show _ = some (.int .i64 d.day) from rfl)
      replace b2 := (hD.cell 2).trans (show _ = some (.int .i64 d.need) from rfl)
      replace b3 := (hD.cell 3).trans (show _ = some (.slice Y d.yes.length yc) from rfl)
      replace b4 := (hD.cell 4).trans (show _ = some (.slice N' d.no.length nc) from rfl)
      replace b5 := (hD.cell 5).trans (show _ = some (.bool d.done) from rfl)
      replace hX := hX.below hq15 hX.lt
      replace x0 := (hX.cell 0).trans (show _ = some (.int .i64 x.id) from rfl)
      replace x1 := (hX.cell 1).trans (show _ = some (.int .i64 x.day) from rfl)
      replace x2 := (hX.cell 2).trans (show _ = some (.int .i64 x.need) from rfl)
      replace x3 := (hX.cell 3).trans (show _ = some (.slice P x.yes.length pc) from rfl)
      replace x4 := (hX.cell 4).trans (show _ = some (.slice Q' x.no.length qc) from rfl)
      replace x5 := (hX.cell 5).trans (show _ = some (.bool x.done) from rfl)
      replace hZ := hZ.below hq15 hZ.lt
      replace z0 := (hZ.cell 0).trans (show _ = some (.int .i64 z.id) from rfl)
      replace z1 := (hZ.cell 1).trans (show _ = some (.int .i64 z.day) from rfl)
      replace z2 := (hZ.cell 2).trans (show _ = some (.int .i64 z.need) from rfl)
      replace z3 := (hZ.cell 3).trans (show _ = some (.slice S z.yes.length sc) from rfl)
      replace z4 := (hZ.cell 4).trans (show _ = some (.slice U' z.no.length uc) from rfl)
      replace z5 := (hZ.cell 5).trans (show _ = some (.bool z.done) from rfl)
      go_wp2
      go_ret
      exact ⟨rfl, (bth HB (by repeat (first | exact Below.refl _ _ | refine Below.alloc ?_ (by first | exact Nat.le_refl _ | (simp <;> omega)) _ | refine Below.setCell ?_ (by first | exact Nat.le_refl _ | (simp <;> omega)) _)))⟩
    · skip
      obtain ⟨ma, mb, hmo⟩ := mayOut_form x m t
      have HM := Lib.hid hmo
      have HX : Hid (x.done = false) := Lib.hid (Bool.eq_false_iff.2 hxd)
      clear hmo hxd
      have yhD := hD.lt
      go_wp2_with fail
      refine (iMay_is x P Q' pc qc hxy' hxn' m t _ HM.out _ (RP.below (by repeat (first | exact Below.refl _ _ | refine Below.alloc ?_ (by first | exact Nat.le_refl _ | (simp <;> omega)) _ | refine Below.setCell ?_ (by first | exact Nat.le_refl _ | (simp <;> omega)) _))) (RQ.below (by repeat (first | exact Below.refl _ _ | refine Below.alloc ?_ (by first | exact Nat.le_refl _ | (simp <;> omega)) _ | refine Below.setCell ?_ (by first | exact Nat.le_refl _ | (simp <;> omega)) _)))).mono ?_
      rintro e w11 ⟨rfl, hb11⟩
      have hq11 : Below w10.heap.size w10 w11 := bth (by repeat (first | exact Below.refl _ _ | refine Below.alloc ?_ (by first | exact Nat.le_refl _ | (simp <;> omega)) _ | refine Below.setCell ?_ (by first | exact Nat.le_refl _ | (simp <;> omega)) _)) hb11
      replace HB := bth HB hq11
      replace hR := hR.below hq11
      replace HT := HT.below hq11
      replace RP := RP.below hq11
      replace RQ := RQ.below hq11
      replace hD := hD.below hq11 hD.lt
      replace b0 := (hD.cell 0).trans (show _ = some (.int .i64 d.id) from rfl)
      replace b1 := (hD.cell 1).trans (show _ = some (.int .i64 d.day) from rfl)
      replace b2 := (hD.cell 2).trans (show _ = some (.int .i64 d.need) from rfl)
      replace b3 := (hD.cell 3).trans (show _ = some (.slice Y d.yes.length yc) from rfl)
      replace b4 := (hD.cell 4).trans (show _ = some (.slice N' d.no.length nc) from rfl)
      replace b5 := (hD.cell 5).trans (show _ = some (.bool d.done) from rfl)
      have hX : Blk w11 (w10.heap.size) 35 #[.int .i64 x.id, .int .i64 x.day, .int .i64 x.need, .slice P x.yes.length pc, .slice Q' x.no.length qc, .bool x.done] := Blk.below (by repeat (first | exact Blk.new _ _ _ | exact Blk.new2 _ _ _ _ | exact Blk.new3 _ _ _ _ _ | exact Blk.new4 _ _ _ _ _ _ | refine Blk.alloc ?_ _)) hb11 (by simp <;> omega)
      have x0 := (hX.cell 0).trans (show _ = some (.int .i64 x.id) from rfl)
      have x1 := (hX.cell 1).trans (show _ = some (.int .i64 x.day) from rfl)
      have x2 := (hX.cell 2).trans (show _ = some (.int .i64 x.need) from rfl)
      have x3 := (hX.cell 3).trans (show _ = some (.slice P x.yes.length pc) from rfl)
      have x4 := (hX.cell 4).trans (show _ = some (.slice Q' x.no.length qc) from rfl)
      have x5 := (hX.cell 5).trans (show _ = some (.bool x.done) from rfl)
      have yhD := hD.lt
      have yhX := hX.lt
      go_wp2_with fail
      refine (sMay_is x P Q' pc qc hxy' hxn' hPn.out hQn.out m t _ HM.out _ (RP.below (by repeat (first | exact Below.refl _ _ | refine Below.alloc ?_ (by first | exact Nat.le_refl _ | (simp <;> omega)) _ | refine Below.setCell ?_ (by first | exact Nat.le_refl _ | (simp <;> omega)) _))) (RQ.below (by repeat (first | exact Below.refl _ _ | refine Below.alloc ?_ (by first | exact Nat.le_refl _ | (simp <;> omega)) _ | refine Below.setCell ?_ (by first | exact Nat.le_refl _ | (simp <;> omega)) _)))).mono ?_
      rintro e w12 ⟨rfl, hb12⟩
      have hq12 : Below w11.heap.size w11 w12 := bth (by repeat (first | exact Below.refl _ _ | refine Below.alloc ?_ (by first | exact Nat.le_refl _ | (simp <;> omega)) _ | refine Below.setCell ?_ (by first | exact Nat.le_refl _ | (simp <;> omega)) _)) hb12
      replace HB := bth HB hq12
      replace hR := hR.below hq12
      replace HT := HT.below hq12
      replace RP := RP.below hq12
      replace RQ := RQ.below hq12
      replace hD := hD.below hq12 hD.lt
      replace b0 := (hD.cell 0).trans (show _ = some (.int .i64 d.id) from rfl)
      replace b1 := (hD.cell 1).trans (show _ = some (.int .i64 d.day) from rfl)
      replace b2 := (hD.cell 2).trans (show _ = some (.int .i64 d.need) from rfl)
      replace b3 := (hD.cell 3).trans (show _ = some (.slice Y d.yes.length yc) from rfl)
      replace b4 := (hD.cell 4).trans (show _ = some (.slice N' d.no.length nc) from rfl)
      replace b5 := (hD.cell 5).trans (show _ = some (.bool d.done) from rfl)
      replace hX := hX.below hq12 hX.lt
      replace x0 := (hX.cell 0).trans (show _ = some (.int .i64 x.id) from rfl)
      replace x1 := (hX.cell 1).trans (show _ = some (.int .i64 x.day) from rfl)
      replace x2 := (hX.cell 2).trans (show _ = some (.int .i64 x.need) from rfl)
      replace x3 := (hX.cell 3).trans (show _ = some (.slice P x.yes.length pc) from rfl)
      replace x4 := (hX.cell 4).trans (show _ = some (.slice Q' x.no.length qc) from rfl)
      replace x5 := (hX.cell 5).trans (show _ = some (.bool x.done) from rfl)
      clear RP RQ
      rw [HX.out] at x5
      cases ma
      · skip
        have yhD := hD.lt
        have yhX := hX.lt
        go_wp2_with fail
        refine (drawDt_is A c cs hcs _ (hR.below (by repeat (first | exact Below.refl _ _ | refine Below.alloc ?_ (by first | exact Nat.le_refl _ | (simp <;> omega)) _ | refine Below.setCell ?_ (by first | exact Nat.le_refl _ | (simp <;> omega)) _)))).mono ?_
        rintro e w13 ⟨z, S, U', sc, uc, rfl, hzy, hzn, hSs, hUs, hb13⟩
        have hq13 : Below w12.heap.size w12 w13 := bth (by repeat (first | exact Below.refl _ _ | refine Below.alloc ?_ (by first | exact Nat.le_refl _ | (simp <;> omega)) _ | refine Below.setCell ?_ (by first | exact Nat.le_refl _ | (simp <;> omega)) _)) hb13
        replace HB := bth HB hq13
        replace hR := hR.below hq13
        replace HT := HT.below hq13
        replace hD := hD.below hq13 hD.lt
        replace b0 := (hD.cell 0).trans (show _ = some (.int .i64 d.id) from rfl)
        replace b1 := (hD.cell 1).trans (show _ = some (.int .i64 d.day) from rfl)
        replace b2 := (hD.cell 2).trans (show _ = some (.int .i64 d.need) from rfl)
        replace b3 := (hD.cell 3).trans (show _ = some (.slice Y d.yes.length yc) from rfl)
        replace b4 := (hD.cell 4).trans (show _ = some (.slice N' d.no.length nc) from rfl)
        replace b5 := (hD.cell 5).trans (show _ = some (.bool d.done) from rfl)
        replace hX := hX.below hq13 hX.lt
        replace x0 := (hX.cell 0).trans (show _ = some (.int .i64 x.id) from rfl)
        replace x1 := (hX.cell 1).trans (show _ = some (.int .i64 x.day) from rfl)
        replace x2 := (hX.cell 2).trans (show _ = some (.int .i64 x.need) from rfl)
        replace x3 := (hX.cell 3).trans (show _ = some (.slice P x.yes.length pc) from rfl)
        replace x4 := (hX.cell 4).trans (show _ = some (.slice Q' x.no.length qc) from rfl)
        replace x5 := (hX.cell 5).trans (show _ = some (.bool x.done) from rfl)
        skip
        have RS := hSs.rds
        have RU := hUs.rds
        clear hSs hUs
        have hzy' : z.yes.length ≤ 1048576 := by omega
        have hzn' : z.no.length ≤ 1048576 := by omega
        obtain ⟨zs, zb, hdt⟩ := dtOut_form z
        have HZ := Lib.hid hdt
        clear hdt
        have yhD := hD.lt
        have yhX := hX.lt
        go_wp2_with fail
        refine (iDecidedText_is z S U' sc uc hzy' hzn' _ HZ.out _ (RS.below (by repeat (first | exact Below.refl _ _ | refine Below.alloc ?_ (by first | exact Nat.le_refl _ | (simp <;> omega)) _ | refine Below.setCell ?_ (by first | exact Nat.le_refl _ | (simp <;> omega)) _))) (RU.below (by repeat (first | exact Below.refl _ _ | refine Below.alloc ?_ (by first | exact Nat.le_refl _ | (simp <;> omega)) _ | refine Below.setCell ?_ (by first | exact Nat.le_refl _ | (simp <;> omega)) _))) (HT.below (by repeat (first | exact Below.refl _ _ | refine Below.alloc ?_ (by first | exact Nat.le_refl _ | (simp <;> omega)) _ | refine Below.setCell ?_ (by first | exact Nat.le_refl _ | (simp <;> omega)) _)))).mono ?_
        rintro e w14 ⟨rfl, hb14⟩
        have hq14 : Below w13.heap.size w13 w14 := bth (by repeat (first | exact Below.refl _ _ | refine Below.alloc ?_ (by first | exact Nat.le_refl _ | (simp <;> omega)) _ | refine Below.setCell ?_ (by first | exact Nat.le_refl _ | (simp <;> omega)) _)) hb14
        replace HB := bth HB hq14
        replace hR := hR.below hq14
        replace HT := HT.below hq14
        replace RS := RS.below hq14
        replace RU := RU.below hq14
        replace hD := hD.below hq14 hD.lt
        replace b0 := (hD.cell 0).trans (show _ = some (.int .i64 d.id) from rfl)
        replace b1 := (hD.cell 1).trans (show _ = some (.int .i64 d.day) from rfl)
        replace b2 := (hD.cell 2).trans (show _ = some (.int .i64 d.need) from rfl)
        replace b3 := (hD.cell 3).trans (show _ = some (.slice Y d.yes.length yc) from rfl)
        replace b4 := (hD.cell 4).trans (show _ = some (.slice N' d.no.length nc) from rfl)
        replace b5 := (hD.cell 5).trans (show _ = some (.bool d.done) from rfl)
        replace hX := hX.below hq14 hX.lt
        replace x0 := (hX.cell 0).trans (show _ = some (.int .i64 x.id) from rfl)
        replace x1 := (hX.cell 1).trans (show _ = some (.int .i64 x.day) from rfl)
        replace x2 := (hX.cell 2).trans (show _ = some (.int .i64 x.need) from rfl)
        replace x3 := (hX.cell 3).trans (show _ = some (.slice P x.yes.length pc) from rfl)
        replace x4 := (hX.cell 4).trans (show _ = some (.slice Q' x.no.length qc) from rfl)
        replace x5 := (hX.cell 5).trans (show _ = some (.bool x.done) from rfl)
        have hZ : Blk w14 (w13.heap.size) 35 #[.int .i64 z.id, .int .i64 z.day, .int .i64 z.need, .slice S z.yes.length sc, .slice U' z.no.length uc, .bool z.done] := Blk.below (by repeat (first | exact Blk.new _ _ _ | exact Blk.new2 _ _ _ _ | exact Blk.new3 _ _ _ _ _ | exact Blk.new4 _ _ _ _ _ _ | refine Blk.alloc ?_ _)) hb14 (by simp <;> omega)
        have z0 := (hZ.cell 0).trans (show _ = some (.int .i64 z.id) from rfl)
        have z1 := (hZ.cell 1).trans (show _ = some (.int .i64 z.day) from rfl)
        have z2 := (hZ.cell 2).trans (show _ = some (.int .i64 z.need) from rfl)
        have z3 := (hZ.cell 3).trans (show _ = some (.slice S z.yes.length sc) from rfl)
        have z4 := (hZ.cell 4).trans (show _ = some (.slice U' z.no.length uc) from rfl)
        have z5 := (hZ.cell 5).trans (show _ = some (.bool z.done) from rfl)
        have yhD := hD.lt
        have yhX := hX.lt
        have yhZ := hZ.lt
        go_wp2_with fail
        refine (sDecidedText_is z S U' sc uc hzy' hzn' _ HZ.out _ (RS.below (by repeat (first | exact Below.refl _ _ | refine Below.alloc ?_ (by first | exact Nat.le_refl _ | (simp <;> omega)) _ | refine Below.setCell ?_ (by first | exact Nat.le_refl _ | (simp <;> omega)) _))) (RU.below (by repeat (first | exact Below.refl _ _ | refine Below.alloc ?_ (by first | exact Nat.le_refl _ | (simp <;> omega)) _ | refine Below.setCell ?_ (by first | exact Nat.le_refl _ | (simp <;> omega)) _)))).mono ?_
        rintro e w15 ⟨rfl, hb15⟩
        have hq15 : Below w14.heap.size w14 w15 := bth (by repeat (first | exact Below.refl _ _ | refine Below.alloc ?_ (by first | exact Nat.le_refl _ | (simp <;> omega)) _ | refine Below.setCell ?_ (by first | exact Nat.le_refl _ | (simp <;> omega)) _)) hb15
        replace HB := bth HB hq15
        replace hR := hR.below hq15
        replace HT := HT.below hq15
        replace RS := RS.below hq15
        replace RU := RU.below hq15
        replace hD := hD.below hq15 hD.lt
        replace b0 := (hD.cell 0).trans (show _ = some (.int .i64 d.id) from rfl)
        replace b1 := (hD.cell 1).trans (show _ = some (.int .i64 d.day) from rfl)
        replace b2 := (hD.cell 2).trans (show _ = some (.int .i64 d.need) from rfl)
        replace b3 := (hD.cell 3).trans (show _ = some (.slice Y d.yes.length yc) from rfl)
        replace b4 := (hD.cell 4).trans (show _ = some (.slice N' d.no.length nc) from rfl)
        replace b5 := (hD.cell 5).trans (show _ = some (.bool d.done) from rfl)
        replace hX := hX.below hq15 hX.lt
        replace x0 := (hX.cell 0).trans (show _ = some (.int .i64 x.id) from rfl)
        replace x1 := (hX.cell 1).trans (show _ = some (.int .i64 x.day) from rfl)
        replace x2 := (hX.cell 2).trans (show _ = some (.int .i64 x.need) from rfl)
        replace x3 := (hX.cell 3).trans (show _ = some (.slice P x.yes.length pc) from rfl)
        replace x4 := (hX.cell 4).trans (show _ = some (.slice Q' x.no.length qc) from rfl)
        replace x5 := (hX.cell 5).trans (show _ = some (.bool x.done) from rfl)
        replace hZ := hZ.below hq15 hZ.lt
        replace z0 := (hZ.cell 0).trans (show _ = some (.int .i64 z.id) from rfl)
        replace z1 := (hZ.cell 1).trans (show _ = some (.int .i64 z.day) from rfl)
        replace z2 := (hZ.cell 2).trans (show _ = some (.int .i64 z.need) from rfl)
        replace z3 := (hZ.cell 3).trans (show _ = some (.slice S z.yes.length sc) from rfl)
        replace z4 := (hZ.cell 4).trans (show _ = some (.slice U' z.no.length uc) from rfl)
        replace z5 := (hZ.cell 5).trans (show _ = some (.bool z.done) from rfl)
        go_wp2
        go_ret
        exact ⟨rfl, (bth HB (by repeat (first | exact Below.refl _ _ | refine Below.alloc ?_ (by first | exact Nat.le_refl _ | (simp <;> omega)) _ | refine Below.setCell ?_ (by first | exact Nat.le_refl _ | (simp <;> omega)) _)))⟩
      · skip
        have yhD := hD.lt
        have yhX := hX.lt
        go_wp2_with fail
        refine (drawDt_is A c cs hcs _ (hR.below (by repeat (first | exact Below.refl _ _ | refine Below.alloc ?_ (by first | exact Nat.le_refl _ | (simp <;> omega)) _ | refine Below.setCell ?_ (by first | exact Nat.le_refl _ | (simp <;> omega)) _)))).mono ?_
        rintro e w13 ⟨z, S, U', sc, uc, rfl, hzy, hzn, hSs, hUs, hb13⟩
        have hq13 : Below w12.heap.size w12 w13 := bth (by repeat (first | exact Below.refl _ _ | refine Below.alloc ?_ (by first | exact Nat.le_refl _ | (simp <;> omega)) _ | refine Below.setCell ?_ (by first | exact Nat.le_refl _ | (simp <;> omega)) _)) hb13
        replace HB := bth HB hq13
        replace hR := hR.below hq13
        replace HT := HT.below hq13
        replace hD := hD.below hq13 hD.lt
        replace b0 := (hD.cell 0).trans (show _ = some (.int .i64 d.id) from rfl)
        replace b1 := (hD.cell 1).trans (show _ = some (.int .i64 d.day) from rfl)
        replace b2 := (hD.cell 2).trans (show _ = some (.int .i64 d.need) from rfl)
        replace b3 := (hD.cell 3).trans (show _ = some (.slice Y d.yes.length yc) from rfl)
        replace b4 := (hD.cell 4).trans (show _ = some (.slice N' d.no.length nc) from rfl)
        replace b5 := (hD.cell 5).trans (show _ = some (.bool d.done) from rfl)
        replace hX := hX.below hq13 hX.lt
        replace x0 := (hX.cell 0).trans (show _ = some (.int .i64 x.id) from rfl)
        replace x1 := (hX.cell 1).trans (show _ = some (.int .i64 x.day) from rfl)
        replace x2 := (hX.cell 2).trans (show _ = some (.int .i64 x.need) from rfl)
        replace x3 := (hX.cell 3).trans (show _ = some (.slice P x.yes.length pc) from rfl)
        replace x4 := (hX.cell 4).trans (show _ = some (.slice Q' x.no.length qc) from rfl)
        replace x5 := (hX.cell 5).trans (show _ = some (.bool x.done) from rfl)
        skip
        have RS := hSs.rds
        have RU := hUs.rds
        clear hSs hUs
        have hzy' : z.yes.length ≤ 1048576 := by omega
        have hzn' : z.no.length ≤ 1048576 := by omega
        obtain ⟨zs, zb, hdt⟩ := dtOut_form z
        have HZ := Lib.hid hdt
        clear hdt
        have yhD := hD.lt
        have yhX := hX.lt
        go_wp2_with fail
        refine (iDecidedText_is z S U' sc uc hzy' hzn' _ HZ.out _ (RS.below (by repeat (first | exact Below.refl _ _ | refine Below.alloc ?_ (by first | exact Nat.le_refl _ | (simp <;> omega)) _ | refine Below.setCell ?_ (by first | exact Nat.le_refl _ | (simp <;> omega)) _))) (RU.below (by repeat (first | exact Below.refl _ _ | refine Below.alloc ?_ (by first | exact Nat.le_refl _ | (simp <;> omega)) _ | refine Below.setCell ?_ (by first | exact Nat.le_refl _ | (simp <;> omega)) _))) (HT.below (by repeat (first | exact Below.refl _ _ | refine Below.alloc ?_ (by first | exact Nat.le_refl _ | (simp <;> omega)) _ | refine Below.setCell ?_ (by first | exact Nat.le_refl _ | (simp <;> omega)) _)))).mono ?_
        rintro e w14 ⟨rfl, hb14⟩
        have hq14 : Below w13.heap.size w13 w14 := bth (by repeat (first | exact Below.refl _ _ | refine Below.alloc ?_ (by first | exact Nat.le_refl _ | (simp <;> omega)) _ | refine Below.setCell ?_ (by first | exact Nat.le_refl _ | (simp <;> omega)) _)) hb14
        replace HB := bth HB hq14
        replace hR := hR.below hq14
        replace HT := HT.below hq14
        replace RS := RS.below hq14
        replace RU := RU.below hq14
        replace hD := hD.below hq14 hD.lt
        replace b0 := (hD.cell 0).trans (show _ = some (.int .i64 d.id) from rfl)
        replace b1 := (hD.cell 1).trans (show _ = some (.int .i64 d.day) from rfl)
        replace b2 := (hD.cell 2).trans (show _ = some (.int .i64 d.need) from rfl)
        replace b3 := (hD.cell 3).trans (show _ = some (.slice Y d.yes.length yc) from rfl)
        replace b4 := (hD.cell 4).trans (show _ = some (.slice N' d.no.length nc) from rfl)
        replace b5 := (hD.cell 5).trans (show _ = some (.bool d.done) from rfl)
        replace hX := hX.below hq14 hX.lt
        replace x0 := (hX.cell 0).trans (show _ = some (.int .i64 x.id) from rfl)
        replace x1 := (hX.cell 1).trans (show _ = some (.int .i64 x.day) from rfl)
        replace x2 := (hX.cell 2).trans (show _ = some (.int .i64 x.need) from rfl)
        replace x3 := (hX.cell 3).trans (show _ = some (.slice P x.yes.length pc) from rfl)
        replace x4 := (hX.cell 4).trans (show _ = some (.slice Q' x.no.length qc) from rfl)
        replace x5 := (hX.cell 5).trans (show _ = some (.bool x.done) from rfl)
        have hZ : Blk w14 (w13.heap.size) 35 #[.int .i64 z.id, .int .i64 z.day, .int .i64 z.need, .slice S z.yes.length sc, .slice U' z.no.length uc, .bool z.done] := Blk.below (by repeat (first | exact Blk.new _ _ _ | exact Blk.new2 _ _ _ _ | exact Blk.new3 _ _ _ _ _ | exact Blk.new4 _ _ _ _ _ _ | refine Blk.alloc ?_ _)) hb14 (by simp <;> omega)
        have z0 := (hZ.cell 0).trans (show _ = some (.int .i64 z.id) from rfl)
        have z1 := (hZ.cell 1).trans (show _ = some (.int .i64 z.day) from rfl)
        have z2 := (hZ.cell 2).trans (show _ = some (.int .i64 z.need) from rfl)
        have z3 := (hZ.cell 3).trans (show _ = some (.slice S z.yes.length sc) from rfl)
        have z4 := (hZ.cell 4).trans (show _ = some (.slice U' z.no.length uc) from rfl)
        have z5 := (hZ.cell 5).trans (show _ = some (.bool z.done) from rfl)
        have yhD := hD.lt
        have yhX := hX.lt
        have yhZ := hZ.lt
        go_wp2_with fail
        refine (sDecidedText_is z S U' sc uc hzy' hzn' _ HZ.out _ (RS.below (by repeat (first | exact Below.refl _ _ | refine Below.alloc ?_ (by first | exact Nat.le_refl _ | (simp <;> omega)) _ | refine Below.setCell ?_ (by first | exact Nat.le_refl _ | (simp <;> omega)) _))) (RU.below (by repeat (first | exact Below.refl _ _ | refine Below.alloc ?_ (by first | exact Nat.le_refl _ | (simp <;> omega)) _ | refine Below.setCell ?_ (by first | exact Nat.le_refl _ | (simp <;> omega)) _)))).mono ?_
        rintro e w15 ⟨rfl, hb15⟩
        have hq15 : Below w14.heap.size w14 w15 := bth (by repeat (first | exact Below.refl _ _ | refine Below.alloc ?_ (by first | exact Nat.le_refl _ | (simp <;> omega)) _ | refine Below.setCell ?_ (by first | exact Nat.le_refl _ | (simp <;> omega)) _)) hb15
        replace HB := bth HB hq15
        replace hR := hR.below hq15
        replace HT := HT.below hq15
        replace RS := RS.below hq15
        replace RU := RU.below hq15
        replace hD := hD.below hq15 hD.lt
        replace b0 := (hD.cell 0).trans (show _ = some (.int .i64 d.id) from rfl)
        replace b1 := (hD.cell 1).trans (show _ = some (.int .i64 d.day) from rfl)
        replace b2 := (hD.cell 2).trans (show _ = some (.int .i64 d.need) from rfl)
        replace b3 := (hD.cell 3).trans (show _ = some (.slice Y d.yes.length yc) from rfl)
        replace b4 := (hD.cell 4).trans (show _ = some (.slice N' d.no.length nc) from rfl)
        replace b5 := (hD.cell 5).trans (show _ = some (.bool d.done) from rfl)
        replace hX := hX.below hq15 hX.lt
        replace x0 := (hX.cell 0).trans (show _ = some (.int .i64 x.id) from rfl)
        replace x1 := (hX.cell 1).trans (show _ = some (.int .i64 x.day) from rfl)
        replace x2 := (hX.cell 2).trans (show _ = some (.int .i64 x.need) from rfl)
        replace x3 := (hX.cell 3).trans (show _ = some (.slice P x.yes.length pc) from rfl)
        replace x4 := (hX.cell 4).trans (show _ = some (.slice Q' x.no.length qc) from rfl)
        replace x5 := (hX.cell 5).trans (show _ = some (.bool x.done) from rfl)
        replace hZ := hZ.below hq15 hZ.lt
        replace z0 := (hZ.cell 0).trans (show _ = some (.int .i64 z.id) from rfl)
        replace z1 := (hZ.cell 1).trans (show _ = some (.int .i64 z.day) from rfl)
        replace z2 := (hZ.cell 2).trans (show _ = some (.int .i64 z.need) from rfl)
        replace z3 := (hZ.cell 3).trans (show _ = some (.slice S z.yes.length sc) from rfl)
        replace z4 := (hZ.cell 4).trans (show _ = some (.slice U' z.no.length uc) from rfl)
        replace z5 := (hZ.cell 5).trans (show _ = some (.bool z.done) from rfl)
        go_wp2
        go_ret
        exact ⟨rfl, (bth HB (by repeat (first | exact Below.refl _ _ | refine Below.alloc ?_ (by first | exact Nat.le_refl _ | (simp <;> omega)) _ | refine Below.setCell ?_ (by first | exact Nat.le_refl _ | (simp <;> omega)) _)))⟩
  · skip
    have hl := decB_len hd
    have hnd : inB d.need 1 3 = true := by simp only [decB, Bool.and_eq_true] at hd; exact hd.2.2.1
    have HD := Lib.hid hd
    have HND := Lib.hid hnd
    cases hf : firstTo (swP d) (d.side.length + 1)
    · skip
      cases ha : d.ado
      · skip
        have E1 : Hid (swOut d = .tuple #[.int .i64 0, .bool false]) := Lib.hid (by simp [swOut, hd, hf])
        have E2 : Hid (wasOut d = .tuple #[.bool false, .bool true]) := Lib.hid (by simp [wasOut, hd, ha])
        have EL : Hid (psL d = d.no) := Lib.hid (by simp [psL, hd, Dec.side, ha])
        have HA : Hid (adoB d.need d.yes.length d.no.length = false) := Lib.hid ha
        clear hd hf ha hnd
        go_wp2_with fail
        refine (iSwitches_is d Y N' yc nc hy hn _ E1.out _ (RY.below (by repeat (first | exact Below.refl _ _ | refine Below.alloc ?_ (by first | exact Nat.le_refl _ | (simp <;> omega)) _ | refine Below.setCell ?_ (by first | exact Nat.le_refl _ | (simp <;> omega)) _))) (RN.below (by repeat (first | exact Below.refl _ _ | refine Below.alloc ?_ (by first | exact Nat.le_refl _ | (simp <;> omega)) _ | refine Below.setCell ?_ (by first | exact Nat.le_refl _ | (simp <;> omega)) _)))).mono ?_
        rintro e w2 ⟨rfl, hb2⟩
        have hq2 : Below w1.heap.size w1 w2 := bth (by repeat (first | exact Below.refl _ _ | refine Below.alloc ?_ (by first | exact Nat.le_refl _ | (simp <;> omega)) _ | refine Below.setCell ?_ (by first | exact Nat.le_refl _ | (simp <;> omega)) _)) hb2
        replace HB := bth HB hq2
        replace hR := hR.below hq2
        replace HT := HT.below hq2
        replace RY := RY.below hq2
        replace RN := RN.below hq2
        have hD : Blk w2 (w1.heap.size) 35 #[.int .i64 d.id, .int .i64 d.day, .int .i64 d.need, .slice Y d.yes.length yc, .slice N' d.no.length nc, .bool d.done] := Blk.below (by repeat (first | exact Blk.new _ _ _ | exact Blk.new2 _ _ _ _ | exact Blk.new3 _ _ _ _ _ | exact Blk.new4 _ _ _ _ _ _ | refine Blk.alloc ?_ _)) hb2 (by simp <;> omega)
        have b0 := (hD.cell 0).trans (show _ = some (.int .i64 d.id) from rfl)
        have b1 := (hD.cell 1).trans (show _ = some (.int .i64 d.day) from rfl)
        have b2 := (hD.cell 2).trans (show _ = some (.int .i64 d.need) from rfl)
        have b3 := (hD.cell 3).trans (show _ = some (.slice Y d.yes.length yc) from rfl)
        have b4 := (hD.cell 4).trans (show _ = some (.slice N' d.no.length nc) from rfl)
        have b5 := (hD.cell 5).trans (show _ = some (.bool d.done) from rfl)
        have yhD := hD.lt
        go_wp2_with fail
        refine (sSwitches_is d Y N' yc nc hy hn hYn.out hNn.out _ E1.out _ (RY.below (by repeat (first | exact Below.refl _ _ | refine Below.alloc ?_ (by first | exact Nat.le_refl _ | (simp <;> omega)) _ | refine Below.setCell ?_ (by first | exact Nat.le_refl _ | (simp <;> omega)) _))) (RN.below (by repeat (first | exact Below.refl _ _ | refine Below.alloc ?_ (by first | exact Nat.le_refl _ | (simp <;> omega)) _ | refine Below.setCell ?_ (by first | exact Nat.le_refl _ | (simp <;> omega)) _)))).mono ?_
        rintro e w3 ⟨rfl, hb3⟩
        have hq3 : Below w2.heap.size w2 w3 := bth (by repeat (first | exact Below.refl _ _ | refine Below.alloc ?_ (by first | exact Nat.le_refl _ | (simp <;> omega)) _ | refine Below.setCell ?_ (by first | exact Nat.le_refl _ | (simp <;> omega)) _)) hb3
        replace HB := bth HB hq3
        replace hR := hR.below hq3
        replace HT := HT.below hq3
        replace RY := RY.below hq3
        replace RN := RN.below hq3
        replace hD := hD.below hq3 hD.lt
        replace b0 := (hD.cell 0).trans (show _ = some (.int .i64 d.id) from rfl)
        replace b1 := (hD.cell 1).trans (show _ = some (.int .i64 d.day) from rfl)
        replace b2 := (hD.cell 2).trans (show _ = some (.int .i64 d.need) from rfl)
        replace b3 := (hD.cell 3).trans (show _ = some (.slice Y d.yes.length yc) from rfl)
        replace b4 := (hD.cell 4).trans (show _ = some (.slice N' d.no.length nc) from rfl)
        replace b5 := (hD.cell 5).trans (show _ = some (.bool d.done) from rfl)
        have yhD := hD.lt
        go_wp2_with fail
        refine (iWasAdopted_is d Y N' yc nc hy hn _ E2.out _ (RY.below (by repeat (first | exact Below.refl _ _ | refine Below.alloc ?_ (by first | exact Nat.le_refl _ | (simp <;> omega)) _ | refine Below.setCell ?_ (by first | exact Nat.le_refl _ | (simp <;> omega)) _))) (RN.below (by repeat (first | exact Below.refl _ _ | refine Below.alloc ?_ (by first | exact Nat.le_refl _ | (simp <;> omega)) _ | refine Below.setCell ?_ (by first | exact Nat.le_refl _ | (simp <;> omega)) _)))).mono ?_
        rintro e w4 ⟨rfl, hb4⟩
        have hq4 : Below w3.heap.size w3 w4 := bth (by repeat (first | exact Below.refl _ _ | refine Below.alloc ?_ (by first | exact Nat.le_refl _ | (simp <;> omega)) _ | refine Below.setCell ?_ (by first | exact Nat.le_refl _ | (simp <;> omega)) _)) hb4
        replace HB := bth HB hq4
        replace hR := hR.below hq4
        replace HT := HT.below hq4
        replace RY := RY.below hq4
        replace RN := RN.below hq4
        replace hD := hD.below hq4 hD.lt
        replace b0 := (hD.cell 0).trans (show _ = some (.int .i64 d.id) from rfl)
        replace b1 := (hD.cell 1).trans (show _ = some (.int .i64 d.day) from rfl)
        replace b2 := (hD.cell 2).trans (show _ = some (.int .i64 d.need) from rfl)
        replace b3 := (hD.cell 3).trans (show _ = some (.slice Y d.yes.length yc) from rfl)
        replace b4 := (hD.cell 4).trans (show _ = some (.slice N' d.no.length nc) from rfl)
        replace b5 := (hD.cell 5).trans (show _ = some (.bool d.done) from rfl)
        have yhD := hD.lt
        go_wp2_with fail
        refine (iPrevL_is d Y N' yc nc d.no true EL.out HD.out hy hn hYn.out hNn.out _ (RY.below (by repeat (first | exact Below.refl _ _ | refine Below.alloc ?_ (by first | exact Nat.le_refl _ | (simp <;> omega)) _ | refine Below.setCell ?_ (by first | exact Nat.le_refl _ | (simp <;> omega)) _))) (RN.below (by repeat (first | exact Below.refl _ _ | refine Below.alloc ?_ (by first | exact Nat.le_refl _ | (simp <;> omega)) _ | refine Below.setCell ?_ (by first | exact Nat.le_refl _ | (simp <;> omega)) _)))).mono ?_
        rintro e w5 ⟨A7, c7, rfl, O7, hb5⟩
        have hq5 : Below w4.heap.size w4 w5 := bth (by repeat (first | exact Below.refl _ _ | refine Below.alloc ?_ (by first | exact Nat.le_refl _ | (simp <;> omega)) _ | refine Below.setCell ?_ (by first | exact Nat.le_refl _ | (simp <;> omega)) _)) hb5
        replace HB := bth HB hq5
        replace hR := hR.below hq5
        replace HT := HT.below hq5
        replace RY := RY.below hq5
        replace RN := RN.below hq5
        replace hD := hD.below hq5 hD.lt
        replace b0 := (hD.cell 0).trans (show _ = some (.int .i64 d.id) from rfl)
        replace b1 := (hD.cell 1).trans (show _ = some (.int .i64 d.day) from rfl)
        replace b2 := (hD.cell 2).trans (show _ = some (.int .i64 d.need) from rfl)
        replace b3 := (hD.cell 3).trans (show _ = some (.slice Y d.yes.length yc) from rfl)
        replace b4 := (hD.cell 4).trans (show _ = some (.slice N' d.no.length nc) from rfl)
        replace b5 := (hD.cell 5).trans (show _ = some (.bool d.done) from rfl)
        have Q7 := O7.rds (hf := intC_len)
        clear O7
        have yhD := hD.lt
        go_wp2_with fail
        refine (sWasAdopted_is d Y N' yc nc hy hn _ E2.out _ (RY.below (by repeat (first | exact Below.refl _ _ | refine Below.alloc ?_ (by first | exact Nat.le_refl _ | (simp <;> omega)) _ | refine Below.setCell ?_ (by first | exact Nat.le_refl _ | (simp <;> omega)) _))) (RN.below (by repeat (first | exact Below.refl _ _ | refine Below.alloc ?_ (by first | exact Nat.le_refl _ | (simp <;> omega)) _ | refine Below.setCell ?_ (by first | exact Nat.le_refl _ | (simp <;> omega)) _)))).mono ?_
        rintro e w6 ⟨rfl, hb6⟩
        have hq6 : Below w5.heap.size w5 w6 := bth (by repeat (first | exact Below.refl _ _ | refine Below.alloc ?_ (by first | exact Nat.le_refl _ | (simp <;> omega)) _ | refine Below.setCell ?_ (by first | exact Nat.le_refl _ | (simp <;> omega)) _)) hb6
        replace HB := bth HB hq6
        replace hR := hR.below hq6
        replace HT := HT.below hq6
        replace RY := RY.below hq6
        replace RN := RN.below hq6
        replace Q7 := Q7.below hq6
        replace hD := hD.below hq6 hD.lt
        replace b0 := (hD.cell 0).trans (show _ = some (.int .i64 d.id) from rfl)
        replace b1 := (hD.cell 1).trans (show _ = some (.int .i64 d.day) from rfl)
        replace b2 := (hD.cell 2).trans (show _ = some (.int .i64 d.need) from rfl)
        replace b3 := (hD.cell 3).trans (show _ = some (.slice Y d.yes.length yc) from rfl)
        replace b4 := (hD.cell 4).trans (show _ = some (.slice N' d.no.length nc) from rfl)
        replace b5 := (hD.cell 5).trans (show _ = some (.bool d.done) from rfl)
        have yhD := hD.lt
        go_wp2_with fail
        refine (isValidDecided_is d Y N' yc nc hy hn true HD.out _ (RY.below (by repeat (first | exact Below.refl _ _ | refine Below.alloc ?_ (by first | exact Nat.le_refl _ | (simp <;> omega)) _ | refine Below.setCell ?_ (by first | exact Nat.le_refl _ | (simp <;> omega)) _))) (RN.below (by repeat (first | exact Below.refl _ _ | refine Below.alloc ?_ (by first | exact Nat.le_refl _ | (simp <;> omega)) _ | refine Below.setCell ?_ (by first | exact Nat.le_refl _ | (simp <;> omega)) _)))).mono ?_
        rintro e w7 ⟨rfl, hb7⟩
        have hq7 : Below w6.heap.size w6 w7 := bth (by repeat (first | exact Below.refl _ _ | refine Below.alloc ?_ (by first | exact Nat.le_refl _ | (simp <;> omega)) _ | refine Below.setCell ?_ (by first | exact Nat.le_refl _ | (simp <;> omega)) _)) hb7
        replace HB := bth HB hq7
        replace hR := hR.below hq7
        replace HT := HT.below hq7
        replace RY := RY.below hq7
        replace RN := RN.below hq7
        replace Q7 := Q7.below hq7
        replace hD := hD.below hq7 hD.lt
        replace b0 := (hD.cell 0).trans (show _ = some (.int .i64 d.id) from rfl)
        replace b1 := (hD.cell 1).trans (show _ = some (.int .i64 d.day) from rfl)
        replace b2 := (hD.cell 2).trans (show _ = some (.int .i64 d.need) from rfl)
        replace b3 := (hD.cell 3).trans (show _ = some (.slice Y d.yes.length yc) from rfl)
        replace b4 := (hD.cell 4).trans (show _ = some (.slice N' d.no.length nc) from rfl)
        replace b5 := (hD.cell 5).trans (show _ = some (.bool d.done) from rfl)
        have yhD := hD.lt
        go_wp2_with fail
        refine (sPrevL_is d Y N' yc nc d.no true EL.out HD.out hy hn hYn.out hNn.out _ (RY.below (by repeat (first | exact Below.refl _ _ | refine Below.alloc ?_ (by first | exact Nat.le_refl _ | (simp <;> omega)) _ | refine Below.setCell ?_ (by first | exact Nat.le_refl _ | (simp <;> omega)) _))) (RN.below (by repeat (first | exact Below.refl _ _ | refine Below.alloc ?_ (by first | exact Nat.le_refl _ | (simp <;> omega)) _ | refine Below.setCell ?_ (by first | exact Nat.le_refl _ | (simp <;> omega)) _)))).mono ?_
        rintro e w8 ⟨A8, c8, rfl, O8, hb8⟩
        have hq8 : Below w7.heap.size w7 w8 := bth (by repeat (first | exact Below.refl _ _ | refine Below.alloc ?_ (by first | exact Nat.le_refl _ | (simp <;> omega)) _ | refine Below.setCell ?_ (by first | exact Nat.le_refl _ | (simp <;> omega)) _)) hb8
        replace HB := bth HB hq8
        replace hR := hR.below hq8
        replace HT := HT.below hq8
        replace RY := RY.below hq8
        replace RN := RN.below hq8
        replace Q7 := Q7.below hq8
        replace hD := hD.below hq8 hD.lt
        replace b0 := (hD.cell 0).trans (show _ = some (.int .i64 d.id) from rfl)
        replace b1 := (hD.cell 1).trans (show _ = some (.int .i64 d.day) from rfl)
        replace b2 := (hD.cell 2).trans (show _ = some (.int .i64 d.need) from rfl)
        replace b3 := (hD.cell 3).trans (show _ = some (.slice Y d.yes.length yc) from rfl)
        replace b4 := (hD.cell 4).trans (show _ = some (.slice N' d.no.length nc) from rfl)
        replace b5 := (hD.cell 5).trans (show _ = some (.bool d.done) from rfl)
        have Q8 := O8.rds (hf := intC_len)
        clear O8
        have yhD := hD.lt
        go_wp2_with fail
        refine (rInts_is A7 A8 c7 c8 d.no (by first | omega | simp) _ (Q7.below (by repeat (first | exact Below.refl _ _ | refine Below.alloc ?_ (by first | exact Nat.le_refl _ | (simp <;> omega)) _ | refine Below.setCell ?_ (by first | exact Nat.le_refl _ | (simp <;> omega)) _))) (Q8.below (by repeat (first | exact Below.refl _ _ | refine Below.alloc ?_ (by first | exact Nat.le_refl _ | (simp <;> omega)) _ | refine Below.setCell ?_ (by first | exact Nat.le_refl _ | (simp <;> omega)) _)))).mono ?_
        rintro e w9 ⟨rfl, hb9⟩
        have hq9 : Below w8.heap.size w8 w9 := bth (by repeat (first | exact Below.refl _ _ | refine Below.alloc ?_ (by first | exact Nat.le_refl _ | (simp <;> omega)) _ | refine Below.setCell ?_ (by first | exact Nat.le_refl _ | (simp <;> omega)) _)) hb9
        replace HB := bth HB hq9
        replace hR := hR.below hq9
        replace HT := HT.below hq9
        replace RY := RY.below hq9
        replace RN := RN.below hq9
        replace Q7 := Q7.below hq9
        replace Q8 := Q8.below hq9
        replace hD := hD.below hq9 hD.lt
        replace b0 := (hD.cell 0).trans (show _ = some (.int .i64 d.id) from rfl)
        replace b1 := (hD.cell 1).trans (show _ = some (.int .i64 d.day) from rfl)
        replace b2 := (hD.cell 2).trans (show _ = some (.int .i64 d.need) from rfl)
        replace b3 := (hD.cell 3).trans (show _ = some (.slice Y d.yes.length yc) from rfl)
        replace b4 := (hD.cell 4).trans (show _ = some (.slice N' d.no.length nc) from rfl)
        replace b5 := (hD.cell 5).trans (show _ = some (.bool d.done) from rfl)
        clear Q7 Q8
        have yhD := hD.lt
        go_wp2_with fail
        refine (isAdoptedT_is d.need d.yes.length d.no.length HND.out (by omega) (by omega) (by omega) (by omega) false HA.out _).mono ?_
        rintro e w10 ⟨rfl, hb10⟩
        have hq10 : Below w9.heap.size w9 w10 := bth (by repeat (first | exact Below.refl _ _ | refine Below.alloc ?_ (by first | exact Nat.le_refl _ | (simp <;> omega)) _ | refine Below.setCell ?_ (by first | exact Nat.le_refl _ | (simp <;> omega)) _)) hb10
        replace HB := bth HB hq10
        replace hR := hR.below hq10
        replace HT := HT.below hq10
        replace RY := RY.below hq10
        replace RN := RN.below hq10
        replace hD := hD.below hq10 hD.lt
        replace b0 := (hD.cell 0).trans (show _ = some (.int .i64 d.id) from rfl)
        replace b1 := (hD.cell 1).trans (show _ = some (.int .i64 d.day) from rfl)
        replace b2 := (hD.cell 2).trans (show _ = some (.int .i64 d.need) from rfl)
        replace b3 := (hD.cell 3).trans (show _ = some (.slice Y d.yes.length yc) from rfl)
        replace b4 := (hD.cell 4).trans (show _ = some (.slice N' d.no.length nc) from rfl)
        replace b5 := (hD.cell 5).trans (show _ = some (.bool d.done) from rfl)
        have yhD := hD.lt
        clear RY RN
        have yhD := hD.lt
        go_wp2_with fail
        refine (drawMay_is A c cs hcs _ (hR.below (by repeat (first | exact Below.refl _ _ | refine Below.alloc ?_ (by first | exact Nat.le_refl _ | (simp <;> omega)) _ | refine Below.setCell ?_ (by first | exact Nat.le_refl _ | (simp <;> omega)) _)))).mono ?_
        rintro e w11 ⟨x, P, Q', pc, qc, m, t, rfl, hxy, hxn, hm, ht, hPs, hQs, hb11⟩
        have hq11 : Below w10.heap.size w10 w11 := bth (by repeat (first | exact Below.refl _ _ | refine Below.alloc ?_ (by first | exact Nat.le_refl _ | (simp <;> omega)) _ | refine Below.setCell ?_ (by first | exact Nat.le_refl _ | (simp <;> omega)) _)) hb11
        replace HB := bth HB hq11
        replace hR := hR.below hq11
        replace HT := HT.below hq11
        replace hD := hD.below hq11 hD.lt
        replace b0 := (hD.cell 0).trans (show _ = some (.int .i64 d.id) from rfl)
        replace b1 := (hD.cell 1).trans (show _ = some (.int .i64 d.day) from rfl)
        replace b2 := (hD.cell 2).trans (show _ = some (.int .i64 d.need) from rfl)
        replace b3 := (hD.cell 3).trans (show _ = some (.slice Y d.yes.length yc) from rfl)
        replace b4 := (hD.cell 4).trans (show _ = some (.slice N' d.no.length nc) from rfl)
        replace b5 := (hD.cell 5).trans (show _ = some (.bool d.done) from rfl)
        have RP := hPs.rds
        have RQ := hQs.rds
        have hPn := Lib.hid hPs.nil
        have hQn := Lib.hid hQs.nil
        clear hPs hQs
        have hxy' : x.yes.length ≤ 1048576 := by omega
        have hxn' : x.no.length ≤ 1048576 := by omega
        by_cases hxd : x.done = true
        · skip
          obtain ⟨mb, hmo⟩ := mayOut_done (m := m) (t := t) hxd
          have HM := Lib.hid hmo
          have HX : Hid (x.done = true) := Lib.hid hxd
          clear hmo hxd
          have yhD := hD.lt
          go_wp2_with fail
          refine (iMay_is x P Q' pc qc hxy' hxn' m t _ HM.out _ (RP.below (by repeat (first | exact Below.refl _ _ | refine Below.alloc ?_ (by first | exact Nat.le_refl _ | (simp <;> omega)) _ | refine Below.setCell ?_ (by first | exact Nat.le_refl _ | (simp <;> omega)) _))) (RQ.below (by repeat (first | exact Below.refl _ _ | refine Below.alloc ?_ (by first | exact Nat.le_refl _ | (simp <;> omega)) _ | refine Below.setCell ?_ (by first | exact Nat.le_refl _ | (simp <;> omega)) _)))).mono ?_
          rintro e w12 ⟨rfl, hb12⟩
          have hq12 : Below w11.heap.size w11 w12 := bth (by repeat (first | exact Below.refl _ _ | refine Below.alloc ?_ (by first | exact Nat.le_refl _ | (simp <;> omega)) _ | refine Below.setCell ?_ (by first | exact Nat.le_refl _ | (simp <;> omega)) _)) hb12
          replace HB := bth HB hq12
          replace hR := hR.below hq12
          replace HT := HT.below hq12
          replace RP := RP.below hq12
          replace RQ := RQ.below hq12
          replace hD := hD.below hq12 hD.lt
          replace b0 := (hD.cell 0).trans (show _ = some (.int .i64 d.id) from rfl)
          replace b1 := (hD.cell 1).trans (show _ = some (.int .i64 d.day) from rfl)
          replace b2 := (hD.cell 2).trans (show _ = some (.int .i64 d.need) from rfl)
          replace b3 := (hD.cell 3).trans (show _ = some (.slice Y d.yes.length yc) from rfl)
          replace b4 := (hD.cell 4).trans (show _ = some (.slice N' d.no.length nc) from rfl)
          replace b5 := (hD.cell 5).trans (show _ = some (.bool d.done) from rfl)
          have hX : Blk w12 (w11.heap.size) 35 #[.int .i64 x.id, .int .i64 x.day, .int .i64 x.need, .slice P x.yes.length pc, .slice Q' x.no.length qc, .bool x.done] := Blk.below (by repeat (first | exact Blk.new _ _ _ | exact Blk.new2 _ _ _ _ | exact Blk.new3 _ _ _ _ _ | exact Blk.new4 _ _ _ _ _ _ | refine Blk.alloc ?_ _)) hb12 (by simp <;> omega)
          have x0 := (hX.cell 0).trans (show _ = some (.int .i64 x.id) from rfl)
          have x1 := (hX.cell 1).trans (show _ = some (.int .i64 x.day) from rfl)
          have x2 := (hX.cell 2).trans (show _ = some (.int .i64 x.need) from rfl)
          have x3 := (hX.cell 3).trans (show _ = some (.slice P x.yes.length pc) from rfl)
          have x4 := (hX.cell 4).trans (show _ = some (.slice Q' x.no.length qc) from rfl)
          have x5 := (hX.cell 5).trans (show _ = some (.bool x.done) from rfl)
          have yhD := hD.lt
          have yhX := hX.lt
          go_wp2_with fail
          refine (sMay_is x P Q' pc qc hxy' hxn' hPn.out hQn.out m t _ HM.out _ (RP.below (by repeat (first | exact Below.refl _ _ | refine Below.alloc ?_ (by first | exact Nat.le_refl _ | (simp <;> omega)) _ | refine Below.setCell ?_ (by first | exact Nat.le_refl _ | (simp <;> omega)) _))) (RQ.below (by repeat (first | exact Below.refl _ _ | refine Below.alloc ?_ (by first | exact Nat.le_refl _ | (simp <;> omega)) _ | refine Below.setCell ?_ (by first | exact Nat.le_refl _ | (simp <;> omega)) _)))).mono ?_
          rintro e w13 ⟨rfl, hb13⟩
          have hq13 : Below w12.heap.size w12 w13 := bth (by repeat (first | exact Below.refl _ _ | refine Below.alloc ?_ (by first | exact Nat.le_refl _ | (simp <;> omega)) _ | refine Below.setCell ?_ (by first | exact Nat.le_refl _ | (simp <;> omega)) _)) hb13
          replace HB := bth HB hq13
          replace hR := hR.below hq13
          replace HT := HT.below hq13
          replace RP := RP.below hq13
          replace RQ := RQ.below hq13
          replace hD := hD.below hq13 hD.lt
          replace b0 := (hD.cell 0).trans (show _ = some (.int .i64 d.id) from rfl)
          replace b1 := (hD.cell 1).trans (show _ = some (.int .i64 d.day) from rfl)
          replace b2 := (hD.cell 2).trans (show _ = some (.int .i64 d.need) from rfl)
          replace b3 := (hD.cell 3).trans (show _ = some (.slice Y d.yes.length yc) from rfl)
          replace b4 := (hD.cell 4).trans (show _ = some (.slice N' d.no.length nc) from rfl)
          replace b5 := (hD.cell 5).trans (show _ = some (.bool d.done) from rfl)
          replace hX := hX.below hq13 hX.lt
          replace x0 := (hX.cell 0).trans (show _ = some (.int .i64 x.id) from rfl)
          replace x1 := (hX.cell 1).trans (show _ = some (.int .i64 x.day) from rfl)
          replace x2 := (hX.cell 2).trans (show _ = some (.int .i64 x.need) from rfl)
          replace x3 := (hX.cell 3).trans (show _ = some (.slice P x.yes.length pc) from rfl)
          replace x4 := (hX.cell 4).trans (show _ = some (.slice Q' x.no.length qc) from rfl)
          replace x5 := (hX.cell 5).trans (show _ = some (.bool x.done) from rfl)
          clear RP RQ
          rw [HX.out] at x5
          have yhD := hD.lt
          have yhX := hX.lt
          go_wp2_with fail
          refine (drawDt_is A c cs hcs _ (hR.below (by repeat (first | exact Below.refl _ _ | refine Below.alloc ?_ (by first | exact Nat.le_refl _ | (simp <;> omega)) _ | refine Below.setCell ?_ (by first | exact Nat.le_refl _ | (simp <;> omega)) _)))).mono ?_
          rintro e w14 ⟨z, S, U', sc, uc, rfl, hzy, hzn, hSs, hUs, hb14⟩
          have hq14 : Below w13.heap.size w13 w14 := bth (by repeat (first | exact Below.refl _ _ | refine Below.alloc ?_ (by first | exact Nat.le_refl _ | (simp <;> omega)) _ | refine Below.setCell ?_ (by first | exact Nat.le_refl _ | (simp <;> omega)) _)) hb14
          replace HB := bth HB hq14
          replace hR := hR.below hq14
          replace HT := HT.below hq14
          replace hD := hD.below hq14 hD.lt
          replace b0 := (hD.cell 0).trans (show _ = some (.int .i64 d.id) from rfl)
          replace b1 := (hD.cell 1).trans (show _ = some (.int .i64 d.day) from rfl)
          replace b2 := (hD.cell 2).trans (show _ = some (.int .i64 d.need) from rfl)
          replace b3 := (hD.cell 3).trans (show _ = some (.slice Y d.yes.length yc) from rfl)
          replace b4 := (hD.cell 4).trans (show _ = some (.slice N' d.no.length nc) from rfl)
          replace b5 := (hD.cell 5).trans (show _ = some (.bool d.done) from rfl)
          replace hX := hX.below hq14 hX.lt
          replace x0 := (hX.cell 0).trans (show _ = some (.int .i64 x.id) from rfl)
          replace x1 := (hX.cell 1).trans (show _ = some (.int .i64 x.day) from rfl)
          replace x2 := (hX.cell 2).trans (show _ = some (.int .i64 x.need) from rfl)
          replace x3 := (hX.cell 3).trans (show _ = some (.slice P x.yes.length pc) from rfl)
          replace x4 := (hX.cell 4).trans (show _ = some (.slice Q' x.no.length qc) from rfl)
          replace x5 := (hX.cell 5).trans (show _ = some (.bool x.done) from rfl)
          skip
          have RS := hSs.rds
          have RU := hUs.rds
          clear hSs hUs
          have hzy' : z.yes.length ≤ 1048576 := by omega
          have hzn' : z.no.length ≤ 1048576 := by omega
          obtain ⟨zs, zb, hdt⟩ := dtOut_form z
          have HZ := Lib.hid hdt
          clear hdt
          have yhD := hD.lt
          have yhX := hX.lt
          go_wp2_with fail
          refine (iDecidedText_is z S U' sc uc hzy' hzn' _ HZ.out _ (RS.below (by repeat (first | exact Below.refl _ _ | refine Below.alloc ?_ (by first | exact Nat.le_refl _ | (simp <;> omega)) _ | refine Below.setCell ?_ (by first | exact Nat.le_refl _ | (simp <;> omega)) _))) (RU.below (by repeat (first | exact Below.refl _ _ | refine Below.alloc ?_ (by first | exact Nat.le_refl _ | (simp <;> omega)) _ | refine Below.setCell ?_ (by first | exact Nat.le_refl _ | (simp <;> omega)) _))) (HT.below (by repeat (first | exact Below.refl _ _ | refine Below.alloc ?_ (by first | exact Nat.le_refl _ | (simp <;> omega)) _ | refine Below.setCell ?_ (by first | exact Nat.le_refl _ | (simp <;> omega)) _)))).mono ?_
          rintro e w15 ⟨rfl, hb15⟩
          have hq15 : Below w14.heap.size w14 w15 := bth (by repeat (first | exact Below.refl _ _ | refine Below.alloc ?_ (by first | exact Nat.le_refl _ | (simp <;> omega)) _ | refine Below.setCell ?_ (by first | exact Nat.le_refl _ | (simp <;> omega)) _)) hb15
          replace HB := bth HB hq15
          replace hR := hR.below hq15
          replace HT := HT.below hq15
          replace RS := RS.below hq15
          replace RU := RU.below hq15
          replace hD := hD.below hq15 hD.lt
          replace b0 := (hD.cell 0).trans (show _ = some (.int .i64 d.id) from rfl)
          replace b1 := (hD.cell 1).trans (show _ = some (.int .i64 d.day) from rfl)
          replace b2 := (hD.cell 2).trans (show _ = some (.int .i64 d.need) from rfl)
          replace b3 := (hD.cell 3).trans (show _ = some (.slice Y d.yes.length yc) from rfl)
          replace b4 := (hD.cell 4).trans (show _ = some (.slice N' d.no.length nc) from rfl)
          replace b5 := (hD.cell 5).trans (show _ = some (.bool d.done) from rfl)
          replace hX := hX.below hq15 hX.lt
          replace x0 := (hX.cell 0).trans (show _ = some (.int .i64 x.id) from rfl)
          replace x1 := (hX.cell 1).trans (show _ = some (.int .i64 x.day) from rfl)
          replace x2 := (hX.cell 2).trans (show _ = some (.int .i64 x.need) from rfl)
          replace x3 := (hX.cell 3).trans (show _ = some (.slice P x.yes.length pc) from rfl)
          replace x4 := (hX.cell 4).trans (show _ = some (.slice Q' x.no.length qc) from rfl)
          replace x5 := (hX.cell 5).trans (show _ = some (.bool x.done) from rfl)
          have hZ : Blk w15 (w14.heap.size) 35 #[.int .i64 z.id, .int .i64 z.day, .int .i64 z.need, .slice S z.yes.length sc, .slice U' z.no.length uc, .bool z.done] := Blk.below (by repeat (first | exact Blk.new _ _ _ | exact Blk.new2 _ _ _ _ | exact Blk.new3 _ _ _ _ _ | exact Blk.new4 _ _ _ _ _ _ | refine Blk.alloc ?_ _)) hb15 (by simp <;> omega)
          have z0 := (hZ.cell 0).trans (show _ = some (.int .i64 z.id) from rfl)
          have z1 := (hZ.cell 1).trans (show _ = some (.int .i64 z.day) from rfl)
          have z2 := (hZ.cell 2).trans (show _ = some (.int .i64 z.need) from rfl)
          have z3 := (hZ.cell 3).trans (show _ = some (.slice S z.yes.length sc) from rfl)
          have z4 := (hZ.cell 4).trans (show _ = some (.slice U' z.no.length uc) from rfl)
          have z5 := (hZ.cell 5).trans (show _ = some (.bool z.done) from rfl)
          have yhD := hD.lt
          have yhX := hX.lt
          have yhZ := hZ.lt
          go_wp2_with fail
          refine (sDecidedText_is z S U' sc uc hzy' hzn' _ HZ.out _ (RS.below (by repeat (first | exact Below.refl _ _ | refine Below.alloc ?_ (by first | exact Nat.le_refl _ | (simp <;> omega)) _ | refine Below.setCell ?_ (by first | exact Nat.le_refl _ | (simp <;> omega)) _))) (RU.below (by repeat (first | exact Below.refl _ _ | refine Below.alloc ?_ (by first | exact Nat.le_refl _ | (simp <;> omega)) _ | refine Below.setCell ?_ (by first | exact Nat.le_refl _ | (simp <;> omega)) _)))).mono ?_
          rintro e w16 ⟨rfl, hb16⟩
          have hq16 : Below w15.heap.size w15 w16 := bth (by repeat (first | exact Below.refl _ _ | refine Below.alloc ?_ (by first | exact Nat.le_refl _ | (simp <;> omega)) _ | refine Below.setCell ?_ (by first | exact Nat.le_refl _ | (simp <;> omega)) _)) hb16
          replace HB := bth HB hq16
          replace hR := hR.below hq16
          replace HT := HT.below hq16
          replace RS := RS.below hq16
          replace RU := RU.below hq16
          replace hD := hD.below hq16 hD.lt
          replace b0 := (hD.cell 0).trans (show _ = some (.int .i64 d.id) from rfl)
          replace b1 := (hD.cell 1).trans (show _ = some (.int .i64 d.day) from rfl)
          replace b2 := (hD.cell 2).trans (show _ = some (.int .i64 d.need) from rfl)
          replace b3 := (hD.cell 3).trans (show _ = some (.slice Y d.yes.length yc) from rfl)
          replace b4 := (hD.cell 4).trans (show _ = some (.slice N' d.no.length nc) from rfl)
          replace b5 := (hD.cell 5).trans (show _ = some (.bool d.done) from rfl)
          replace hX := hX.below hq16 hX.lt
          replace x0 := (hX.cell 0).trans (show _ = some (.int .i64 x.id) from rfl)
          replace x1 := (hX.cell 1).trans (show _ = some (.int .i64 x.day) from rfl)
          replace x2 := (hX.cell 2).trans (show _ = some (.int .i64 x.need) from rfl)
          replace x3 := (hX.cell 3).trans (show _ = some (.slice P x.yes.length pc) from rfl)
          replace x4 := (hX.cell 4).trans (show _ = some (.slice Q' x.no.length qc) from rfl)
          replace x5 := (hX.cell 5).trans (show _ = some (.bool x.done) from rfl)
          replace hZ := hZ.below hq16 hZ.lt
          replace z0 := (hZ.cell 0).trans (show _ = some (.int .i64 z.id) from rfl)
          replace z1 := (hZ.cell 1).trans (show _ = some (.int .i64 z.day) from rfl)
          replace z2 := (hZ.cell 2).trans (show _ = some (.int .i64 z.need) from rfl)
          replace z3 := (hZ.cell 3).trans (show _ = some (.slice S z.yes.length sc) from rfl)
          replace z4 := (hZ.cell 4).trans (show _ = some (.slice U' z.no.length uc) from rfl)
          replace z5 := (hZ.cell 5).trans (show _ = some (.bool z.done) from rfl)
          go_wp2
          go_ret
          exact ⟨rfl, (bth HB (by repeat (first | exact Below.refl _ _ | refine Below.alloc ?_ (by first | exact Nat.le_refl _ | (simp <;> omega)) _ | refine Below.setCell ?_ (by first | exact Nat.le_refl _ | (simp <;> omega)) _)))⟩
        · skip
          obtain ⟨ma, mb, hmo⟩ := mayOut_form x m t
          have HM := Lib.hid hmo
          have HX : Hid (x.done = false) := Lib.hid (Bool.eq_false_iff.2 hxd)
          clear hmo hxd
          have yhD := hD.lt
          go_wp2_with fail
          refine (iMay_is x P Q' pc qc hxy' hxn' m t _ HM.out _ (RP.below (by repeat (first | exact Below.refl _ _ | refine Below.alloc ?_ (by first | exact Nat.le_refl _ | (simp <;> omega)) _ | refine Below.setCell ?_ (by first | exact Nat.le_refl _ | (simp <;> omega)) _))) (RQ.below (by repeat (first | exact Below.refl _ _ | refine Below.alloc ?_ (by first | exact Nat.le_refl _ | (simp <;> omega)) _ | refine Below.setCell ?_ (by first | exact Nat.le_refl _ | (simp <;> omega)) _)))).mono ?_
          rintro e w12 ⟨rfl, hb12⟩
          have hq12 : Below w11.heap.size w11 w12 := bth (by repeat (first | exact Below.refl _ _ | refine Below.alloc ?_ (by first | exact Nat.le_refl _ | (simp <;> omega)) _ | refine Below.setCell ?_ (by first | exact Nat.le_refl _ | (simp <;> omega)) _)) hb12
          replace HB := bth HB hq12
          replace hR := hR.below hq12
          replace HT := HT.below hq12
          replace RP := RP.below hq12
          replace RQ := RQ.below hq12
          replace hD := hD.below hq12 hD.lt
          replace b0 := (hD.cell 0).trans (show _ = some (.int .i64 d.id) from rfl)
          replace b1 := (hD.cell 1).trans (show _ = some (.int .i64 d.day) from rfl)
          replace b2 := (hD.cell 2).trans (show _ = some (.int .i64 d.need) from rfl)
          replace b3 := (hD.cell 3).trans (show _ = some (.slice Y d.yes.length yc) from rfl)
          replace b4 := (hD.cell 4).trans (show _ = some (.slice N' d.no.length nc) from rfl)
          replace b5 := (hD.cell 5).trans (show _ = some (.bool d.done) from rfl)
          have hX : Blk w12 (w11.heap.size) 35 #[.int .i64 x.id, .int .i64 x.day, .int .i64 x.need, .slice P x.yes.length pc, .slice Q' x.no.length qc, .bool x.done] := Blk.below (by repeat (first | exact Blk.new _ _ _ | exact Blk.new2 _ _ _ _ | exact Blk.new3 _ _ _ _ _ | exact Blk.new4 _ _ _ _ _ _ | refine Blk.alloc ?_ _)) hb12 (by simp <;> omega)
          have x0 := (hX.cell 0).trans (show _ = some (.int .i64 x.id) from rfl)
          have x1 := (hX.cell 1).trans (show _ = some (.int .i64 x.day) from rfl)
          have x2 := (hX.cell 2).trans (show _ = some (.int .i64 x.need) from rfl)
          have x3 := (hX.cell 3).trans (show _ = some (.slice P x.yes.length pc) from rfl)
          have x4 := (hX.cell 4).trans (show _ = some (.slice Q' x.no.length qc) from rfl)
          have x5 := (hX.cell 5).trans (show _ = some (.bool x.done) from rfl)
          have yhD := hD.lt
          have yhX := hX.lt
          go_wp2_with fail
          refine (sMay_is x P Q' pc qc hxy' hxn' hPn.out hQn.out m t _ HM.out _ (RP.below (by repeat (first | exact Below.refl _ _ | refine Below.alloc ?_ (by first | exact Nat.le_refl _ | (simp <;> omega)) _ | refine Below.setCell ?_ (by first | exact Nat.le_refl _ | (simp <;> omega)) _))) (RQ.below (by repeat (first | exact Below.refl _ _ | refine Below.alloc ?_ (by first | exact Nat.le_refl _ | (simp <;> omega)) _ | refine Below.setCell ?_ (by first | exact Nat.le_refl _ | (simp <;> omega)) _)))).mono ?_
          rintro e w13 ⟨rfl, hb13⟩
          have hq13 : Below w12.heap.size w12 w13 := bth (by repeat (first | exact Below.refl _ _ | refine Below.alloc ?_ (by first | exact Nat.le_refl _ | (simp <;> omega)) _ | refine Below.setCell ?_ (by first | exact Nat.le_refl _ | (simp <;> omega)) _)) hb13
          replace HB := bth HB hq13
          replace hR := hR.below hq13
          replace HT := HT.below hq13
          replace RP := RP.below hq13
          replace RQ := RQ.below hq13
          replace hD := hD.below hq13 hD.lt
          replace b0 := (hD.cell 0).trans (show _ = some (.int .i64 d.id) from rfl)
          replace b1 := (hD.cell 1).trans (show _ = some (.int .i64 d.day) from rfl)
          replace b2 := (hD.cell 2).trans (show _ = some (.int .i64 d.need) from rfl)
          replace b3 := (hD.cell 3).trans (show _ = some (.slice Y d.yes.length yc) from rfl)
          replace b4 := (hD.cell 4).trans (show _ = some (.slice N' d.no.length nc) from rfl)
          replace b5 := (hD.cell 5).trans (show _ = some (.bool d.done) from rfl)
          replace hX := hX.below hq13 hX.lt
          replace x0 := (hX.cell 0).trans (show _ = some (.int .i64 x.id) from rfl)
          replace x1 := (hX.cell 1).trans (show _ = some (.int .i64 x.day) from rfl)
          replace x2 := (hX.cell 2).trans (show _ = some (.int .i64 x.need) from rfl)
          replace x3 := (hX.cell 3).trans (show _ = some (.slice P x.yes.length pc) from rfl)
          replace x4 := (hX.cell 4).trans (show _ = some (.slice Q' x.no.length qc) from rfl)
          replace x5 := (hX.cell 5).trans (show _ = some (.bool x.done) from rfl)
          clear RP RQ
          rw [HX.out] at x5
          cases ma
          · skip
            have yhD := hD.lt
            have yhX := hX.lt
            go_wp2_with fail
            refine (drawDt_is A c cs hcs _ (hR.below (by repeat (first | exact Below.refl _ _ | refine Below.alloc ?_ (by first | exact Nat.le_refl _ | (simp <;> omega)) _ | refine Below.setCell ?_ (by first | exact Nat.le_refl _ | (simp <;> omega)) _)))).mono ?_
            rintro e w14 ⟨z, S, U', sc, uc, rfl, hzy, hzn, hSs, hUs, hb14⟩
            have hq14 : Below w13.heap.size w13 w14 := bth (by repeat (first | exact Below.refl _ _ | refine Below.alloc ?_ (by first | exact Nat.le_refl _ | (simp <;> omega)) _ | refine Below.setCell ?_ (by first | exact Nat.le_refl _ | (simp <;> omega)) _)) hb14
            replace HB := bth HB hq14
            replace hR := hR.below hq14
            replace HT := HT.below hq14
            replace hD := hD.below hq14 hD.lt
            replace b0 := (hD.cell 0).trans (show _ = some (.int .i64 d.id) from rfl)
            replace b1 := (hD.cell 1).trans (show _ = some (.int .i64 d.day) from rfl)
            replace b2 := (hD.cell 2).trans (show _ = some (.int .i64 d.need) from rfl)
            replace b3 := (hD.cell 3).trans (show _ = some (.slice Y d.yes.length yc) from rfl)
            replace b4 := (hD.cell 4).trans (show _ = some (.slice N' d.no.length nc) from rfl)
            replace b5 := (hD.cell 5).trans (show _ = some (.bool d.done) from rfl)
            replace hX := hX.below hq14 hX.lt
            replace x0 := (hX.cell 0).trans (show _ = some (.int .i64 x.id) from rfl)
            replace x1 := (hX.cell 1).trans (show _ = some (.int .i64 x.day) from rfl)
            replace x2 := (hX.cell 2).trans (show _ = some (.int .i64 x.need) from rfl)
            replace x3 := (hX.cell 3).trans (show _ = some (.slice P x.yes.length pc) from rfl)
            replace x4 := (hX.cell 4).trans (show _ = some (.slice Q' x.no.length qc) from rfl)
            replace x5 := (hX.cell 5).trans (show _ = some (.bool x.done) from rfl)
            skip
            have RS := hSs.rds
            have RU := hUs.rds
            clear hSs hUs
            have hzy' : z.yes.length ≤ 1048576 := by omega
            have hzn' : z.no.length ≤ 1048576 := by omega
            obtain ⟨zs, zb, hdt⟩ := dtOut_form z
            have HZ := Lib.hid hdt
            clear hdt
            have yhD := hD.lt
            have yhX := hX.lt
            go_wp2_with fail
            refine (iDecidedText_is z S U' sc uc hzy' hzn' _ HZ.out _ (RS.below (by repeat (first | exact Below.refl _ _ | refine Below.alloc ?_ (by first | exact Nat.le_refl _ | (simp <;> omega)) _ | refine Below.setCell ?_ (by first | exact Nat.le_refl _ | (simp <;> omega)) _))) (RU.below (by repeat (first | exact Below.refl _ _ | refine Below.alloc ?_ (by first | exact Nat.le_refl _ | (simp <;> omega)) _ | refine Below.setCell ?_ (by first | exact Nat.le_refl _ | (simp <;> omega)) _))) (HT.below (by repeat (first | exact Below.refl _ _ | refine Below.alloc ?_ (by first | exact Nat.le_refl _ | (simp <;> omega)) _ | refine Below.setCell ?_ (by first | exact Nat.le_refl _ | (simp <;> omega)) _)))).mono ?_
            rintro e w15 ⟨rfl, hb15⟩
            have hq15 : Below w14.heap.size w14 w15 := bth (by repeat (first | exact Below.refl _ _ | refine Below.alloc ?_ (by first | exact Nat.le_refl _ | (simp <;> omega)) _ | refine Below.setCell ?_ (by first | exact Nat.le_refl _ | (simp <;> omega)) _)) hb15
            replace HB := bth HB hq15
            replace hR := hR.below hq15
            replace HT := HT.below hq15
            replace RS := RS.below hq15
            replace RU := RU.below hq15
            replace hD := hD.below hq15 hD.lt
            replace b0 := (hD.cell 0).trans (show _ = some (.int .i64 d.id) from rfl)
            replace b1 := (hD.cell 1).trans (show _ = some (.int .i64 d.day) from rfl)
            replace b2 := (hD.cell 2).trans (show _ = some (.int .i64 d.need) from rfl)
            replace b3 := (hD.cell 3).trans (show _ = some (.slice Y d.yes.length yc) from rfl)
            replace b4 := (hD.cell 4).trans (show _ = some (.slice N' d.no.length nc) from rfl)
            replace b5 := (hD.cell 5).trans (show _ = some (.bool d.done) from rfl)
            replace hX := hX.below hq15 hX.lt
            replace x0 := (hX.cell 0).trans (show _ = some (.int .i64 x.id) from rfl)
            replace x1 := (hX.cell 1).trans (show _ = some (.int .i64 x.day) from rfl)
            replace x2 := (hX.cell 2).trans (show _ = some (.int .i64 x.need) from rfl)
            replace x3 := (hX.cell 3).trans (show _ = some (.slice P x.yes.length pc) from rfl)
            replace x4 := (hX.cell 4).trans (show _ = some (.slice Q' x.no.length qc) from rfl)
            replace x5 := (hX.cell 5).trans (show _ = some (.bool x.done) from rfl)
            have hZ : Blk w15 (w14.heap.size) 35 #[.int .i64 z.id, .int .i64 z.day, .int .i64 z.need, .slice S z.yes.length sc, .slice U' z.no.length uc, .bool z.done] := Blk.below (by repeat (first | exact Blk.new _ _ _ | exact Blk.new2 _ _ _ _ | exact Blk.new3 _ _ _ _ _ | exact Blk.new4 _ _ _ _ _ _ | refine Blk.alloc ?_ _)) hb15 (by simp <;> omega)
            have z0 := (hZ.cell 0).trans (show _ = some (.int .i64 z.id) from rfl)
            have z1 := (hZ.cell 1).trans (show _ = some (.int .i64 z.day) from rfl)
            have z2 := (hZ.cell 2).trans (show _ = some (.int .i64 z.need) from rfl)
            have z3 := (hZ.cell 3).trans (show _ = some (.slice S z.yes.length sc) from rfl)
            have z4 := (hZ.cell 4).trans (show _ = some (.slice U' z.no.length uc) from rfl)
            have z5 := (hZ.cell 5).trans (show _ = some (.bool z.done) from rfl)
            have yhD := hD.lt
            have yhX := hX.lt
            have yhZ := hZ.lt
            go_wp2_with fail
            refine (sDecidedText_is z S U' sc uc hzy' hzn' _ HZ.out _ (RS.below (by repeat (first | exact Below.refl _ _ | refine Below.alloc ?_ (by first | exact Nat.le_refl _ | (simp <;> omega)) _ | refine Below.setCell ?_ (by first | exact Nat.le_refl _ | (simp <;> omega)) _))) (RU.below (by repeat (first | exact Below.refl _ _ | refine Below.alloc ?_ (by first | exact Nat.le_refl _ | (simp <;> omega)) _ | refine Below.setCell ?_ (by first | exact Nat.le_refl _ | (simp <;> omega)) _)))).mono ?_
            rintro e w16 ⟨rfl, hb16⟩
            have hq16 : Below w15.heap.size w15 w16 := bth (by repeat (first | exact Below.refl _ _ | refine Below.alloc ?_ (by first | exact Nat.le_refl _ | (simp <;> omega)) _ | refine Below.setCell ?_ (by first | exact Nat.le_refl _ | (simp <;> omega)) _)) hb16
            replace HB := bth HB hq16
            replace hR := hR.below hq16
            replace HT := HT.below hq16
            replace RS := RS.below hq16
            replace RU := RU.below hq16
            replace hD := hD.below hq16 hD.lt
            replace b0 := (hD.cell 0).trans (show _ = some (.int .i64 d.id) from rfl)
            replace b1 := (hD.cell 1).trans (show _ = some (.int .i64 d.day) from rfl)
            replace b2 := (hD.cell 2).trans (show _ = some (.int .i64 d.need) from rfl)
            replace b3 := (hD.cell 3).trans (show _ = some (.slice Y d.yes.length yc) from rfl)
            replace b4 := (hD.cell 4).trans (show _ = some (.slice N' d.no.length nc) from rfl)
            replace b5 := (hD.cell 5).trans (show _ = some (.bool d.done) from rfl)
            replace hX := hX.below hq16 hX.lt
            replace x0 := (hX.cell 0).trans (show _ = some (.int .i64 x.id) from rfl)
            replace x1 := (hX.cell 1).trans (show _ = some (.int .i64 x.day) from rfl)
            replace x2 := (hX.cell 2).trans (show _ = some (.int .i64 x.need) from rfl)
            replace x3 := (hX.cell 3).trans (show _ = some (.slice P x.yes.length pc) from rfl)
            replace x4 := (hX.cell 4).trans (show _ = some (.slice Q' x.no.length qc) from rfl)
            replace x5 := (hX.cell 5).trans (show _ = some (.bool x.done) from rfl)
            replace hZ := hZ.below hq16 hZ.lt
            replace z0 := (hZ.cell 0).trans (show _ = some (.int .i64 z.id) from rfl)
            replace z1 := (hZ.cell 1).trans (show _ = some (.int .i64 z.day) from rfl)
            replace z2 := (hZ.cell 2).trans (show _ = some (.int .i64 z.need) from rfl)
            replace z3 := (hZ.cell 3).trans (show _ = some (.slice S z.yes.length sc) from rfl)
            replace z4 := (hZ.cell 4).trans (show _ = some (.slice U' z.no.length uc) from rfl)
            replace z5 := (hZ.cell 5).trans (show _ = some (.bool z.done) from rfl)
            go_wp2
            go_ret
            exact ⟨rfl, (bth HB (by repeat (first | exact Below.refl _ _ | refine Below.alloc ?_ (by first | exact Nat.le_refl _ | (simp <;> omega)) _ | refine Below.setCell ?_ (by first | exact Nat.le_refl _ | (simp <;> omega)) _)))⟩
          · skip
            have yhD := hD.lt
            have yhX := hX.lt
            go_wp2_with fail
            refine (drawDt_is A c cs hcs _ (hR.below (by repeat (first | exact Below.refl _ _ | refine Below.alloc ?_ (by first | exact Nat.le_refl _ | (simp <;> omega)) _ | refine Below.setCell ?_ (by first | exact Nat.le_refl _ | (simp <;> omega)) _)))).mono ?_
            rintro e w14 ⟨z, S, U', sc, uc, rfl, hzy, hzn, hSs, hUs, hb14⟩
            have hq14 : Below w13.heap.size w13 w14 := bth (by repeat (first | exact Below.refl _ _ | refine Below.alloc ?_ (by first | exact Nat.le_refl _ | (simp <;> omega)) _ | refine Below.setCell ?_ (by first | exact Nat.le_refl _ | (simp <;> omega)) _)) hb14
            replace HB := bth HB hq14
            replace hR := hR.below hq14
            replace HT := HT.below hq14
            replace hD := hD.below hq14 hD.lt
            replace b0 := (hD.cell 0).trans (show _ = some (.int .i64 d.id) from rfl)
            replace b1 := (hD.cell 1).trans (show _ = some (.int .i64 d.day) from rfl)
            replace b2 := (hD.cell 2).trans (show _ = some (.int .i64 d.need) from rfl)
            replace b3 := (hD.cell 3).trans (show _ = some (.slice Y d.yes.length yc) from rfl)
            replace b4 := (hD.cell 4).trans (show _ = some (.slice N' d.no.length nc) from rfl)
            replace b5 := (hD.cell 5).trans (show _ = some (.bool d.done) from rfl)
            replace hX := hX.below hq14 hX.lt
            replace x0 := (hX.cell 0).trans (show _ = some (.int .i64 x.id) from rfl)
            replace x1 := (hX.cell 1).trans (show _ = some (.int .i64 x.day) from rfl)
            replace x2 := (hX.cell 2).trans (show _ = some (.int .i64 x.need) from rfl)
            replace x3 := (hX.cell 3).trans (show _ = some (.slice P x.yes.length pc) from rfl)
            replace x4 := (hX.cell 4).trans (show _ = some (.slice Q' x.no.length qc) from rfl)
            replace x5 := (hX.cell 5).trans (show _ = some (.bool x.done) from rfl)
            skip
            have RS := hSs.rds
            have RU := hUs.rds
            clear hSs hUs
            have hzy' : z.yes.length ≤ 1048576 := by omega
            have hzn' : z.no.length ≤ 1048576 := by omega
            obtain ⟨zs, zb, hdt⟩ := dtOut_form z
            have HZ := Lib.hid hdt
            clear hdt
            have yhD := hD.lt
            have yhX := hX.lt
            go_wp2_with fail
            refine (iDecidedText_is z S U' sc uc hzy' hzn' _ HZ.out _ (RS.below (by repeat (first | exact Below.refl _ _ | refine Below.alloc ?_ (by first | exact Nat.le_refl _ | (simp <;> omega)) _ | refine Below.setCell ?_ (by first | exact Nat.le_refl _ | (simp <;> omega)) _))) (RU.below (by repeat (first | exact Below.refl _ _ | refine Below.alloc ?_ (by first | exact Nat.le_refl _ | (simp <;> omega)) _ | refine Below.setCell ?_ (by first | exact Nat.le_refl _ | (simp <;> omega)) _))) (HT.below (by repeat (first | exact Below.refl _ _ | refine Below.alloc ?_ (by first | exact Nat.le_refl _ | (simp <;> omega)) _ | refine Below.setCell ?_ (by first | exact Nat.le_refl _ | (simp <;> omega)) _)))).mono ?_
            rintro e w15 ⟨rfl, hb15⟩
            have hq15 : Below w14.heap.size w14 w15 := bth (by repeat (first | exact Below.refl _ _ | refine Below.alloc ?_ (by first | exact Nat.le_refl _ | (simp <;> omega)) _ | refine Below.setCell ?_ (by first | exact Nat.le_refl _ | (simp <;> omega)) _)) hb15
            replace HB := bth HB hq15
            replace hR := hR.below hq15
            replace HT := HT.below hq15
            replace RS := RS.below hq15
            replace RU := RU.below hq15
            replace hD := hD.below hq15 hD.lt
            replace b0 := (hD.cell 0).trans (show _ = some (.int .i64 d.id) from rfl)
            replace b1 := (hD.cell 1).trans (show _ = some (.int .i64 d.day) from rfl)
            replace b2 := (hD.cell 2).trans (show _ = some (.int .i64 d.need) from rfl)
            replace b3 := (hD.cell 3).trans (show _ = some (.slice Y d.yes.length yc) from rfl)
            replace b4 := (hD.cell 4).trans (show _ = some (.slice N' d.no.length nc) from rfl)
            replace b5 := (hD.cell 5).trans (show _ = some (.bool d.done) from rfl)
            replace hX := hX.below hq15 hX.lt
            replace x0 := (hX.cell 0).trans (show _ = some (.int .i64 x.id) from rfl)
            replace x1 := (hX.cell 1).trans (show _ = some (.int .i64 x.day) from rfl)
            replace x2 := (hX.cell 2).trans (show _ = some (.int .i64 x.need) from rfl)
            replace x3 := (hX.cell 3).trans (show _ = some (.slice P x.yes.length pc) from rfl)
            replace x4 := (hX.cell 4).trans (show _ = some (.slice Q' x.no.length qc) from rfl)
            replace x5 := (hX.cell 5).trans (show _ = some (.bool x.done) from rfl)
            have hZ : Blk w15 (w14.heap.size) 35 #[.int .i64 z.id, .int .i64 z.day, .int .i64 z.need, .slice S z.yes.length sc, .slice U' z.no.length uc, .bool z.done] := Blk.below (by repeat (first | exact Blk.new _ _ _ | exact Blk.new2 _ _ _ _ | exact Blk.new3 _ _ _ _ _ | exact Blk.new4 _ _ _ _ _ _ | refine Blk.alloc ?_ _)) hb15 (by simp <;> omega)
            have z0 := (hZ.cell 0).trans (show _ = some (.int .i64 z.id) from rfl)
            have z1 := (hZ.cell 1).trans (show _ = some (.int .i64 z.day) from rfl)
            have z2 := (hZ.cell 2).trans (show _ = some (.int .i64 z.need) from rfl)
            have z3 := (hZ.cell 3).trans (show _ = some (.slice S z.yes.length sc) from rfl)
            have z4 := (hZ.cell 4).trans (show _ = some (.slice U' z.no.length uc) from rfl)
            have z5 := (hZ.cell 5).trans (show _ = some (.bool z.done) from rfl)
            have yhD := hD.lt
            have yhX := hX.lt
            have yhZ := hZ.lt
            go_wp2_with fail
            refine (sDecidedText_is z S U' sc uc hzy' hzn' _ HZ.out _ (RS.below (by repeat (first | exact Below.refl _ _ | refine Below.alloc ?_ (by first | exact Nat.le_refl _ | (simp <;> omega)) _ | refine Below.setCell ?_ (by first | exact Nat.le_refl _ | (simp <;> omega)) _))) (RU.below (by repeat (first | exact Below.refl _ _ | refine Below.alloc ?_ (by first | exact Nat.le_refl _ | (simp <;> omega)) _ | refine Below.setCell ?_ (by first | exact Nat.le_refl _ | (simp <;> omega)) _)))).mono ?_
            rintro e w16 ⟨rfl, hb16⟩
            have hq16 : Below w15.heap.size w15 w16 := bth (by repeat (first | exact Below.refl _ _ | refine Below.alloc ?_ (by first | exact Nat.le_refl _ | (simp <;> omega)) _ | refine Below.setCell ?_ (by first | exact Nat.le_refl _ | (simp <;> omega)) _)) hb16
            replace HB := bth HB hq16
            replace hR := hR.below hq16
            replace HT := HT.below hq16
            replace RS := RS.below hq16
            replace RU := RU.below hq16
            replace hD := hD.below hq16 hD.lt
            replace b0 := (hD.cell 0).trans (show _ = some (.int .i64 d.id) from rfl)
            replace b1 := (hD.cell 1).trans (show _ = some (.int .i64 d.day) from rfl)
            replace b2 := (hD.cell 2).trans (show _ = some (.int .i64 d.need) from rfl)
            replace b3 := (hD.cell 3).trans (show _ = some (.slice Y d.yes.length yc) from rfl)
            replace b4 := (hD.cell 4).trans (show _ = some (.slice N' d.no.length nc) from rfl)
            replace b5 := (hD.cell 5).trans (show _ = some (.bool d.done) from rfl)
            replace hX := hX.below hq16 hX.lt
            replace x0 := (hX.cell 0).trans (show _ = some (.int .i64 x.id) from rfl)
            replace x1 := (hX.cell 1).trans (show _ = some (.int .i64 x.day) from rfl)
            replace x2 := (hX.cell 2).trans (show _ = some (.int .i64 x.need) from rfl)
            replace x3 := (hX.cell 3).trans (show _ = some (.slice P x.yes.length pc) from rfl)
            replace x4 := (hX.cell 4).trans (show _ = some (.slice Q' x.no.length qc) from rfl)
            replace x5 := (hX.cell 5).trans (show _ = some (.bool x.done) from rfl)
            replace hZ := hZ.below hq16 hZ.lt
            replace z0 := (hZ.cell 0).trans (show _ = some (.int .i64 z.id) from rfl)
            replace z1 := (hZ.cell 1).trans (show _ = some (.int .i64 z.day) from rfl)
            replace z2 := (hZ.cell 2).trans (show _ = some (.int .i64 z.need) from rfl)
            replace z3 := (hZ.cell 3).trans (show _ = some (.slice S z.yes.length sc) from rfl)
            replace z4 := (hZ.cell 4).trans (show _ = some (.slice U' z.no.length uc) from rfl)
            replace z5 := (hZ.cell 5).trans (show _ = some (.bool z.done) from rfl)
            go_wp2
            go_ret
            exact ⟨rfl, (bth HB (by repeat (first | exact Below.refl _ _ | refine Below.alloc ?_ (by first | exact Nat.le_refl _ | (simp <;> omega)) _ | refine Below.setCell ?_ (by first | exact Nat.le_refl _ | (simp <;> omega)) _)))⟩
      · skip
        have E1 : Hid (swOut d = .tuple #[.int .i64 0, .bool false]) := Lib.hid (by simp [swOut, hd, hf])
        have E2 : Hid (wasOut d = .tuple #[.bool true, .bool true]) := Lib.hid (by simp [wasOut, hd, ha])
        have EL : Hid (psL d = d.yes) := Lib.hid (by simp [psL, hd, Dec.side, ha])
        have HA : Hid (adoB d.need d.yes.length d.no.length = true) := Lib.hid ha
        clear hd hf ha hnd
        go_wp2_with fail
        refine (iSwitches_is d Y N' yc nc hy hn _ E1.out _ (RY.below (by repeat (first | exact Below.refl _ _ | refine Below.alloc ?_ (by first | exact Nat.le_refl _ | (simp <;> omega)) _ | refine Below.setCell ?_ (by first | exact Nat.le_refl _ | (simp <;> omega)) _))) (RN.below (by repeat (first | exact Below.refl _ _ | refine Below.alloc ?_ (by first | exact Nat.le_refl _ | (simp <;> omega)) _ | refine Below.setCell ?_ (by first | exact Nat.le_refl _ | (simp <;> omega)) _)))).mono ?_
        rintro e w2 ⟨rfl, hb2⟩
        have hq2 : Below w1.heap.size w1 w2 := bth (by repeat (first | exact Below.refl _ _ | refine Below.alloc ?_ (by first | exact Nat.le_refl _ | (simp <;> omega)) _ | refine Below.setCell ?_ (by first | exact Nat.le_refl _ | (simp <;> omega)) _)) hb2
        replace HB := bth HB hq2
        replace hR := hR.below hq2
        replace HT := HT.below hq2
        replace RY := RY.below hq2
        replace RN := RN.below hq2
        have hD : Blk w2 (w1.heap.size) 35 #[.int .i64 d.id, .int .i64 d.day, .int .i64 d.need, .slice Y d.yes.length yc, .slice N' d.no.length nc, .bool d.done] := Blk.below (by repeat (first | exact Blk.new _ _ _ | exact Blk.new2 _ _ _ _ | exact Blk.new3 _ _ _ _ _ | exact Blk.new4 _ _ _ _ _ _ | refine Blk.alloc ?_ _)) hb2 (by simp <;> omega)
        have b0 := (hD.cell 0).trans (show _ = some (.int .i64 d.id) from rfl)
        have b1 := (hD.cell 1).trans (show _ = some (.int .i64 d.day) from rfl)
        have b2 := (hD.cell 2).trans (show _ = some (.int .i64 d.need) from rfl)
        have b3 := (hD.cell 3).trans (show _ = some (.slice Y d.yes.length yc) from rfl)
        have b4 := (hD.cell 4).trans (show _ = some (.slice N' d.no.length nc) from rfl)
        have b5 := (hD.cell 5).trans (show _ = some (.bool d.done) from rfl)
        have yhD := hD.lt
        go_wp2_with fail
        refine (sSwitches_is d Y N' yc nc hy hn hYn.out hNn.out _ E1.out _ (RY.below (by repeat (first | exact Below.refl _ _ | refine Below.alloc ?_ (by first | exact Nat.le_refl _ | (simp <;> omega)) _ | refine Below.setCell ?_ (by first | exact Nat.le_refl _ | (simp <;> omega)) _))) (RN.below (by repeat (first | exact Below.refl _ _ | refine Below.alloc ?_ (by first | exact Nat.le_refl _ | (simp <;> omega)) _ | refine Below.setCell ?_ (by first | exact Nat.le_refl _ | (simp <;> omega)) _)))).mono ?_
        rintro e w3 ⟨rfl, hb3⟩
        have hq3 : Below w2.heap.size w2 w3 := bth (by repeat (first | exact Below.refl _ _ | refine Below.alloc ?_ (by first | exact Nat.le_refl _ | (simp <;> omega)) _ | refine Below.setCell ?_ (by first | exact Nat.le_refl _ | (simp <;> omega)) _)) hb3
        replace HB := bth HB hq3
        replace hR := hR.below hq3
        replace HT := HT.below hq3
        replace RY := RY.below hq3
        replace RN := RN.below hq3
        replace hD := hD.below hq3 hD.lt
        replace b0 := (hD.cell 0).trans (show _ = some (.int .i64 d.id) from rfl)
        replace b1 := (hD.cell 1).trans (show _ = some (.int .i64 d.day) from rfl)
        replace b2 := (hD.cell 2).trans (show _ = some (.int .i64 d.need) from rfl)
        replace b3 := (hD.cell 3).trans (show _ = some (.slice Y d.yes.length yc) from rfl)
        replace b4 := (hD.cell 4).trans (show _ = some (.slice N' d.no.length nc) from rfl)
        replace b5 := (hD.cell 5).trans (show _ = some (.bool d.done) from rfl)
        have yhD := hD.lt
        go_wp2_with fail
        refine (iWasAdopted_is d Y N' yc nc hy hn _ E2.out _ (RY.below (by repeat (first | exact Below.refl _ _ | refine Below.alloc ?_ (by first | exact Nat.le_refl _ | (simp <;> omega)) _ | refine Below.setCell ?_ (by first | exact Nat.le_refl _ | (simp <;> omega)) _))) (RN.below (by repeat (first | exact Below.refl _ _ | refine Below.alloc ?_ (by first | exact Nat.le_refl _ | (simp <;> omega)) _ | refine Below.setCell ?_ (by first | exact Nat.le_refl _ | (simp <;> omega)) _)))).mono ?_
        rintro e w4 ⟨rfl, hb4⟩
        have hq4 : Below w3.heap.size w3 w4 := bth (by repeat (first | exact Below.refl _ _ | refine Below.alloc ?_ (by first | exact Nat.le_refl _ | (simp <;> omega)) _ | refine Below.setCell ?_ (by first | exact Nat.le_refl _ | (simp <;> omega)) _)) hb4
        replace HB := bth HB hq4
        replace hR := hR.below hq4
        replace HT := HT.below hq4
        replace RY := RY.below hq4
        replace RN := RN.below hq4
        replace hD := hD.below hq4 hD.lt
        replace b0 := (hD.cell 0).trans (show _ = some (.int .i64 d.id) from rfl)
        replace b1 := (hD.cell 1).trans (show _ = some (.int .i64 d.day) from rfl)
        replace b2 := (hD.cell 2).trans (show _ = some (.int .i64 d.need) from rfl)
        replace b3 := (hD.cell 3).trans (show _ = some (.slice Y d.yes.length yc) from rfl)
        replace b4 := (hD.cell 4).trans (show _ = some (.slice N' d.no.length nc) from rfl)
        replace b5 := (hD.cell 5).trans (show _ = some (.bool d.done) from rfl)
        have yhD := hD.lt
        go_wp2_with fail
        refine (iPrevL_is d Y N' yc nc d.yes true EL.out HD.out hy hn hYn.out hNn.out _ (RY.below (by repeat (first | exact Below.refl _ _ | refine Below.alloc ?_ (by first | exact Nat.le_refl _ | (simp <;> omega)) _ | refine Below.setCell ?_ (by first | exact Nat.le_refl _ | (simp <;> omega)) _))) (RN.below (by repeat (first | exact Below.refl _ _ | refine Below.alloc ?_ (by first | exact Nat.le_refl _ | (simp <;> omega)) _ | refine Below.setCell ?_ (by first | exact Nat.le_refl _ | (simp <;> omega)) _)))).mono ?_
        rintro e w5 ⟨A7, c7, rfl, O7, hb5⟩
        have hq5 : Below w4.heap.size w4 w5 := bth (by repeat (first | exact Below.refl _ _ | refine Below.alloc ?_ (by first | exact Nat.le_refl _ | (simp <;> omega)) _ | refine Below.setCell ?_ (by first | exact Nat.le_refl _ | (simp <;> omega)) _)) hb5
        replace HB := bth HB hq5
        replace hR := hR.below hq5
        replace HT := HT.below hq5
        replace RY := RY.below hq5
        replace RN := RN.below hq5
        replace hD := hD.below hq5 hD.lt
        replace b0 := (hD.cell 0).trans (show _ = some (.int .i64 d.id) from rfl)
        replace b1 := (hD.cell 1).trans (show _ = some (.int .i64 d.day) from rfl)
        replace b2 := (hD.cell 2).trans (show _ = some (.int .i64 d.need) from rfl)
        replace b3 := (hD.cell 3).trans (show _ = some (.slice Y d.yes.length yc) from rfl)
        replace b4 := (hD.cell 4).trans (show _ = some (.slice N' d.no.length nc) from rfl)
        replace b5 := (hD.cell 5).trans (show _ = some (.bool d.done) from rfl)
        have Q7 := O7.rds (hf := intC_len)
        clear O7
        have yhD := hD.lt
        go_wp2_with fail
        refine (sWasAdopted_is d Y N' yc nc hy hn _ E2.out _ (RY.below (by repeat (first | exact Below.refl _ _ | refine Below.alloc ?_ (by first | exact Nat.le_refl _ | (simp <;> omega)) _ | refine Below.setCell ?_ (by first | exact Nat.le_refl _ | (simp <;> omega)) _))) (RN.below (by repeat (first | exact Below.refl _ _ | refine Below.alloc ?_ (by first | exact Nat.le_refl _ | (simp <;> omega)) _ | refine Below.setCell ?_ (by first | exact Nat.le_refl _ | (simp <;> omega)) _)))).mono ?_
        rintro e w6 ⟨rfl, hb6⟩
        have hq6 : Below w5.heap.size w5 w6 := bth (by repeat (first | exact Below.refl _ _ | refine Below.alloc ?_ (by first | exact Nat.le_refl _ | (simp <;> omega)) _ | refine Below.setCell ?_ (by first | exact Nat.le_refl _ | (simp <;> omega)) _)) hb6
        replace HB := bth HB hq6
        replace hR := hR.below hq6
        replace HT := HT.below hq6
        replace RY := RY.below hq6
        replace RN := RN.below hq6
        replace Q7 := Q7.below hq6
        replace hD := hD.below hq6 hD.lt
        replace b0 := (hD.cell 0).trans (show _ = some (.int .i64 d.id) from rfl)
        replace b1 := (hD.cell 1).trans (show _ = some (.int .i64 d.day) from rfl)
        replace b2 := (hD.cell 2).trans (show _ = some (.int .i64 d.need) from rfl)
        replace b3 := (hD.cell 3).trans (show _ = some (.slice Y d.yes.length yc) from rfl)
        replace b4 := (hD.cell 4).trans (show _ = some (.slice N' d.no.length nc) from rfl)
        replace b5 := (hD.cell 5).trans (show _ = some (.bool d.done) from rfl)
        have yhD := hD.lt
        go_wp2_with fail
        refine (isValidDecided_is d Y N' yc nc hy hn true HD.out _ (RY.below (by repeat (first | exact Below.refl _ _ | refine Below.alloc ?_ (by first | exact Nat.le_refl _ | (simp <;> omega)) _ | refine Below.setCell ?_ (by first | exact Nat.le_refl _ | (simp <;> omega)) _))) (RN.below (by repeat (first | exact Below.refl _ _ | refine Below.alloc ?_ (by first | exact Nat.le_refl _ | (simp <;> omega)) _ | refine Below.setCell ?_ (by first | exact Nat.le_refl _ | (simp <;> omega)) _)))).mono ?_
        rintro e w7 ⟨rfl, hb7⟩
        have hq7 : Below w6.heap.size w6 w7 := bth (by repeat (first | exact Below.refl _ _ | refine Below.alloc ?_ (by first | exact Nat.le_refl _ | (simp <;> omega)) _ | refine Below.setCell ?_ (by first | exact Nat.le_refl _ | (simp <;> omega)) _)) hb7
        replace HB := bth HB hq7
        replace hR := hR.below hq7
        replace HT := HT.below hq7
        replace RY := RY.below hq7
        replace RN := RN.below hq7
        replace Q7 := Q7.below hq7
        replace hD := hD.below hq7 hD.lt
        replace b0 := (hD.cell 0).trans (show _ = some (.int .i64 d.id) from rfl)
        replace b1 := (hD.cell 1).trans (show _ = some (.int .i64 d.day) from rfl)
        replace b2 := (hD.cell 2).trans (show _ = some (.int .i64 d.need) from rfl)
        replace b3 := (hD.cell 3).trans (show _ = some (.slice Y d.yes.length yc) from rfl)
        replace b4 := (hD.cell 4).trans (show _ = some (.slice N' d.no.length nc) from rfl)
        replace b5 := (hD.cell 5).trans (show _ = some (.bool d.done) from rfl)
        have yhD := hD.lt
        go_wp2_with fail
        refine (sPrevL_is d Y N' yc nc d.yes true EL.out HD.out hy hn hYn.out hNn.out _ (RY.below (by repeat (first | exact Below.refl _ _ | refine Below.alloc ?_ (by first | exact Nat.le_refl _ | (simp <;> omega)) _ | refine Below.setCell ?_ (by first | exact Nat.le_refl _ | (simp <;> omega)) _))) (RN.below (by repeat (first | exact Below.refl _ _ | refine Below.alloc ?_ (by first | exact Nat.le_refl _ | (simp <;> omega)) _ | refine Below.setCell ?_ (by first | exact Nat.le_refl _ | (simp <;> omega)) _)))).mono ?_
        rintro e w8 ⟨A8, c8, rfl, O8, hb8⟩
        have hq8 : Below w7.heap.size w7 w8 := bth (by repeat (first | exact Below.refl _ _ | refine Below.alloc ?_ (by first | exact Nat.le_refl _ | (simp <;> omega)) _ | refine Below.setCell ?_ (by first | exact Nat.le_refl _ | (simp <;> omega)) _)) hb8
        replace HB := bth HB hq8
        replace hR := hR.below hq8
        replace HT := HT.below hq8
        replace RY := RY.below hq8
        replace RN := RN.below hq8
        replace Q7 := Q7.below hq8
        replace hD := hD.below hq8 hD.lt
        replace b0 := (hD.cell 0).trans (show _ = some (.int .i64 d.id) from rfl)
        replace b1 := (hD.cell 1).trans (show _ = some (.int .i64 d.day) from rfl)
        replace b2 := (hD.cell 2).trans (show _ = some (.int .i64 d.need) from rfl)
        replace b3 := (hD.cell 3).trans (show _ = some (.slice Y d.yes.length yc) from rfl)
        replace b4 := (hD.cell 4).trans (show _ = some (.slice N' d.no.length nc) from rfl)
        replace b5 := (hD.cell 5).trans (show _ = some (.bool d.done) from rfl)
        have Q8 := O8.rds (hf := intC_len)
        clear O8
        have yhD := hD.lt
        go_wp2_with fail
        refine (rInts_is A7 A8 c7 c8 d.yes (by first | omega | simp) _ (Q7.below (by repeat (first | exact Below.refl _ _ | refine Below.alloc ?_ (by first | exact Nat.le_refl _ | (simp <;> omega)) _ | refine Below.setCell ?_ (by first | exact Nat.le_refl _ | (simp <;> omega)) _))) (Q8.below (by repeat (first | exact Below.refl _ _ | refine Below.alloc ?_ (by first | exact Nat.le_refl _ | (simp <;> omega)) _ | refine Below.setCell ?_ (by first | exact Nat.le_refl _ | (simp <;> omega)) _)))).mono ?_
        rintro e w9 ⟨rfl, hb9⟩
        have hq9 : Below w8.heap.size w8 w9 := bth (by repeat (first | exact Below.refl _ _ | refine Below.alloc ?_ (by first | exact Nat.le_refl _ | (simp <;> omega)) _ | refine Below.setCell ?_ (by first | exact Nat.le_refl _ | (simp <;> omega)) _)) hb9
        replace HB := bth HB hq9
        replace hR := hR.below hq9
        replace HT := HT.below hq9
        replace RY := RY.below hq9
        replace RN := RN.below hq9
        replace Q7 := Q7.below hq9
        replace Q8 := Q8.below hq9
        replace hD := hD.below hq9 hD.lt
        replace b0 := (hD.cell 0).trans (show _ = some (.int .i64 d.id) from rfl)
        replace b1 := (hD.cell 1).trans (show _ = some (.int .i64 d.day) from rfl)
        replace b2 := (hD.cell 2).trans (show _ = some (.int .i64 d.need) from rfl)
        replace b3 := (hD.cell 3).trans (show _ = some (.slice Y d.yes.length yc) from rfl)
        replace b4 := (hD.cell 4).trans (show _ = some (.slice N' d.no.length nc) from rfl)
        replace b5 := (hD.cell 5).trans (show _ = some (.bool d.done) from rfl)
        clear Q7 Q8
        have yhD := hD.lt
        go_wp2_with fail
        refine (isAdoptedT_is d.need d.yes.length d.no.length HND.out (by omega) (by omega) (by omega) (by omega) true HA.out _).mono ?_
        rintro e w10 ⟨rfl, hb10⟩
        have hq10 : Below w9.heap.size w9 w10 := bth (by repeat (first | exact Below.refl _ _ | refine Below.alloc ?_ (by first | exact Nat.le_refl _ | (simp <;> omega)) _ | refine Below.setCell ?_ (by first | exact Nat.le_refl _ | (simp <;> omega)) _)) hb10
        replace HB := bth HB hq10
        replace hR := hR.below hq10
        replace HT := HT.below hq10
        replace RY := RY.below hq10
        replace RN := RN.below hq10
        replace hD := hD.below hq10 hD.lt
        replace b0 := (hD.cell 0).trans (show _ = some (.int .i64 d.id) from rfl)
        replace b1 := (hD.cell 1).trans (show _ = some (.int .i64 d.day) from rfl)
        replace b2 := (hD.cell 2).trans (show _ = some (.int .i64 d.need) from rfl)
        replace b3 := (hD.cell 3).trans (show _ = some (.slice Y d.yes.length yc) from rfl)
        replace b4 := (hD.cell 4).trans (show _ = some (.slice N' d.no.length nc) from rfl)
        replace b5 := (hD.cell 5).trans (show _ = some (.bool d.done) from rfl)
        have yhD := hD.lt
        clear RY RN
        have yhD := hD.lt
        go_wp2_with fail
        refine (drawMay_is A c cs hcs _ (hR.below (by repeat (first | exact Below.refl _ _ | refine Below.alloc ?_ (by first | exact Nat.le_refl _ | (simp <;> omega)) _ | refine Below.setCell ?_ (by first | exact Nat.le_refl _ | (simp <;> omega)) _)))).mono ?_
        rintro e w11 ⟨x, P, Q', pc, qc, m, t, rfl, hxy, hxn, hm, ht, hPs, hQs, hb11⟩
        have hq11 : Below w10.heap.size w10 w11 := bth (by repeat (first | exact Below.refl _ _ | refine Below.alloc ?_ (by first | exact Nat.le_refl _ | (simp <;> omega)) _ | refine Below.setCell ?_ (by first | exact Nat.le_refl _ | (simp <;> omega)) _)) hb11
        replace HB := bth HB hq11
        replace hR := hR.below hq11
        replace HT := HT.below hq11
        replace hD := hD.below hq11 hD.lt
        replace b0 := (hD.cell 0).trans (show _ = some (.int .i64 d.id) from rfl)
        replace b1 := (hD.cell 1).trans (show _ = some (.int .i64 d.day) from rfl)
        replace b2 := (hD.cell 2).trans (show _ = some (.int .i64 d.need) from rfl)
        replace b3 := (hD.cell 3).trans (show _ = some (.slice Y d.yes.length yc) from rfl)
        replace b4 := (hD.cell 4).trans (show _ = some (.slice N' d.no.length nc) from rfl)
        replace b5 := (hD.cell 5).trans (show _ = some (.bool d.done) from rfl)
        have RP := hPs.rds
        have RQ := hQs.rds
        have hPn := Lib.hid hPs.nil
        have hQn := Lib.hid hQs.nil
        clear hPs hQs
        have hxy' : x.yes.length ≤ 1048576 := by omega
        have hxn' : x.no.length ≤ 1048576 := by omega
        by_cases hxd : x.done = true
        · skip
          obtain ⟨mb, hmo⟩ := mayOut_done (m := m) (t := t) hxd
          have HM := Lib.hid hmo
          have HX : Hid (x.done = true) := Lib.hid hxd
          clear hmo hxd
          have yhD := hD.lt
          go_wp2_with fail
          refine (iMay_is x P Q' pc qc hxy' hxn' m t _ HM.out _ (RP.below (by repeat (first | exact Below.refl _ _ | refine Below.alloc ?_ (by first | exact Nat.le_refl _ | (simp <;> omega)) _ | refine Below.setCell ?_ (by first | exact Nat.le_refl _ | (simp <;> omega)) _))) (RQ.below (by repeat (first | exact Below.refl _ _ | refine Below.alloc ?_ (by first | exact Nat.le_refl _ | (simp <;> omega)) _ | refine Below.setCell ?_ (by first | exact Nat.le_refl _ | (simp <;> omega)) _)))).mono ?_
          rintro e w12 ⟨rfl, hb12⟩
          have hq12 : Below w11.heap.size w11 w12 := bth (by repeat (first | exact Below.refl _ _ | refine Below.alloc ?_ (by first | exact Nat.le_refl _ | (simp <;> omega)) _ | refine Below.setCell ?_ (by first | exact Nat.le_refl _ | (simp <;> omega)) _)) hb12
          replace HB := bth HB hq12
          replace hR := hR.below hq12
          replace HT := HT.below hq12
          replace RP := RP.below hq12
          replace RQ := RQ.below hq12
          replace hD := hD.below hq12 hD.lt
          replace b0 := (hD.cell 0).trans (show _ = some (.int .i64 d.id) from rfl)
          replace b1 := (hD.cell 1).trans (show _ = some (.int .i64 d.day) from rfl)
          replace b2 := (hD.cell 2).trans (show _ = some (.int .i64 d.need) from rfl)
          replace b3 := (hD.cell 3).trans (show _ = some (.slice Y d.yes.length yc) from rfl)
          replace b4 := (hD.cell 4).trans (show _ = some (.slice N' d.no.length nc) from rfl)
          replace b5 := (hD.cell 5).trans (show _ = some (.bool d.done) from rfl)
          have hX : Blk w12 (w11.heap.size) 35 #[.int .i64 x.id, .int .i64 x.day, .int .i64 x.need, .slice P x.yes.length pc, .slice Q' x.no.length qc, .bool x.done] := Blk.below (by repeat (first | exact Blk.new _ _ _ | exact Blk.new2 _ _ _ _ | exact Blk.new3 _ _ _ _ _ | exact Blk.new4 _ _ _ _ _ _ | refine Blk.alloc ?_ _)) hb12 (by simp <;> omega)
          have x0 := (hX.cell 0).trans (show _ = some (.int .i64 x.id) from rfl)
          have x1 := (hX.cell 1).trans (show _ = some (.int .i64 x.day) from rfl)
          have x2 := (hX.cell 2).trans (show _ = some (.int .i64 x.need) from rfl)
          have x3 := (hX.cell 3).trans (show _ = some (.slice P x.yes.length pc) from rfl)
          have x4 := (hX.cell 4).trans (show _ = some (.slice Q' x.no.length qc) from rfl)
          have x5 := (hX.cell 5).trans (show _ = some (.bool x.done) from rfl)
          have yhD := hD.lt
          have yhX := hX.lt
          go_wp2_with fail
          refine (sMay_is x P Q' pc qc hxy' hxn' hPn.out hQn.out m t _ HM.out _ (RP.below (by repeat (first | exact Below.refl _ _ | refine Below.alloc ?_ (by first | exact Nat.le_refl _ | (simp <;> omega)) _ | refine Below.setCell ?_ (by first | exact Nat.le_refl _ | (simp <;> omega)) _))) (RQ.below (by repeat (first | exact Below.refl _ _ | refine Below.alloc ?_ (by first | exact Nat.le_refl _ | (simp <;> omega)) _ | refine Below.setCell ?_ (by first | exact Nat.le_refl _ | (simp <;> omega)) _)))).mono ?_
          rintro e w13 ⟨rfl, hb13⟩
          have hq13 : Below w12.heap.size w12 w13 := bth (by repeat (first | exact Below.refl _ _ | refine Below.alloc ?_ (by first | exact Nat.le_refl _ | (simp <;> omega)) _ | refine Below.setCell ?_ (by first | exact Nat.le_refl _ | (simp <;> omega)) _)) hb13
          replace HB := bth HB hq13
          replace hR := hR.below hq13
          replace HT := HT.below hq13
          replace RP := RP.below hq13
          replace RQ := RQ.below hq13
          replace hD := hD.below hq13 hD.lt
          replace b0 := (hD.cell 0).trans (show _ = some (.int .i64 d.id) from rfl)
          replace b1 := (hD.cell 1).trans (show _ = some (.int .i64 d.day) from rfl)
          replace b2 := (hD.cell 2).trans (show _ = some (.int .i64 d.need) from rfl)
          replace b3 := (hD.cell 3).trans (show _ = some (.slice Y d.yes.length yc) from rfl)
          replace b4 := (hD.cell 4).trans (show _ = some (.slice N' d.no.length nc) from rfl)
          replace b5 := (hD.cell 5).trans (show _ = some (.bool d.done) from rfl)
          replace hX := hX.below hq13 hX.lt
          replace x0 := (hX.cell 0).trans (show _ = some (.int .i64 x.id) from rfl)
          replace x1 := (hX.cell 1).trans (show _ = some (.int .i64 x.day) from rfl)
          replace x2 := (hX.cell 2).trans (show _ = some (.int .i64 x.need) from rfl)
          replace x3 := (hX.cell 3).trans (show _ = some (.slice P x.yes.length pc) from rfl)
          replace x4 := (hX.cell 4).trans (show _ = some (.slice Q' x.no.length qc) from rfl)
          replace x5 := (hX.cell 5).trans (show _ = some (.bool x.done) from rfl)
          clear RP RQ
          rw [HX.out] at x5
          have yhD := hD.lt
          have yhX := hX.lt
          go_wp2_with fail
          refine (drawDt_is A c cs hcs _ (hR.below (by repeat (first | exact Below.refl _ _ | refine Below.alloc ?_ (by first | exact Nat.le_refl _ | (simp <;> omega)) _ | refine Below.setCell ?_ (by first | exact Nat.le_refl _ | (simp <;> omega)) _)))).mono ?_
          rintro e w14 ⟨z, S, U', sc, uc, rfl, hzy, hzn, hSs, hUs, hb14⟩
          have hq14 : Below w13.heap.size w13 w14 := bth (by repeat (first | exact Below.refl _ _ | refine Below.alloc ?_ (by first | exact Nat.le_refl _ | (simp <;> omega)) _ | refine Below.setCell ?_ (by first | exact Nat.le_refl _ | (simp <;> omega)) _)) hb14
          replace HB := bth HB hq14
          replace hR := hR.below hq14
          replace HT := HT.below hq14
          replace hD := hD.below hq14 hD.lt
          replace b0 := (hD.cell 0).trans (show _ = some (.int .i64 d.id) from rfl)
          replace b1 := (hD.cell 1).trans (show _ = some (.int .i64 d.day) from rfl)
          replace b2 := (hD.cell 2).trans (show _ = some (.int .i64 d.need) from rfl)
          replace b3 := (hD.cell 3).trans (show _ = some (.slice Y d.yes.length yc) from rfl)
          replace b4 := (hD.cell 4).trans (show _ = some (.slice N' d.no.length nc) from rfl)
          replace b5 := (hD.cell 5).trans (show _ = some (.bool d.done) from rfl)
          replace hX := hX.below hq14 hX.lt
          replace x0 := (hX.cell 0).trans (show _ = some (.int .i64 x.id) from rfl)
          replace x1 := (hX.cell 1).trans (show _ = some (.int .i64 x.day) from rfl)
          replace x2 := (hX.cell 2).trans (show _ = some (.int .i64 x.need) from rfl)
          replace x3 := (hX.cell 3).trans (show _ = some (.slice P x.yes.length pc) from rfl)
          replace x4 := (hX.cell 4).trans (show _ = some (.slice Q' x.no.length qc) from rfl)
          replace x5 := (hX.cell 5).trans (show _ = some (.bool x.done) from rfl)
          skip
          have RS := hSs.rds
          have RU := hUs.rds
          clear hSs hUs
          have hzy' : z.yes.length ≤ 1048576 := by omega
          have hzn' : z.no.length ≤ 1048576 := by omega
          obtain ⟨zs, zb, hdt⟩ := dtOut_form z
          have HZ := Lib.hid hdt
          clear hdt
          have yhD := hD.lt
          have yhX := hX.lt
          go_wp2_with fail
          refine (iDecidedText_is z S U' sc uc hzy' hzn' _ HZ.out _ (RS.below (by repeat (first | exact Below.refl _ _ | refine Below.alloc ?_ (by first | exact Nat.le_refl _ | (simp <;> omega)) _ | refine Below.setCell ?_ (by first | exact Nat.le_refl _ | (simp <;> omega)) _))) (RU.below (by repeat (first | exact Below.refl _ _ | refine Below.alloc ?_ (by first | exact Nat.le_refl _ | (simp <;> omega)) _ | refine Below.setCell ?_ (by first | exact Nat.le_refl _ | (simp <;> omega)) _))) (HT.below (by repeat (first | exact Below.refl _ _ | refine Below.alloc ?_ (by first | exact Nat.le_refl _ | (simp <;> omega)) _ | refine Below.setCell ?_ (by first | exact Nat.le_refl _ | (simp <;> omega)) _)))).mono ?_
          rintro e w15 ⟨rfl, hb15⟩
          have hq15 : Below w14.heap.size w14 w15 := bth (by repeat (first | exact Below.refl _ _ | refine Below.alloc ?_ (by first | exact Nat.le_refl _ | (simp <;> omega)) _ | refine Below.setCell ?_ (by first | exact Nat.le_refl _ | (simp <;> omega)) _)) hb15
          replace HB := bth HB hq15
          replace hR := hR.below hq15
          replace HT := HT.below hq15
          replace RS := RS.below hq15
          replace RU := RU.below hq15
          replace hD := hD.below hq15 hD.lt
          replace b0 := (hD.cell 0).trans (show _ = some (.int .i64 d.id) from rfl)
          replace b1 := (hD.cell 1).trans (show _ = some (.int .i64 d.day) from rfl)
          replace b2 := (hD.cell 2).trans (show _ = some (.int .i64 d.need) from rfl)
          replace b3 := (hD.cell 3).trans (show _ = some (.slice Y d.yes.length yc) from rfl)
          replace b4 := (hD.cell 4).trans (show _ = some (.slice N' d.no.length nc) from rfl)
          replace b5 := (hD.cell 5).trans (show _ = some (.bool d.done) from rfl)
          replace hX := hX.below hq15 hX.lt
          replace x0 := (hX.cell 0).trans (show _ = some (.int .i64 x.id) from rfl)
          replace x1 := (hX.cell 1).trans (show _ = some (.int .i64 x.day) from rfl)
          replace x2 := (hX.cell 2).trans (show _ = some (.int .i64 x.need) from rfl)
          replace x3 := (hX.cell 3).trans (show _ = some (.slice P x.yes.length pc) from rfl)
          replace x4 := (hX.cell 4).trans (show _ = some (.slice Q' x.no.length qc) from rfl)
          replace x5 := (hX.cell 5).trans (show _ = some (.bool x.done) from rfl)
          have hZ : Blk w15 (w14.heap.size) 35 #[.int .i64 z.id, .int .i64 z.day, .int .i64 z.need, .slice S z.yes.length sc, .slice U' z.no.length uc, .bool z.done] := Blk.below (by repeat (first | exact Blk.new _ _ _ | exact Blk.new2 _ _ _ _ | exact Blk.new3 _ _ _ _ _ | exact Blk.new4 _ _ _ _ _ _ | refine Blk.alloc ?_ _)) hb15 (by simp <;> omega)
          have z0 := (hZ.cell 0).trans (show _ = some (.int .i64 z.id) from rfl)
          have z1 := (hZ.cell 1).trans (show _ = some (.int .i64 z.day) from rfl)
          have z2 := (hZ.cell 2).trans (show _ = some (.int .i64 z.need) from rfl)
          have z3 := (hZ.cell 3).trans (show _ = some (.slice S z.yes.length sc) from rfl)
          have z4 := (hZ.cell 4).trans (show _ = some (.slice U' z.no.length uc) from rfl)
          have z5 := (hZ.cell 5).trans (show _ = some (.bool z.done) from rfl)
          have yhD := hD.lt
          have yhX := hX.lt
          have yhZ := hZ.lt
          go_wp2_with fail
          refine (sDecidedText_is z S U' sc uc hzy' hzn' _ HZ.out _ (RS.below (by repeat (first | exact Below.refl _ _ | refine Below.alloc ?_ (by first | exact Nat.le_refl _ | (simp <;> omega)) _ | refine Below.setCell ?_ (by first | exact Nat.le_refl _ | (simp <;> omega)) _))) (RU.below (by repeat (first | exact Below.refl _ _ | refine Below.alloc ?_ (by first | exact Nat.le_refl _ | (simp <;> omega)) _ | refine Below.setCell ?_ (by first | exact Nat.le_refl _ | (simp <;> omega)) _)))).mono ?_
          rintro e w16 ⟨rfl, hb16⟩
          have hq16 : Below w15.heap.size w15 w16 := bth (by repeat (first | exact Below.refl _ _ | refine Below.alloc ?_ (by first | exact Nat.le_refl _ | (simp <;> omega)) _ | refine Below.setCell ?_ (by first | exact Nat.le_refl _ | (simp <;> omega)) _)) hb16
          replace HB := bth HB hq16
          replace hR := hR.below hq16
          replace HT := HT.below hq16
          replace RS := RS.below hq16
          replace RU := RU.below hq16
          replace hD := hD.below hq16 hD.lt
          replace b0 := (hD.cell 0).trans (show _ = some (.int .i64 d.id) from rfl)
          replace b1 := (hD.cell 1).trans (show _ = some (.int .i64 d.day) from rfl)
          replace b2 := (hD.cell 2).trans (show _ = some (.int .i64 d.need) from rfl)
          replace b3 := (hD.cell 3).trans (show _ = some (.slice Y d.yes.length yc) from rfl)
          replace b4 := (hD.cell 4).trans (show _ = some (.slice N' d.no.length nc) from rfl)
          replace b5 := (hD.cell 5).trans (show _ = some (.bool d.done) from rfl)
          replace hX := hX.below hq16 hX.lt
          replace x0 := (hX.cell 0).trans (show _ = some (.int .i64 x.id) from rfl)
          replace x1 := (hX.cell 1).trans (show _ = some (.int .i64 x.day) from rfl)
          replace x2 := (hX.cell 2).trans (show _ = some (.int .i64 x.need) from rfl)
          replace x3 := (hX.cell 3).trans (show _ = some (.slice P x.yes.length pc) from rfl)
          replace x4 := (hX.cell 4).trans (show _ = some (.slice Q' x.no.length qc) from rfl)
          replace x5 := (hX.cell 5).trans (show _ = some (.bool x.done) from rfl)
          replace hZ := hZ.below hq16 hZ.lt
          replace z0 := (hZ.cell 0).trans (show _ = some (.int .i64 z.id) from rfl)
          replace z1 := (hZ.cell 1).trans (show _ = some (.int .i64 z.day) from rfl)
          replace z2 := (hZ.cell 2).trans (show _ = some (.int .i64 z.need) from rfl)
          replace z3 := (hZ.cell 3).trans (show _ = some (.slice S z.yes.length sc) from rfl)
          replace z4 := (hZ.cell 4).trans (show _ = some (.slice U' z.no.length uc) from rfl)
          replace z5 := (hZ.cell 5).trans (show _ = some (.bool z.done) from rfl)
          go_wp2
          go_ret
          exact ⟨rfl, (bth HB (by repeat (first | exact Below.refl _ _ | refine Below.alloc ?_ (by first | exact Nat.le_refl _ | (simp <;> omega)) _ | refine Below.setCell ?_ (by first | exact Nat.le_refl _ | (simp <;> omega)) _)))⟩
        · skip
          obtain ⟨ma, mb, hmo⟩ := mayOut_form x m t
          have HM := Lib.hid hmo
          have HX : Hid (x.done = false) := Lib.hid (Bool.eq_false_iff.2 hxd)
          clear hmo hxd
          have yhD := hD.lt
          go_wp2_with fail
          refine (iMay_is x P Q' pc qc hxy' hxn' m t _ HM.out _ (RP.below (by repeat (first | exact Below.refl _ _ | refine Below.alloc ?_ (by first | exact Nat.le_refl _ | (simp <;> omega)) _ | refine Below.setCell ?_ (by first | exact Nat.le_refl _ | (simp <;> omega)) _))) (RQ.below (by repeat (first | exact Below.refl _ _ | refine Below.alloc ?_ (by first | exact Nat.le_refl _ | (simp <;> omega)) _ | refine Below.setCell ?_ (by first | exact Nat.le_refl _ | (simp <;> omega)) _)))).mono ?_
          rintro e w12 ⟨rfl, hb12⟩
          have hq12 : Below w11.heap.size w11 w12 := bth (by repeat (first | exact Below.refl _ _ | refine Below.alloc ?_ (by first | exact Nat.le_refl _ | (simp <;> omega)) _ | refine Below.setCell ?_ (by first | exact Nat.le_refl _ | (simp <;> omega)) _)) hb12
          replace HB := bth HB hq12
          replace hR := hR.below hq12
          replace HT := HT.below hq12
          replace RP := RP.below hq12
          replace RQ := RQ.below hq12
          replace hD := hD.below hq12 hD.lt
          replace b0 := (hD.cell 0).trans (show _ = some (.int .i64 d.id) from rfl)
          replace b1 := (hD.cell 1).trans (show _ = some (.int .i64 d.day) from rfl)
          replace b2 := (hD.cell 2).trans (show _ = some (.int .i64 d.need) from rfl)
          replace b3 := (hD.cell 3).trans (show _ = some (.slice Y d.yes.length yc) from rfl)
          replace b4 := (hD.cell 4).trans (show _ = some (.slice N' d.no.length nc) from rfl)
          replace b5 := (hD.cell 5).trans (show _ = some (.bool d.done) from rfl)
          have hX : Blk w12 (w11.heap.size) 35 #[.int .i64 x.id, .int .i64 x.day, .int .i64 x.need, .slice P x.yes.length pc, .slice Q' x.no.length qc, .bool x.done] := Blk.below (by repeat (first | exact Blk.new _ _ _ | exact Blk.new2 _ _ _ _ | exact Blk.new3 _ _ _ _ _ | exact Blk.new4 _ _ _ _ _ _ | refine Blk.alloc ?_ _)) hb12 (by simp <;> omega)
          have x0 := (hX.cell 0).trans (show _ = some (.int .i64 x.id) from rfl)
          have x1 := (hX.cell 1).trans (show _ = some (.int .i64 x.day) from rfl)
          have x2 := (hX.cell 2).trans (show _ = some (.int .i64 x.need) from rfl)
          have x3 := (hX.cell 3).trans (show _ = some (.slice P x.yes.length pc) from rfl)
          have x4 := (hX.cell 4).trans (show _ = some (.slice Q' x.no.length qc) from rfl)
          have x5 := (hX.cell 5).trans (show _ = some (.bool x.done) from rfl)
          have yhD := hD.lt
          have yhX := hX.lt
          go_wp2_with fail
          refine (sMay_is x P Q' pc qc hxy' hxn' hPn.out hQn.out m t _ HM.out _ (RP.below (by repeat (first | exact Below.refl _ _ | refine Below.alloc ?_ (by first | exact Nat.le_refl _ | (simp <;> omega)) _ | refine Below.setCell ?_ (by first | exact Nat.le_refl _ | (simp <;> omega)) _))) (RQ.below (by repeat (first | exact Below.refl _ _ | refine Below.alloc ?_ (by first | exact Nat.le_refl _ | (simp <;> omega)) _ | refine Below.setCell ?_ (by first | exact Nat.le_refl _ | (simp <;> omega)) _)))).mono ?_
          rintro e w13 ⟨rfl, hb13⟩
          have hq13 : Below w12.heap.size w12 w13 := bth (by repeat (first | exact Below.refl _ _ | refine Below.alloc ?_ (by first | exact Nat.le_refl _ | (simp <;> omega)) _ | refine Below.setCell ?_ (by first | exact Nat.le_refl _ | (simp <;> omega)) _)) hb13
          replace HB := bth HB hq13
          replace hR := hR.below hq13
          replace HT := HT.below hq13
          replace RP := RP.below hq13
          replace RQ := RQ.below hq13
          replace hD := hD.below hq13 hD.lt
          replace b0 := (hD.cell 0).trans (show _ = some (.int .i64 d.id) from rfl)
          replace b1 := (hD.cell 1).trans (show _ = some (.int .i64 d.day) from rfl)
          replace b2 := (hD.cell 2).trans (show _ = some (.int .i64 d.need) from rfl)
          replace b3 := (hD.cell 3).trans (show _ = some (.slice Y d.yes.length yc) from rfl)
          replace b4 := (hD.cell 4).trans (show _ = some (.slice N' d.no.length nc) from rfl)
          replace b5 := (hD.cell 5).trans (show _ = some (.bool d.done) from rfl)
          replace hX := hX.below hq13 hX.lt
          replace x0 := (hX.cell 0).trans (show _ = some (.int .i64 x.id) from rfl)
          replace x1 := (hX.cell 1).trans (show _ = some (.int .i64 x.day) from rfl)
          replace x2 := (hX.cell 2).trans (show _ = some (.int .i64 x.need) from rfl)
          replace x3 := (hX.cell 3).trans (show _ = some (.slice P x.yes.length pc) from rfl)
          replace x4 := (hX.cell 4).trans (show _ = some (.slice Q' x.no.length qc) from rfl)
          replace x5 := (hX.cell 5).trans (show _ = some (.bool x.done) from rfl)
          clear RP RQ
          rw [HX.out] at x5
          cases ma
          · skip
            have yhD := hD.lt
            have yhX := hX.lt
            go_wp2_with fail
            refine (drawDt_is A c cs hcs _ (hR.below (by repeat (first | exact Below.refl _ _ | refine Below.alloc ?_ (by first | exact Nat.le_refl _ | (simp <;> omega)) _ | refine Below.setCell ?_ (by first | exact Nat.le_refl _ | (simp <;> omega)) _)))).mono ?_
            rintro e w14 ⟨z, S, U', sc, uc, rfl, hzy, hzn, hSs, hUs, hb14⟩
            have hq14 : Below w13.heap.size w13 w14 := bth (by repeat (first | exact Below.refl _ _ | refine Below.alloc ?_ (by first | exact Nat.le_refl _ | (simp <;> omega)) _ | refine Below.setCell ?_ (by first | exact Nat.le_refl _ | (simp <;> omega)) _)) hb14
            replace HB := bth HB hq14
            replace hR := hR.below hq14
            replace HT := HT.below hq14
            replace hD := hD.below hq14 hD.lt
            replace b0 := (hD.cell 0).trans (show _ = some (.int .i64 d.id) from rfl)
            replace b1 := (hD.cell 1).trans (show _ = some (.int .i64 d.day) from rfl)
            replace b2 := (hD.cell 2).trans (show _ = some (.int .i64 d.need) from rfl)
            replace b3 := (hD.cell 3).trans (show _ = some (.slice Y d.yes.length yc) from rfl)
            replace b4 := (hD.cell 4).trans (show _ = some (.slice N' d.no.length nc) from rfl)
            replace b5 := (hD.cell 5).trans (show _ = some (.bool d.done) from rfl)
            replace hX := hX.below hq14 hX.lt
            replace x0 := (hX.cell 0).trans (show _ = some (.int .i64 x.id) from rfl)
            replace x1 := (hX.cell 1).trans (show _ = some (.int .i64 x.day) from rfl)
            replace x2 := (hX.cell 2).trans (show _ = some (.int .i64 x.need) from rfl)
            replace x3 := (hX.cell 3).trans (show _ = some (.slice P x.yes.length pc) from rfl)
            replace x4 := (hX.cell 4).trans (show _ = some (.slice Q' x.no.length qc) from rfl)
            replace x5 := (hX.cell 5).trans (show _ = some (.bool x.done) from rfl)
            skip
            have RS := hSs.rds
            have RU := hUs.rds
            clear hSs hUs
            have hzy' : z.yes.length ≤ 1048576 := by omega
            have hzn' : z.no.length ≤ 1048576 := by omega
            obtain ⟨zs, zb, hdt⟩ := dtOut_form z
            have HZ := Lib.hid hdt
            clear hdt
            have yhD := hD.lt
            have yhX := hX.lt
            go_wp2_with fail
            refine (iDecidedText_is z S U' sc uc hzy' hzn' _ HZ.out _ (RS.below (by repeat (first | exact Below.refl _ _ | refine Below.alloc ?_ (by first | exact Nat.le_refl _ | (simp <;> omega)) _ | refine Below.setCell ?_ (by first | exact Nat.le_refl _ | (simp <;> omega)) _))) (RU.below (by repeat (first | exact Below.refl _ _ | refine Below.alloc ?_ (by first | exact Nat.le_refl _ | (simp <;> omega)) _ | refine Below.setCell ?_ (by first | exact Nat.le_refl _ | (simp <;> omega)) _))) (HT.below (by repeat (first | exact Below.refl _ _ | refine Below.alloc ?_ (by first | exact Nat.le_refl _ | (simp <;> omega)) _ | refine Below.setCell ?_ (by first | exact Nat.le_refl _ | (simp <;> omega)) _)))).mono ?_
            rintro e w15 ⟨rfl, hb15⟩
            have hq15 : Below w14.heap.size w14 w15 := bth (by repeat (first | exact Below.refl _ _ | refine Below.alloc ?_ (by first | exact Nat.le_refl _ | (simp <;> omega)) _ | refine Below.setCell ?_ (by first | exact Nat.le_refl _ | (simp <;> omega)) _)) hb15
            replace HB := bth HB hq15
            replace hR := hR.below hq15
            replace HT := HT.below hq15
            replace RS := RS.below hq15
            replace RU := RU.below hq15
            replace hD := hD.below hq15 hD.lt
            replace b0 := (hD.cell 0).trans (show _ = some (.int .i64 d.id) from rfl)
            replace b1 := (hD.cell 1).trans (show _ = some (.int .i64 d.day) from rfl)
            replace b2 := (hD.cell 2).trans (show _ = some (.int .i64 d.need) from rfl)
            replace b3 := (hD.cell 3).trans (show _ = some (.slice Y d.yes.length yc) from rfl)
            replace b4 := (hD.cell 4).trans (show _ = some (.slice N' d.no.length nc) from rfl)
            replace b5 := (hD.cell 5).trans (show _ = some (.bool d.done) from rfl)
            replace hX := hX.below hq15 hX.lt
            replace x0 := (hX.cell 0).trans (show _ = some (.int .i64 x.id) from rfl)
            replace x1 := (hX.cell 1).trans (show _ = some (.int .i64 x.day) from rfl)
            replace x2 := (hX.cell 2).trans (show _ = some (.int .i64 x.need) from rfl)
            replace x3 := (hX.cell 3).trans (show _ = some (.slice P x.yes.length pc) from rfl)
            replace x4 := (hX.cell 4).trans (show _ = some (.slice Q' x.no.length qc) from rfl)
            replace x5 := (hX.cell 5).trans (show _ = some (.bool x.done) from rfl)
            have hZ : Blk w15 (w14.heap.size) 35 #[.int .i64 z.id, .int .i64 z.day, .int .i64 z.need, .slice S z.yes.length sc, .slice U' z.no.length uc, .bool z.done] := Blk.below (by repeat (first | exact Blk.new _ _ _ | exact Blk.new2 _ _ _ _ | exact Blk.new3 _ _ _ _ _ | exact Blk.new4 _ _ _ _ _ _ | refine Blk.alloc ?_ _)) hb15 (by simp <;> omega)
            have z0 := (hZ.cell 0).trans (show _ = some (.int .i64 z.id) from rfl)
            have z1 := (hZ.cell 1).trans (show _ = some (.int .i64 z.day) from rfl)
            have z2 := (hZ.cell 2).trans (show _ = some (.int .i64 z.need) from rfl)
            have z3 := (hZ.cell 3).trans (show _ = some (.slice S z.yes.length sc) from rfl)
            have z4 := (hZ.cell 4).trans (show _ = some (.slice U' z.no.length uc) from rfl)
            have z5 := (hZ.cell 5).trans (show _ = some (.bool z.done) from rfl)
            have yhD := hD.lt
            have yhX := hX.lt
            have yhZ := hZ.lt
            go_wp2_with fail
            refine (sDecidedText_is z S U' sc uc hzy' hzn' _ HZ.out _ (RS.below (by repeat (first | exact Below.refl _ _ | refine Below.alloc ?_ (by first | exact Nat.le_refl _ | (simp <;> omega)) _ | refine Below.setCell ?_ (by first | exact Nat.le_refl _ | (simp <;> omega)) _))) (RU.below (by repeat (first | exact Below.refl _ _ | refine Below.alloc ?_ (by first | exact Nat.le_refl _ | (simp <;> omega)) _ | refine Below.setCell ?_ (by first | exact Nat.le_refl _ | (simp <;> omega)) _)))).mono ?_
            rintro e w16 ⟨rfl, hb16⟩
            have hq16 : Below w15.heap.size w15 w16 := bth (by repeat (first | exact Below.refl _ _ | refine Below.alloc ?_ (by first | exact Nat.le_refl _ | (simp <;> omega)) _ | refine Below.setCell ?_ (by first | exact Nat.le_refl _ | (simp <;> omega)) _)) hb16
            replace HB := bth HB hq16
            replace hR := hR.below hq16
            replace HT := HT.below hq16
            replace RS := RS.below hq16
            replace RU := RU.below hq16
            replace hD := hD.below hq16 hD.lt
            replace b0 := (hD.cell 0).trans (show _ = some (.int .i64 d.id) from rfl)
            replace b1 := (hD.cell 1).trans (show _ = some (.int .i64 d.day) from rfl)
            replace b2 := (hD.cell 2).trans (show _ = some (.int .i64 d.need) from rfl)
            replace b3 := (hD.cell 3).trans (show _ = some (.slice Y d.yes.length yc) from rfl)
            replace b4 := (hD.cell 4).trans (show _ = some (.slice N' d.no.length nc) from rfl)
            replace b5 := (hD.cell 5).trans (show _ = some (.bool d.done) from rfl)
            replace hX := hX.below hq16 hX.lt
            replace x0 := (hX.cell 0).trans (show _ = some (.int .i64 x.id) from rfl)
            replace x1 := (hX.cell 1).trans (show _ = some (.int .i64 x.day) from rfl)
            replace x2 := (hX.cell 2).trans (show _ = some (.int .i64 x.need) from rfl)
            replace x3 := (hX.cell 3).trans (show _ = some (.slice P x.yes.length pc) from rfl)
            replace x4 := (hX.cell 4).trans (show _ = some (.slice Q' x.no.length qc) from rfl)
            replace x5 := (hX.cell 5).trans (show _ = some (.bool x.done) from rfl)
            replace hZ := hZ.below hq16 hZ.lt
            replace z0 := (hZ.cell 0).trans (show _ = some (.int .i64 z.id) from rfl)
            replace z1 := (hZ.cell 1).trans (show _ = some (.int .i64 z.day) from rfl)
            replace z2 := (hZ.cell 2).trans (show _ = some (.int .i64 z.need) from rfl)
            replace z3 := (hZ.cell 3).trans (show _ = some (.slice S z.yes.length sc) from rfl)
            replace z4 := (hZ.cell 4).trans (show _ = some (.slice U' z.no.length uc) from rfl)
            replace z5 := (hZ.cell 5).trans (show _ = some (.bool z.done) from rfl)
            go_wp2
            go_ret
            exact ⟨rfl, (bth HB (by repeat (first | exact Below.refl _ _ | refine Below.alloc ?_ (by first | exact Nat.le_refl _ | (simp <;> omega)) _ | refine Below.setCell ?_ (by first | exact Nat.le_refl _ | (simp <;> omega)) _)))⟩
          · skip
            have yhD := hD.lt
            have yhX := hX.lt
            go_wp2_with fail
            refine (drawDt_is A c cs hcs _ (hR.below (by repeat (first | exact Below.refl _ _ | refine Below.alloc ?_ (by first | exact Nat.le_refl _ | (simp <;> omega)) _ | refine Below.setCell ?_ (by first | exact Nat.le_refl _ | (simp <;> omega)) _)))).mono ?_
            rintro e w14 ⟨z, S, U', sc, uc, rfl, hzy, hzn, hSs, hUs, hb14⟩
            have hq14 : Below w13.heap.size w13 w14 := bth (by repeat (first | exact Below.refl _ _ | refine Below.alloc ?_ (by first | exact Nat.le_refl _ | (simp <;> omega)) _ | refine Below.setCell ?_ (by first | exact Nat.le_refl _ | (simp <;> omega)) _)) hb14
            replace HB := bth HB hq14
            replace hR := hR.below hq14
            replace HT := HT.below hq14
            replace hD := hD.below hq14 hD.lt
            replace b0 := (hD.cell 0).trans (show _ = some (.int .i64 d.id) from rfl)
            replace b1 := (hD.cell 1).trans (show _ = some (.int .i64 d.day) from rfl)
            replace b2 := (hD.cell 2).trans (show _ = some (.int .i64 d.need) from rfl)
            replace b3 := (hD.cell 3).trans (show _ = some (.slice Y d.yes.length yc) from rfl)
            replace b4 := (hD.cell 4).trans (show _ = some (.slice N' d.no.length nc) from rfl)
            replace b5 := (hD.cell 5).trans (show _ = some (.bool d.done) from rfl)
            replace hX := hX.below hq14 hX.lt
            replace x0 := (hX.cell 0).trans (show _ = some (.int .i64 x.id) from rfl)
            replace x1 := (hX.cell 1).trans (show _ = some (.int .i64 x.day) from rfl)
            replace x2 := (hX.cell 2).trans (show _ = some (.int .i64 x.need) from rfl)
            replace x3 := (hX.cell 3).trans (show _ = some (.slice P x.yes.length pc) from rfl)
            replace x4 := (hX.cell 4).trans (show _ = some (.slice Q' x.no.length qc) from rfl)
            replace x5 := (hX.cell 5).trans (show _ = some (.bool x.done) from rfl)
            skip
            have RS := hSs.rds
            have RU := hUs.rds
            clear hSs hUs
            have hzy' : z.yes.length ≤ 1048576 := by omega
            have hzn' : z.no.length ≤ 1048576 := by omega
            obtain ⟨zs, zb, hdt⟩ := dtOut_form z
            have HZ := Lib.hid hdt
            clear hdt
            have yhD := hD.lt
            have yhX := hX.lt
            go_wp2_with fail
            refine (iDecidedText_is z S U' sc uc hzy' hzn' _ HZ.out _ (RS.below (by repeat (first | exact Below.refl _ _ | refine Below.alloc ?_ (by first | exact Nat.le_refl _ | (simp <;> omega)) _ | refine Below.setCell ?_ (by first | exact Nat.le_refl _ | (simp <;> omega)) _))) (RU.below (by repeat (first | exact Below.refl _ _ | refine Below.alloc ?_ (by first | exact Nat.le_refl _ | (simp <;> omega)) _ | refine Below.setCell ?_ (by first | exact Nat.le_refl _ | (simp <;> omega)) _))) (HT.below (by repeat (first | exact Below.refl _ _ | refine Below.alloc ?_ (by first | exact Nat.le_refl _ | (simp <;> omega)) _ | refine Below.setCell ?_ (by first | exact Nat.le_refl _ | (simp <;> omega)) _)))).mono ?_
            rintro e w15 ⟨rfl, hb15⟩
            have hq15 : Below w14.heap.size w14 w15 := bth (by repeat (first | exact Below.refl _ _ | refine Below.alloc ?_ (by first | exact Nat.le_refl _ | (simp <;> omega)) _ | refine Below.setCell ?_ (by first | exact Nat.le_refl _ | (simp <;> omega)) _)) hb15
            replace HB := bth HB hq15
            replace hR := hR.below hq15
            replace HT := HT.below hq15
            replace RS := RS.below hq15
            replace RU := RU.below hq15
            replace hD := hD.below hq15 hD.lt
            replace b0 := (hD.cell 0).trans (show _ = some (.int .i64 d.id) from rfl)
            replace b1 := (hD.cell 1).trans (show _ = some (.int .i64 d.day) from rfl)
            replace b2 := (hD.cell 2).trans (show _ = some (.int .i64 d.need) from rfl)
            replace b3 := (hD.cell 3).trans (show _ = some (.slice Y d.yes.length yc) from rfl)
            replace b4 := (hD.cell 4).trans (show _ = some (.slice N' d.no.length nc) from rfl)
            replace b5 := (hD.cell 5).trans (show _ = some (.bool d.done) from rfl)
            replace hX := hX.below hq15 hX.lt
            replace x0 := (hX.cell 0).trans (show _ = some (.int .i64 x.id) from rfl)
            replace x1 := (hX.cell 1).trans (show _ = some (.int .i64 x.day) from rfl)
            replace x2 := (hX.cell 2).trans (show _ = some (.int .i64 x.need) from rfl)
            replace x3 := (hX.cell 3).trans (show _ = some (.slice P x.yes.length pc) from rfl)
            replace x4 := (hX.cell 4).trans (show _ = some (.slice Q' x.no.length qc) from rfl)
            replace x5 := (hX.cell 5).trans (show _ = some (.bool x.done) from rfl)
            have hZ : Blk w15 (w14.heap.size) 35 #[.int .i64 z.id, .int .i64 z.day, .int .i64 z.need, .slice S z.yes.length sc, .slice U' z.no.length uc, .bool z.done] := Blk.below (by repeat (first | exact Blk.new _ _ _ | exact Blk.new2 _ _ _ _ | exact Blk.new3 _ _ _ _ _ | exact Blk.new4 _ _ _ _ _ _ | refine Blk.alloc ?_ _)) hb15 (by simp <;> omega)
            have z0 := (hZ.cell 0).trans (show _ = some (.int .i64 z.id) from rfl)
            have z1 := (hZ.cell 1).trans (show _ = some (.int .i64 z.day) from rfl)
            have z2 := (hZ.cell 2).trans (show _ = some (.int .i64 z.need) from rfl)
            have z3 := (hZ.cell 3).trans (show _ = some (.slice S z.yes.length sc) from rfl)
            have z4 := (hZ.cell 4).trans (show _ = some (.slice U' z.no.length uc) from rfl)
            have z5 := (hZ.cell 5).trans (show _ = some (.bool z.done) from rfl)
            have yhD := hD.lt
            have yhX := hX.lt
            have yhZ := hZ.lt
            go_wp2_with fail
            refine (sDecidedText_is z S U' sc uc hzy' hzn' _ HZ.out _ (RS.below (by repeat (first | exact Below.refl _ _ | refine Below.alloc ?_ (by first | exact Nat.le_refl _ | (simp <;> omega)) _ | refine Below.setCell ?_ (by first | exact Nat.le_refl _ | (simp <;> omega)) _))) (RU.below (by repeat (first | exact Below.refl _ _ | refine Below.alloc ?_ (by first | exact Nat.le_refl _ | (simp <;> omega)) _ | refine Below.setCell ?_ (by first | exact Nat.le_refl _ | (simp <;> omega)) _)))).mono ?_
            rintro e w16 ⟨rfl, hb16⟩
            have hq16 : Below w15.heap.size w15 w16 := bth (by repeat (first | exact Below.refl _ _ | refine Below.alloc ?_ (by first | exact Nat.le_refl _ | (simp <;> omega)) _ | refine Below.setCell ?_ (by first | exact Nat.le_refl _ | (simp <;> omega)) _)) hb16
            replace HB := bth HB hq16
            replace hR := hR.below hq16
            replace HT := HT.below hq16
            replace RS := RS.below hq16
            replace RU := RU.below hq16
            replace hD := hD.below hq16 hD.lt
            replace b0 := (hD.cell 0).trans (show _ = some (.int .i64 d.id) from rfl)
            replace b1 := (hD.cell 1).trans (show _ = some (.int .i64 d.day) from rfl)
            replace b2 := (hD.cell 2).trans (show _ = some (.int .i64 d.need) from rfl)
            replace b3 := (hD.cell 3).trans (show _ = some (.slice Y d.yes.length yc) from rfl)
            replace b4 := (hD.cell 4).trans (show _ = some (.slice N' d.no.length nc) from rfl)
            replace b5 := (hD.cell 5).trans (show _ = some (.bool d.done) from rfl)
            replace hX := hX.below hq16 hX.lt
            replace x0 := (hX.cell 0).trans (show _ = some (.int .i64 x.id) from rfl)
            replace x1 := (hX.cell 1).trans (show _ = some (.int .i64 x.day) from rfl)
            replace x2 := (hX.cell 2).trans (show _ = some (.int .i64 x.need) from rfl)
            replace x3 := (hX.cell 3).trans (show _ = some (.slice P x.yes.length pc) from rfl)
            replace x4 := (hX.cell 4).trans (show _ = some (.slice Q' x.no.length qc) from rfl)
            replace x5 := (hX.cell 5).trans (show _ = some (.bool x.done) from rfl)
            replace hZ := hZ.below hq16 hZ.lt
            replace z0 := (hZ.cell 0).trans (show _ = some (.int .i64 z.id) from rfl)
            replace z1 := (hZ.cell 1).trans (show _ = some (.int .i64 z.day) from rfl)
            replace z2 := (hZ.cell 2).trans (show _ = some (.int .i64 z.need) from rfl)
            replace z3 := (hZ.cell 3).trans (show _ = some (.slice S z.yes.length sc) from rfl)
            replace z4 := (hZ.cell 4).trans (show _ = some (.slice U' z.no.length uc) from rfl)
            replace z5 := (hZ.cell 5).trans (show _ = some (.bool z.done) from rfl)
            go_wp2
            go_ret
            exact ⟨rfl, (bth HB (by repeat (first | exact Below.refl _ _ | refine Below.alloc ?_ (by first | exact Nat.le_refl _ | (simp <;> omega)) _ | refine Below.setCell ?_ (by first | exact Nat.le_refl _ | (simp <;> omega)) _)))⟩
    · rename_i n
      cases ha : d.ado
      · skip
        have E1 : Hid (swOut d = .tuple #[.int .i64 n, .bool true]) := Lib.hid (by simp [swOut, hd, hf])
        have E2 : Hid (wasOut d = .tuple #[.bool false, .bool true]) := Lib.hid (by simp [wasOut, hd, ha])
        have EL : Hid (psL d = d.no) := Lib.hid (by simp [psL, hd, Dec.side, ha])
        have HA : Hid (adoB d.need d.yes.length d.no.length = false) := Lib.hid ha
        obtain ⟨hn1, hn2⟩ := firstTo_spec hf
        have hsw : swA d n = true := by simp only [swP, ha, bne_iff_ne, ne_eq] at hn2; revert hn2; cases swA d n <;> simp
        have hnl : n ≤ d.no.length := by simp only [Dec.side, ha] at hn1; simp at hn1; omega
        have HW : Hid (adoB d.need ((d.yes.length : Int) + n) ((d.no.length : Int) - n) = true) := Lib.hid (by simpa [swA, ha] using hsw)
        clear hn1 hn2 hsw
        clear hd hf ha hnd
        go_wp2_with fail
        refine (iSwitches_is d Y N' yc nc hy hn _ E1.out _ (RY.below (by repeat (first | exact Below.refl _ _ | refine Below.alloc ?_ (by first | exact Nat.le_refl _ | (simp <;> omega)) _ | refine Below.setCell ?_ (by first | exact Nat.le_refl _ | (simp <;> omega)) _))) (RN.below (by repeat (first | exact Below.refl _ _ | refine Below.alloc ?_ (by first | exact Nat.le_refl _ | (simp <;> omega)) _ | refine Below.setCell ?_ (by first | exact Nat.le_refl _ | (simp <;> omega)) _)))).mono ?_
        rintro e w2 ⟨rfl, hb2⟩
        have hq2 : Below w1.heap.size w1 w2 := bth (by repeat (first | exact Below.refl _ _ | refine Below.alloc ?_ (by first | exact Nat.le_refl _ | (simp <;> omega)) _ | refine Below.setCell ?_ (by first | exact Nat.le_refl _ | (simp <;> omega)) _)) hb2
        replace HB := bth HB hq2
        replace hR := hR.below hq2
        replace HT := HT.below hq2
        replace RY := RY.below hq2
        replace RN := RN.below hq2
        have hD : Blk w2 (w1.heap.size) 35 #[.int .i64 d.id, .int .i64 d.day, .int .i64 d.need, .slice Y d.yes.length yc, .slice N' d.no.length nc, .bool d.done] := Blk.below (by repeat (first | exact Blk.new _ _ _ | exact Blk.new2 _ _ _ _ | exact Blk.new3 _ _ _ _ _ | exact Blk.new4 _ _ _ _ _ _ | refine Blk.alloc ?_ _)) hb2 (by simp <;> omega)
        have b0 := (hD.cell 0).trans (show _ = some (.int .i64 d.id) from rfl)
        have b1 := (hD.cell 1).trans (show _ = some (.int .i64 d.day) from rfl)
        have b2 := (hD.cell 2).trans (show _ = some (.int .i64 d.need) from rfl)
        have b3 := (hD.cell 3).trans (show _ = some (.slice Y d.yes.length yc) from rfl)
        have b4 := (hD.cell 4).trans (show _ = some (.slice N' d.no.length nc) from rfl)
        have b5 := (hD.cell 5).trans (show _ = some (.bool d.done) from rfl)
        have yhD := hD.lt
        go_wp2_with fail
        refine (sSwitches_is d Y N' yc nc hy hn hYn.out hNn.out _ E1.out _ (RY.below (by repeat (first | exact Below.refl _ _ | refine Below.alloc ?_ (by first | exact Nat.le_refl _ | (simp <;> omega)) _ | refine Below.setCell ?_ (by first | exact Nat.le_refl _ | (simp <;> omega)) _))) (RN.below (by repeat (first | exact Below.refl _ _ | refine Below.alloc ?_ (by first | exact Nat.le_refl _ | (simp <;> omega)) _ | refine Below.setCell ?_ (by first | exact Nat.le_refl _ | (simp <;> omega)) _)))).mono ?_
        rintro e w3 ⟨rfl, hb3⟩
        have hq3 : Below w2.heap.size w2 w3 := bth (by repeat (first | exact Below.refl _ _ | refine Below.alloc ?_ (by first | exact Nat.le_refl _ | (simp <;> omega)) _ | refine Below.setCell ?_ (by first | exact Nat.le_refl _ | (simp <;> omega)) _)) hb3
        replace HB := bth HB hq3
        replace hR := hR.below hq3
        replace HT := HT.below hq3
        replace RY := RY.below hq3
        replace RN := RN.below hq3
        replace hD := hD.below hq3 hD.lt
        replace b0 := (hD.cell 0).trans (show _ = some (.int .i64 d.id) from rfl)
        replace b1 := (hD.cell 1).trans (show _ = some (.int .i64 d.day) from rfl)
        replace b2 := (hD.cell 2).trans (show _ = some (.int .i64 d.need) from rfl)
        replace b3 := (hD.cell 3).trans (show _ = some (.slice Y d.yes.length yc) from rfl)
        replace b4 := (hD.cell 4).trans (show _ = some (.slice N' d.no.length nc) from rfl)
        replace b5 := (hD.cell 5).trans (show _ = some (.bool d.done) from rfl)
        have yhD := hD.lt
        go_wp2_with fail
        refine (iWasAdopted_is d Y N' yc nc hy hn _ E2.out _ (RY.below (by repeat (first | exact Below.refl _ _ | refine Below.alloc ?_ (by first | exact Nat.le_refl _ | (simp <;> omega)) _ | refine Below.setCell ?_ (by first | exact Nat.le_refl _ | (simp <;> omega)) _))) (RN.below (by repeat (first | exact Below.refl _ _ | refine Below.alloc ?_ (by first | exact Nat.le_refl _ | (simp <;> omega)) _ | refine Below.setCell ?_ (by first | exact Nat.le_refl _ | (simp <;> omega)) _)))).mono ?_
        rintro e w4 ⟨rfl, hb4⟩
        have hq4 : Below w3.heap.size w3 w4 := bth (by repeat (first | exact Below.refl _ _ | refine Below.alloc ?_ (by first | exact Nat.le_refl _ | (simp <;> omega)) _ | refine Below.setCell ?_ (by first | exact Nat.le_refl _ | (simp <;> omega)) _)) hb4
        replace HB := bth HB hq4
        replace hR := hR.below hq4
        replace HT := HT.below hq4
        replace RY := RY.below hq4
        replace RN := RN.below hq4
        replace hD := hD.below hq4 hD.lt
        replace b0 := (hD.cell 0).trans (show _ = some (.int .i64 d.id) from rfl)
        replace b1 := (hD.cell 1).trans (show _ = some (.int .i64 d.day) from rfl)
        replace b2 := (hD.cell 2).trans (show _ = some (.int .i64 d.need) from rfl)
        replace b3 := (hD.cell 3).trans (show _ = some (.slice Y d.yes.length yc) from rfl)
        replace b4 := (hD.cell 4).trans (show _ = some (.slice N' d.no.length nc) from rfl)
        replace b5 := (hD.cell 5).trans (show _ = some (.bool d.done) from rfl)
        have yhD := hD.lt
        go_wp2_with fail
        refine (iPrevL_is d Y N' yc nc d.no true EL.out HD.out hy hn hYn.out hNn.out _ (RY.below (by repeat (first | exact Below.refl _ _ | refine Below.alloc ?_ (by first | exact Nat.le_refl _ | (simp <;> omega)) _ | refine Below.setCell ?_ (by first | exact Nat.le_refl _ | (simp <;> omega)) _))) (RN.below (by repeat (first | exact Below.refl _ _ | refine Below.alloc ?_ (by first | exact Nat.le_refl _ | (simp <;> omega)) _ | refine Below.setCell ?_ (by first | exact Nat.le_refl _ | (simp <;> omega)) _)))).mono ?_
        rintro e w5 ⟨A7, c7, rfl, O7, hb5⟩
        have hq5 : Below w4.heap.size w4 w5 := bth (by repeat (first | exact Below.refl _ _ | refine Below.alloc ?_ (by first | exact Nat.le_refl _ | (simp <;> omega)) _ | refine Below.setCell ?_ (by first | exact Nat.le_refl _ | (simp <;> omega)) _)) hb5
        replace HB := bth HB hq5
        replace hR := hR.below hq5
        replace HT := HT.below hq5
        replace RY := RY.below hq5
        replace RN := RN.below hq5
        replace hD := hD.below hq5 hD.lt
        replace b0 := (hD.cell 0).trans (show _ = some (.int .i64 d.id) from rfl)
        replace b1 := (hD.cell 1).trans (show _ = some (.int .i64 d.day) from rfl)
        replace b2 := (hD.cell 2).trans (show _ = some (.int .i64 d.need) from rfl)
        replace b3 := (hD.cell 3).trans (show _ = some (.slice Y d.yes.length yc) from rfl)
        replace b4 := (hD.cell 4).trans (show _ = some (.slice N' d.no.length nc) from rfl)
        replace b5 := (hD.cell 5).trans (show _ = some (.bool d.done) from rfl)
        have Q7 := O7.rds (hf := intC_len)
        clear O7
        have yhD := hD.lt
        go_wp2_with fail
        refine (sWasAdopted_is d Y N' yc nc hy hn _ E2.out _ (RY.below (by repeat (first | exact Below.refl _ _ | refine Below.alloc ?_ (by first | exact Nat.le_refl _ | (simp <;> omega)) _ | refine Below.setCell ?_ (by first | exact Nat.le_refl _ | (simp <;> omega)) _))) (RN.below (by repeat (first | exact Below.refl _ _ | refine Below.alloc ?_ (by first | exact Nat.le_refl _ | (simp <;> omega)) _ | refine Below.setCell ?_ (by first | exact Nat.le_refl _ | (simp <;> omega)) _)))).mono ?_
        rintro e w6 ⟨rfl, hb6⟩
        have hq6 : Below w5.heap.size w5 w6 := bth (by repeat (first | exact Below.refl _ _ | refine Below.alloc ?_ (by first | exact Nat.le_refl _ | (simp <;> omega)) _ | refine Below.setCell ?_ (by first | exact Nat.le_refl _ | (simp <;> omega)) _)) hb6
        replace HB := bth HB hq6
        replace hR := hR.below hq6
        replace HT := HT.below hq6
        replace RY := RY.below hq6
        replace RN := RN.below hq6
        replace Q7 := Q7.below hq6
        replace hD := hD.below hq6 hD.lt
        replace b0 := (hD.cell 0).trans (show _ = some (.int .i64 d.id) from rfl)
        replace b1 := (hD.cell 1).trans (show _ = some (.int .i64 d.day) from rfl)
        replace b2 := (hD.cell 2).trans (show _ = some (.int .i64 d.need) from rfl)
        replace b3 := (hD.cell 3).trans (show _ = some (.slice Y d.yes.length yc) from rfl)
        replace b4 := (hD.cell 4).trans (show _ = some (.slice N' d.no.length nc) from rfl)
        replace b5 := (hD.cell 5).trans (show _ = some (.bool d.done) from rfl)
        have yhD := hD.lt
        go_wp2_with fail
        refine (isValidDecided_is d Y N' yc nc hy hn true HD.out _ (RY.below (by repeat (first | exact Below.refl _ _ | refine Below.alloc ?_ (by first | exact Nat.le_refl _ | (simp <;> omega)) _ | refine Below.setCell ?_ (by first | exact Nat.le_refl _ | (simp <;> omega)) _))) (RN.below (by repeat (first | exact Below.refl _ _ | refine Below.alloc ?_ (by first | exact Nat.le_refl _ | (simp <;> omega)) _ | refine Below.setCell ?_ (by first | exact Nat.le_refl _ | (simp <;> omega)) _)))).mono ?_
        rintro e w7 ⟨rfl, hb7⟩
        have hq7 : Below w6.heap.size w6 w7 := bth (by repeat (first | exact Below.refl _ _ | refine Below.alloc ?_ (by first | exact Nat.le_refl _ | (simp <;> omega)) _ | refine Below.setCell ?_ (by first | exact Nat.le_refl _ | (simp <;> omega)) _)) hb7
        replace HB := bth HB hq7
        replace hR := hR.below hq7
        replace HT := HT.below hq7
        replace RY := RY.below hq7
        replace RN := RN.below hq7
        replace Q7 := Q7.below hq7
        replace hD := hD.below hq7 hD.lt
        replace b0 := (hD.cell 0).trans (show _ = some (.int .i64 d.id) from rfl)
        replace b1 := (hD.cell 1).trans (show _ = some (.int .i64 d.day) from rfl)
        replace b2 := (hD.cell 2).trans (show _ = some (.int .i64 d.need) from rfl)
        replace b3 := (hD.cell 3).trans (show _ = some (.slice Y d.yes.length yc) from rfl)
        replace b4 := (hD.cell 4).trans (show _ = some (.slice N' d.no.length nc) from rfl)
        replace b5 := (hD.cell 5).trans (show _ = some (.bool d.done) from rfl)
        have yhD := hD.lt
        go_wp2_with fail
        refine (sPrevL_is d Y N' yc nc d.no true EL.out HD.out hy hn hYn.out hNn.out _ (RY.below (by repeat (first | exact Below.refl _ _ | refine Below.alloc ?_ (by first | exact Nat.le_refl _ | (simp <;> omega)) _ | refine Below.setCell ?_ (by first | exact Nat.le_refl _ | (simp <;> omega)) _))) (RN.below (by repeat (first | exact Below.refl _ _ | refine Below.alloc ?_ (by first | exact Nat.le_refl _ | (simp <;> omega)) _ | refine Below.setCell ?_ (by first | exact Nat.le_refl _ | (simp <;> omega)) _)))).mono ?_
        rintro e w8 ⟨A8, c8, rfl, O8, hb8⟩
        have hq8 : Below w7.heap.size w7 w8 := bth (by repeat (first | exact Below.refl _ _ | refine Below.alloc ?_ (by first | exact Nat.le_refl _ | (simp <;> omega)) _ | refine Below.setCell ?_ (by first | exact Nat.le_refl _ | (simp <;> omega)) _)) hb8
        replace HB := bth HB hq8
        replace hR := hR.below hq8
        replace HT := HT.below hq8
        replace RY := RY.below hq8
        replace RN := RN.below hq8
        replace Q7 := Q7.below hq8
        replace hD := hD.below hq8 hD.lt
        replace b0 := (hD.cell 0).trans (show _ = some (.int .i64 d.id) from rfl)
        replace b1 := (hD.cell 1).trans (show _ = some (.int .i64 d.day) from rfl)
        replace b2 := (hD.cell 2).trans (show _ = some (.int .i64 d.need) from rfl)
        replace b3 := (hD.cell 3).trans (show _ = some (.slice Y d.yes.length yc) from rfl)
        replace b4 := (hD.cell 4).trans (show _ = some (.slice N' d.no.length nc) from rfl)
        replace b5 := (hD.cell 5).trans (show _ = some (.bool d.done) from rfl)
        have Q8 := O8.rds (hf := intC_len)
        clear O8
        have yhD := hD.lt
        go_wp2_with fail
        refine (rInts_is A7 A8 c7 c8 d.no (by first | omega | simp) _ (Q7.below (by repeat (first | exact Below.refl _ _ | refine Below.alloc ?_ (by first | exact Nat.le_refl _ | (simp <;> omega)) _ | refine Below.setCell ?_ (by first | exact Nat.le_refl _ | (simp <;> omega)) _))) (Q8.below (by repeat (first | exact Below.refl _ _ | refine Below.alloc ?_ (by first | exact Nat.le_refl _ | (simp <;> omega)) _ | refine Below.setCell ?_ (by first | exact Nat.le_refl _ | (simp <;> omega)) _)))).mono ?_
        rintro e w9 ⟨rfl, hb9⟩
        have hq9 : Below w8.heap.size w8 w9 := bth (by repeat (first | exact Below.refl _ _ | refine Below.alloc ?_ (by first | exact Nat.le_refl _ | (simp <;> omega)) _ | refine Below.setCell ?_ (by first | exact Nat.le_refl _ | (simp <;> omega)) _)) hb9
        replace HB := bth HB hq9
        replace hR := hR.below hq9
        replace HT := HT.below hq9
        replace RY := RY.below hq9
        replace RN := RN.below hq9
        replace Q7 := Q7.below hq9
        replace Q8 := Q8.below hq9
        replace hD := hD.below hq9 hD.lt
        replace b0 := (hD.cell 0).trans (show _ = some (.int .i64 d.id) from rfl)
        replace b1 := (hD.cell 1).trans (show _ = some (.int .i64 d.day) from rfl)
        replace b2 := (hD.cell 2).trans (show _ = some (.int .i64 d.need) from rfl)
        replace b3 := (hD.cell 3).trans (show _ = some (.slice Y d.yes.length yc) from rfl)
        replace b4 := (hD.cell 4).trans (show _ = some (.slice N' d.no.length nc) from rfl)
        replace b5 := (hD.cell 5).trans (show _ = some (.bool d.done) from rfl)
        clear Q7 Q8
        have yhD := hD.lt
        go_wp2_with fail
        refine (isAdoptedT_is d.need d.yes.length d.no.length HND.out (by omega) (by omega) (by omega) (by omega) false HA.out _).mono ?_
        rintro e w10 ⟨rfl, hb10⟩
        have hq10 : Below w9.heap.size w9 w10 := bth (by repeat (first | exact Below.refl _ _ | refine Below.alloc ?_ (by first | exact Nat.le_refl _ | (simp <;> omega)) _ | refine Below.setCell ?_ (by first | exact Nat.le_refl _ | (simp <;> omega)) _)) hb10
        replace HB := bth HB hq10
        replace hR := hR.below hq10
        replace HT := HT.below hq10
        replace RY := RY.below hq10
        replace RN := RN.below hq10
        replace hD := hD.below hq10 hD.lt
        replace b0 := (hD.cell 0).trans (show _ = some (.int .i64 d.id) from rfl)
        replace b1 := (hD.cell 1).trans (show _ = some (.int .i64 d.day) from rfl)
        replace b2 := (hD.cell 2).trans (show _ = some (.int .i64 d.need) from rfl)
        replace b3 := (hD.cell 3).trans (show _ = some (.slice Y d.yes.length yc) from rfl)
        replace b4 := (hD.cell 4).trans (show _ = some (.slice N' d.no.length nc) from rfl)
        replace b5 := (hD.cell 5).trans (show _ = some (.bool d.done) from rfl)
        have yhD := hD.lt
        go_upto_region 21 with fail
        clear b0 b1 b2 b3 b4 b5
        have b0 := fun K : Kin w10.heap.size w10 => ((hD.below K.below hD.lt).cell 0).trans (show _ = some (.int .i64 d.id) from rfl)
        have b1 := fun K : Kin w10.heap.size w10 => ((hD.below K.below hD.lt).cell 1).trans (show _ = some (.int .i64 d.day) from rfl)
        have b2 := fun K : Kin w10.heap.size w10 => ((hD.below K.below hD.lt).cell 2).trans (show _ = some (.int .i64 d.need) from rfl)
        have b3 := fun K : Kin w10.heap.size w10 => ((hD.below K.below hD.lt).cell 3).trans (show _ = some (.slice Y d.yes.length yc) from rfl)
        have b4 := fun K : Kin w10.heap.size w10 => ((hD.below K.below hD.lt).cell 4).trans (show _ = some (.slice N' d.no.length nc) from rfl)
        have b5 := fun K : Kin w10.heap.size w10 => ((hD.below K.below hD.lt).cell 5).trans (show _ = some (.bool d.done) from rfl)
        refine wp_region_kin (by kernel_rfl) (by kernel_rfl) ?_
        repeat (go_big_quiet_step ((fail)))
        refine wpQuiet_nil ?_
        intro K
        clear b0 b1 b2 b3 b4 b5
        have hq11 : Below w10.heap.size w10 K.world := bth (by repeat (first | exact Below.refl _ _ | refine Below.alloc ?_ (by first | exact Nat.le_refl _ | (simp <;> omega)) _ | refine Below.setCell ?_ (by first | exact Nat.le_refl _ | (simp <;> omega)) _)) K.below
        replace HB := bth HB hq11
        replace hR := hR.below hq11
        replace HT := HT.below hq11
        replace RY := RY.below hq11
        replace RN := RN.below hq11
        replace hD := hD.below hq11 hD.lt
        have b0 := (hD.cell 0).trans (show _ = some (.int .i64 d.id) from rfl)
        have b1 := (hD.cell 1).trans (show _ = some (.int .i64 d.day) from rfl)
        have b2 := (hD.cell 2).trans (show _ = some (.int .i64 d.need) from rfl)
        have b3 := (hD.cell 3).trans (show _ = some (.slice Y d.yes.length yc) from rfl)
        have b4 := (hD.cell 4).trans (show _ = some (.slice N' d.no.length nc) from rfl)
        have b5 := (hD.cell 5).trans (show _ = some (.bool d.done) from rfl)
        have yhD := hD.lt
        go_wp2_with fail
        refine (isAdoptedT_is d.need ((d.yes.length : Int) + n) ((d.no.length : Int) - n) HND.out (by omega) (by omega) (by omega) (by omega) true HW.out _).mono ?_
        rintro e w12 ⟨rfl, hb12⟩
        have hq12 : Below K.world.heap.size K.world w12 := bth (by repeat (first | exact Below.refl _ _ | refine Below.alloc ?_ (by first | exact Nat.le_refl _ | (simp <;> omega)) _ | refine Below.setCell ?_ (by first | exact Nat.le_refl _ | (simp <;> omega)) _)) hb12
        replace HB := bth HB hq12
        replace hR := hR.below hq12
        replace HT := HT.below hq12
        replace RY := RY.below hq12
        replace RN := RN.below hq12
        replace hD := hD.below hq12 hD.lt
        replace b0 := (hD.cell 0).trans (show _ = some (.int .i64 d.id) from rfl)
        replace b1 := (hD.cell 1).trans (show _ = some (.int .i64 d.day) from rfl)
        replace b2 := (hD.cell 2).trans (show _ = some (.int .i64 d.need) from rfl)
        replace b3 := (hD.cell 3).trans (show _ = some (.slice Y d.yes.length yc) from rfl)
        replace b4 := (hD.cell 4).trans (show _ = some (.slice N' d.no.length nc) from rfl)
        replace b5 := (hD.cell 5).trans (show _ = some (.bool d.done) from rfl)
        have yhD := hD.lt
        clear RY RN
        have yhD := hD.lt
        go_wp2_with fail
        refine (drawMay_is A c cs hcs _ (hR.below (by repeat (first | exact Below.refl _ _ | refine Below.alloc ?_ (by first | exact Nat.le_refl _ | (simp <;> omega)) _ | refine Below.setCell ?_ (by first | exact Nat.le_refl _ | (simp <;> omega)) _)))).mono ?_
        rintro e w13 ⟨x, P, Q', pc, qc, m, t, rfl, hxy, hxn, hm, ht, hPs, hQs, hb13⟩
        have hq13 : Below w12.heap.size w12 w13 := bth (by repeat (first | exact Below.refl _ _ | refine Below.alloc ?_ (by first | exact Nat.le_refl _ | (simp <;> omega)) _ | refine Below.setCell ?_ (by first | exact Nat.le_refl _ | (simp <;> omega)) _)) hb13
        replace HB := bth HB hq13
        replace hR := hR.below hq13
        replace HT := HT.below hq13
        replace hD := hD.below hq13 hD.lt
        replace b0 := (hD.cell 0).trans (show _ = some (.int .i64 d.id) from rfl)
        replace b1 := (hD.cell 1).trans (show _ = some (.int .i64 d.day) from rfl)
        replace b2 := (hD.cell 2).trans (show _ = some (.int .i64 d.need) from rfl)
        replace b3 := (hD.cell 3).trans (show _ = some (.slice Y d.yes.length yc) from rfl)
        replace b4 := (hD.cell 4).trans (show _ = some (.slice N' d.no.length nc) from rfl)
        replace b5 := (hD.cell 5).trans (show _ = some (.bool d.done) from rfl)
        have RP := hPs.rds
        have RQ := hQs.rds
        have hPn := Lib.hid hPs.nil
        have hQn := Lib.hid hQs.nil
        clear hPs hQs
        have hxy' : x.yes.length ≤ 1048576 := by omega
        have hxn' : x.no.length ≤ 1048576 := by omega
        by_cases hxd : x.done = true
        · skip
          obtain ⟨mb, hmo⟩ := mayOut_done (m := m) (t := t) hxd
          have HM := Lib.hid hmo
          have HX : Hid (x.done = true) := Lib.hid hxd
          clear hmo hxd
          have yhD := hD.lt
          go_wp2_with fail
          refine (iMay_is x P Q' pc qc hxy' hxn' m t _ HM.out _ (RP.below (by repeat (first | exact Below.refl _ _ | refine Below.alloc ?_ (by first | exact Nat.le_refl _ | (simp <;> omega)) _ | refine Below.setCell ?_ (by first | exact Nat.le_refl _ | (simp <;> omega)) _))) (RQ.below (by repeat (first | exact Below.refl _ _ | refine Below.alloc ?_ (by first | exact Nat.le_refl _ | (simp <;> omega)) _ | refine Below.setCell ?_ (by first | exact Nat.le_refl _ | (simp <;> omega)) _)))).mono ?_
          rintro e w14 ⟨rfl, hb14⟩
          have hq14 : Below w13.heap.size w13 w14 := bth (by repeat (first | exact Below.refl _ _ | refine Below.alloc ?_ (by first | exact Nat.le_refl _ | (simp <;> omega)) _ | refine Below.setCell ?_ (by first | exact Nat.le_refl _ | (simp <;> omega)) _)) hb14
          replace HB := bth HB hq14
          replace hR := hR.below hq14
          replace HT := HT.below hq14
          replace RP := RP.below hq14
          replace RQ := RQ.below hq14
          replace hD := hD.below hq14 hD.lt
          replace b0 := (hD.cell 0).trans (show _ = some (.int .i64 d.id) from rfl)
          replace b1 := (hD.cell 1).trans (show _ = some (.int .i64 d.day) from rfl)
          replace b2 := (hD.cell 2).trans (show _ = some (.int .i64 d.need) from rfl)
          replace b3 := (hD.cell 3).trans (show _ = some (.slice Y d.yes.length yc) from rfl)
          replace b4 := (hD.cell 4).trans (show _ = some (.slice N' d.no.length nc) from rfl)
          replace b5 := (hD.cell 5).trans (show _ = some (.bool d.done) from rfl)
          have hX : Blk w14 (w13.heap.size) 35 #[.int .i64 x.id, .int .i64 x.day, .int .i64 x.need, .slice P x.yes.length pc, .slice Q' x.no.length qc, .bool x.done] := Blk.below (by repeat (first | exact Blk.new _ _ _ | exact Blk.new2 _ _ _ _ | exact Blk.new3 _ _ _ _ _ | exact Blk.new4 _ _ _ _ _ _ | refine Blk.alloc ?_ _)) hb14 (by simp <;> omega)
          have x0 := (hX.cell 0).trans (show _ = some (.int .i64 x.id) from rfl)
          have x1 := (hX.cell 1).trans (show _ = some (.int .i64 x.day) from rfl)
          have x2 := (hX.cell 2).trans (show _ = some (.int .i64 x.need) from rfl)
          have x3 := (hX.cell 3).trans (show _ = some (.slice P x.yes.length pc) from rfl)
          have x4 := (hX.cell 4).trans (show _ = some (.slice Q' x.no.length qc) from rfl)
          have x5 := (hX.cell 5).trans (show _ = some (.bool x.done) from rfl)
          have yhD := hD.lt
          have yhX := hX.lt
          go_wp2_with fail
          refine (sMay_is x P Q' pc qc hxy' hxn' hPn.out hQn.out m t _ HM.out _ (RP.below (by repeat (first | exact Below.refl _ _ | refine Below.alloc ?_ (by first | exact Nat.le_refl _ | (simp <;> omega)) _ | refine Below.setCell ?_ (by first | exact Nat.le_refl _ | (simp <;> omega)) _))) (RQ.below (by repeat (first | exact Below.refl _ _ | refine Below.alloc ?_ (by first | exact Nat.le_refl _ | (simp <;> omega)) _ | refine Below.setCell ?_ (by first | exact Nat.le_refl _ | (simp <;> omega)) _)))).mono ?_
          rintro e w15 ⟨rfl, hb15⟩
          have hq15 : Below w14.heap.size w14 w15 := bth (by repeat (first | exact Below.refl _ _ | refine Below.alloc ?_ (by first | exact Nat.le_refl _ | (simp <;> omega)) _ | refine Below.setCell ?_ (by first | exact Nat.le_refl _ | (simp <;> omega)) _)) hb15
          replace HB := bth HB hq15
          replace hR := hR.below hq15
          replace HT := HT.below hq15
          replace RP := RP.below hq15
          replace RQ := RQ.below hq15
          replace hD := hD.below hq15 hD.lt
          replace b0 := (hD.cell 0).trans (show _ = some (.int .i64 d.id) from rfl)
          replace b1 := (hD.cell 1).trans (show _ = some (.int .i64 d.day) from rfl)
          replace b2 := (hD.cell 2).trans (show _ = some (.int .i64 d.need) from rfl)
          replace b3 := (hD.cell 3).trans (show _ = some (.slice Y d.yes.length yc) from rfl)
          replace b4 := (hD.cell 4).trans (show _ = some (.slice N' d.no.length nc) from rfl)
          replace b5 := (hD.cell 5).trans (show _ = some (.bool d.done) from rfl)
          replace hX := hX.below hq15 hX.lt
          replace x0 := (hX.cell 0).trans (show _ = some (.int .i64 x.id) from rfl)
          replace x1 := (hX.cell 1).trans (show _ = some (.int .i64 x.day) from rfl)
          replace x2 := (hX.cell 2).trans (show _ = some (.int .i64 x.need) from rfl)
          replace x3 := (hX.cell 3).trans (show _ = some (.slice P x.yes.length pc) from rfl)
          replace x4 := (hX.cell 4).trans (show _ = some (.slice Q' x.no.length qc) from rfl)
          replace x5 := (hX.cell 5).trans (show _ = some (.bool x.done) from rfl)
          clear RP RQ
          rw [HX.out] at x5
          have yhD := hD.lt
          have yhX := hX.lt
          go_wp2_with fail
          refine (drawDt_is A c cs hcs _ (hR.below (by repeat (first | exact Below.refl _ _ | refine Below.alloc ?_ (by first | exact Nat.le_refl _ | (simp <;> omega)) _ | refine Below.setCell ?_ (by first | exact Nat.le_refl _ | (simp <;> omega)) _)))).mono ?_
          rintro e w16 ⟨z, S, U', sc, uc, rfl, hzy, hzn, hSs, hUs, hb16⟩
          have hq16 : Below w15.heap.size w15 w16 := bth (by repeat (first | exact Below.refl _ _ | refine Below.alloc ?_ (by first | exact Nat.le_refl _ | (simp <;> omega)) _ | refine Below.setCell ?_ (by first | exact Nat.le_refl _ | (simp <;> omega)) _)) hb16
          replace HB := bth HB hq16
          replace hR := hR.below hq16
          replace HT := HT.below hq16
          replace hD := hD.below hq16 hD.lt
          replace b0 := (hD.cell 0).trans (show _ = some (.int .i64 d.id) from rfl)
          replace b1 := (hD.cell 1).trans (show _ = some (.int .i64 d.day) from rfl)
          replace b2 := (hD.cell 2).trans (show _ = some (.int .i64 d.need) from rfl)
          replace b3 := (hD.cell 3).trans (show _ = some (.slice Y d.yes.length yc) from rfl)
          replace b4 := (hD.cell 4).trans (show _ = some (.slice N' d.no.length nc) from rfl)
          replace b5 := (hD.cell 5).trans (show _ = some (.bool d.done) from rfl)
          replace hX := hX.below hq16 hX.lt
          replace x0 := (hX.cell 0).trans (show _ = some (.int .i64 x.id) from rfl)
          replace x1 := (hX.cell 1).trans (show _ = some (.int .i64 x.day) from rfl)
          replace x2 := (hX.cell 2).trans (show _ = some (.int .i64 x.need) from rfl)
          replace x3 := (hX.cell 3).trans (show _ = some (.slice P x.yes.length pc) from rfl)
          replace x4 := (hX.cell 4).trans (show _ = some (.slice Q' x.no.length qc) from rfl)
          replace x5 := (hX.cell 5).trans (show _ = some (.bool x.done) from rfl)
          skip
          have RS := hSs.rds
          have RU := hUs.rds
          clear hSs hUs
          have hzy' : z.yes.length ≤ 1048576 := by omega
          have hzn' : z.no.length ≤ 1048576 := by omega
          obtain ⟨zs, zb, hdt⟩ := dtOut_form z
          have HZ := Lib.hid hdt
          clear hdt
          have yhD := hD.lt
          have yhX := hX.lt
          go_wp2_with fail
          refine (iDecidedText_is z S U' sc uc hzy' hzn' _ HZ.out _ (RS.below (by repeat (first | exact Below.refl _ _ | refine Below.alloc ?_ (by first | exact Nat.le_refl _ | (simp <;> omega)) _ | refine Below.setCell ?_ (by first | exact Nat.le_refl _ | (simp <;> omega)) _))) (RU.below (by repeat (first | exact Below.refl _ _ | refine Below.alloc ?_ (by first | exact Nat.le_refl _ | (simp <;> omega)) _ | refine Below.setCell ?_ (by first | exact Nat.le_refl _ | (simp <;> omega)) _))) (HT.below (by repeat (first | exact Below.refl _ _ | refine Below.alloc ?_ (by first | exact Nat.le_refl _ | (simp <;> omega)) _ | refine Below.setCell ?_ (by first | exact Nat.le_refl _ | (simp <;> omega)) _)))).mono ?_
          rintro e w17 ⟨rfl, hb17⟩
          have hq17 : Below w16.heap.size w16 w17 := bth (by repeat (first | exact Below.refl _ _ | refine Below.alloc ?_ (by first | exact Nat.le_refl _ | (simp <;> omega)) _ | refine Below.setCell ?_ (by first | exact Nat.le_refl _ | (simp <;> omega)) _)) hb17
          replace HB := bth HB hq17
          replace hR := hR.below hq17
          replace HT := HT.below hq17
          replace RS := RS.below hq17
          replace RU := RU.below hq17
          replace hD := hD.below hq17 hD.lt
          replace b0 := (hD.cell 0).trans (show _ = some (.int .i64 d.id) from rfl)
          replace b1 := (hD.cell 1).trans (show _ = some (.int .i64 d.day) from rfl)
          replace b2 := (hD.cell 2).trans (show _ = some (.int .i64 d.need) from rfl)
          replace b3 := (hD.cell 3).trans (show _ = some (.slice Y d.yes.length yc) from rfl)
          replace b4 := (hD.cell 4).trans (show _ = some (.slice N' d.no.length nc) from rfl)
          replace b5 := (hD.cell 5).trans (show _ = some (.bool d.done) from rfl)
          replace hX := hX.below hq17 hX.lt
          replace x0 := (hX.cell 0).trans (show _ = some (.int .i64 x.id) from rfl)
          replace x1 := (hX.cell 1).trans (show _ = some (.int .i64 x.day) from rfl)
          replace x2 := (hX.cell 2).trans (show _ = some (.int .i64 x.need) from rfl)
          replace x3 := (hX.cell 3).trans (show _ = some (.slice P x.yes.length pc) from rfl)
          replace x4 := (hX.cell 4).trans (show _ = some (.slice Q' x.no.length qc) from rfl)
          replace x5 := (hX.cell 5).trans (show _ = some (.bool x.done) from rfl)
          have hZ : Blk w17 (w16.heap.size) 35 #[.int .i64 z.id, .int .i64 z.day, .int .i64 z.need, .slice S z.yes.length sc, .slice U' z.no.length uc, .bool z.done] := Blk.below (by repeat (first | exact Blk.new _ _ _ | exact Blk.new2 _ _ _ _ | exact Blk.new3 _ _ _ _ _ | exact Blk.new4 _ _ _ _ _ _ | refine Blk.alloc ?_ _)) hb17 (by simp <;> omega)
          have z0 := (hZ.cell 0).trans (show _ = some (.int .i64 z.id) from rfl)
          have z1 := (hZ.cell 1).trans (show _ = some (.int .i64 z.day) from rfl)
          have z2 := (hZ.cell 2).trans (show _ = some (.int .i64 z.need) from rfl)
          have z3 := (hZ.cell 3).trans (show _ = some (.slice S z.yes.length sc) from rfl)
          have z4 := (hZ.cell 4).trans (show _ = some (.slice U' z.no.length uc) from rfl)
          have z5 := (hZ.cell 5).trans (show _ = some (.bool z.done) from rfl)
          have yhD := hD.lt
          have yhX := hX.lt
          have yhZ := hZ.lt
          go_wp2_with fail
          refine (sDecidedText_is z S U' sc uc hzy' hzn' _ HZ.out _ (RS.below (by repeat (first | exact Below.refl _ _ | refine Below.alloc ?_ (by first | exact Nat.le_refl _ | (simp <;> omega)) _ | refine Below.setCell ?_ (by first | exact Nat.le_refl _ | (simp <;> omega)) _))) (RU.below (by repeat (first | exact Below.refl _ _ | refine Below.alloc ?_ (by first | exact Nat.le_refl _ | (simp <;> omega)) _ | refine Below.setCell ?_ (by first | exact Nat.le_refl _ | (simp <;> omega)) _)))).mono ?_
          rintro e w18 ⟨rfl, hb18⟩
          have hq18 : Below w17.heap.size w17 w18 := bth (by repeat (first | exact Below.refl _ _ | refine Below.alloc ?_ (by first | exact Nat.le_refl _ | (simp <;> omega)) _ | refine Below.setCell ?_ (by first | exact Nat.le_refl _ | (simp <;> omega)) _)) hb18
          replace HB := bth HB hq18
          replace hR := hR.below hq18
          replace HT := HT.below hq18
          replace RS := RS.below hq18
          replace RU := RU.below hq18
          replace hD := hD.below hq18 hD.lt
          replace b0 := (hD.cell 0).trans (show _ = some (.int .i64 d.id) from rfl)
          replace b1 := (hD.cell 1).trans (show _ = some (.int .i64 d.day) from rfl)
          replace b2 := (hD.cell 2).trans (show _ = some (.int .i64 d.need) from rfl)
          replace b3 := (hD.cell 3).trans (show _ = some (.slice Y d.yes.length yc) from rfl)
          replace b4 := (hD.cell 4).trans (show _ = some (.slice N' d.no.length nc) from rfl)
          replace b5 := (hD.cell 5).trans (show _ = some (.bool d.done) from rfl)
          replace hX := hX.below hq18 hX.lt
          replace x0 := (hX.cell 0).trans (show _ = some (.int .i64 x.id) from rfl)
          replace x1 := (hX.cell 1).trans (show _ = some (.int .i64 x.day) from rfl)
          replace x2 := (hX.cell 2).trans (show _ = some (.int .i64 x.need) from rfl)
          replace x3 := (hX.cell 3).trans (show _ = some (.slice P x.yes.length pc) from rfl)
          replace x4 := (hX.cell 4).trans (show _ = some (.slice Q' x.no.length qc) from rfl)
          replace x5 := (hX.cell 5).trans (show _ = some (.bool x.done) from rfl)
          replace hZ := hZ.below hq18 hZ.lt
          replace z0 := (hZ.cell 0).trans (show _ = some (.int .i64 z.id) from rfl)
          replace z1 := (hZ.cell 1).trans (show _ = some (.int .i64 z.day) from rfl)
          replace z2 := (hZ.cell 2).trans (show _ = some (.int .i64 z.need) from rfl)
          replace z3 := (hZ.cell 3).trans (show _ = some (.slice S z.yes.length sc) from rfl)
          replace z4 := (hZ.cell 4).trans (show _ = some (.slice U' z.no.length uc) from rfl)
          replace z5 := (hZ.cell 5).trans (show _ = some (.bool z.done) from rfl)
          go_wp2
          go_ret
          exact ⟨rfl, (bth HB (by repeat (first | exact Below.refl _ _ | refine Below.alloc ?_ (by first | exact Nat.le_refl _ | (simp <;> omega)) _ | refine Below.setCell ?_ (by first | exact Nat.le_refl _ | (simp <;> omega)) _)))⟩
        · skip
          obtain ⟨ma, mb, hmo⟩ := mayOut_form x m t
          have HM := Lib.hid hmo
          have HX : Hid (x.done = false) := Lib.hid (Bool.eq_false_iff.2 hxd)
          clear hmo hxd
          have yhD := hD.lt
          go_wp2_with fail
          refine (iMay_is x P Q' pc qc hxy' hxn' m t _ HM.out _ (RP.below (by repeat (first | exact Below.refl _ _ | refine Below.alloc ?_ (by first | exact Nat.le_refl _ | (simp <;> omega)) _ | refine Below.setCell ?_ (by first | exact Nat.le_refl _ | (simp <;> omega)) _))) (RQ.below (by repeat (first | exact Below.refl _ _ | refine Below.alloc ?_ (by first | exact Nat.le_refl _ | (simp <;> omega)) _ | refine Below.setCell ?_ (by first | exact Nat.le_refl _ | (simp <;> omega)) _)))).mono ?_
          rintro e w14 ⟨rfl, hb14⟩
          have hq14 : Below w13.heap.size w13 w14 := bth (by repeat (first | exact Below.refl _ _ | refine Below.alloc ?_ (by first | exact Nat.le_refl _ | (simp <;> omega)) _ | refine Below.setCell ?_ (by first | exact Nat.le_refl _ | (simp <;> omega)) _)) hb14
          replace HB := bth HB hq14
          replace hR := hR.below hq14
          replace HT := HT.below hq14
          replace RP := RP.below hq14
          replace RQ := RQ.below hq14
          replace hD := hD.below hq14 hD.lt
          replace b0 := (hD.cell 0).trans (show _ = some (.int .i64 d.id) from rfl)
          replace b1 := (hD.cell 1).trans (show _ = some (.int .i64 d.day) from rfl)
          replace b2 := (hD.cell 2).trans (show _ = some (.int .i64 d.need) from rfl)
          replace b3 := (hD.cell 3).trans (show _ = some (.slice Y d.yes.length yc) from rfl)
          replace b4 := (hD.cell 4).trans (show _ = some (.slice N' d.no.length nc) from rfl)
          replace b5 := (hD.cell 5).trans (show _ = some (.bool d.done) from rfl)
          have hX : Blk w14 (w13.heap.size) 35 #[.int .i64 x.id, .int .i64 x.day, .int .i64 x.need, .slice P x.yes.length pc, .slice Q' x.no.length qc, .bool x.done] := Blk.below (by repeat (first | exact Blk.new _ _ _ | exact Blk.new2 _ _ _ _ | exact Blk.new3 _ _ _ _ _ | exact Blk.new4 _ _ _ _ _ _ | refine Blk.alloc ?_ _)) hb14 (by simp <;> omega)
          have x0 := (hX.cell 0).trans (show _ = some (.int .i64 x.id) from rfl)
          have x1 := (hX.cell 1).trans (show _ = some (.int .i64 x.day) from rfl)
          have x2 := (hX.cell 2).trans (show _ = some (.int .i64 x.need) from rfl)
          have x3 := (hX.cell 3).trans (show _ = some (.slice P x.yes.length pc) from rfl)
          have x4 := (hX.cell 4).trans (show _ = some (.slice Q' x.no.length qc) from rfl)
          have x5 := (hX.cell 5).trans (show _ = some (.bool x.done) from rfl)
          have yhD := hD.lt
          have yhX := hX.lt
          go_wp2_with fail
          refine (sMay_is x P Q' pc qc hxy' hxn' hPn.out hQn.out m t _ HM.out _ (RP.below (by repeat (first | exact Below.refl _ _ | refine Below.alloc ?_ (by first | exact Nat.le_refl _ | (simp <;> omega)) _ | refine Below.setCell ?_ (by first | exact Nat.le_refl _ | (simp <;> omega)) _))) (RQ.below (by repeat (first | exact Below.refl _ _ | refine Below.alloc ?_ (by first | exact Nat.le_refl _ | (simp <;> omega)) _ | refine Below.setCell ?_ (by first | exact Nat.le_refl _ | (simp <;> omega)) _)))).mono ?_
          rintro e w15 ⟨rfl, hb15⟩
          have hq15 : Below w14.heap.size w14 w15 := bth (by repeat (first | exact Below.refl _ _ | refine Below.alloc ?_ (by first | exact Nat.le_refl _ | (simp <;> omega)) _ | refine Below.setCell ?_ (by first | exact Nat.le_refl _ | (simp <;> omega)) _)) hb15
          replace HB := bth HB hq15
          replace hR := hR.below hq15
          replace HT := HT.below hq15
          replace RP := RP.below hq15
          replace RQ := RQ.below hq15
          replace hD := hD.below hq15 hD.lt
          replace b0 := (hD.cell 0).trans (show _ = some (.int .i64 d.id) from rfl)
          replace b1 := (hD.cell 1).trans (show _ = some (.int .i64 d.day) from rfl)
          replace b2 := (hD.cell 2).trans (show _ = some (.int .i64 d.need) from rfl)
          replace b3 := (hD.cell 3).trans (show _ = some (.slice Y d.yes.length yc) from rfl)
          replace b4 := (hD.cell 4).trans (show _ = some (.slice N' d.no.length nc) from rfl)
          replace b5 := (hD.cell 5).trans (show _ = some (.bool d.done) from rfl)
          replace hX := hX.below hq15 hX.lt
          replace x0 := (hX.cell 0).trans (show _ = some (.int .i64 x.id) from rfl)
          replace x1 := (hX.cell 1).trans (show _ = some (.int .i64 x.day) from rfl)
          replace x2 := (hX.cell 2).trans (show _ = some (.int .i64 x.need) from rfl)
          replace x3 := (hX.cell 3).trans (show _ = some (.slice P x.yes.length pc) from rfl)
          replace x4 := (hX.cell 4).trans (show _ = some (.slice Q' x.no.length qc) from rfl)
          replace x5 := (hX.cell 5).trans (show _ = some (.bool x.done) from rfl)
          clear RP RQ
          rw [HX.out] at x5
          cases ma
          · skip
            have yhD := hD.lt
            have yhX := hX.lt
            go_wp2_with fail
            refine (drawDt_is A c cs hcs _ (hR.below (by repeat (first | exact Below.refl _ _ | refine Below.alloc ?_ (by first | exact Nat.le_refl _ | (simp <;> omega)) _ | refine Below.setCell ?_ (by first | exact Nat.le_refl _ | (simp <;> omega)) _)))).mono ?_
            rintro e w16 ⟨z, S, U', sc, uc, rfl, hzy, hzn, hSs, hUs, hb16⟩
            have hq16 : Below w15.heap.size w15 w16 := bth (by repeat (first | exact Below.refl _ _ | refine Below.alloc ?_ (by first | exact Nat.le_refl _ | (simp <;> omega)) _ | refine Below.setCell ?_ (by first | exact Nat.le_refl _ | (simp <;> omega)) _)) hb16
            replace HB := bth HB hq16
            replace hR := hR.below hq16
            replace HT := HT.below hq16
            replace hD := hD.below hq16 hD.lt
            replace b0 := (hD.cell 0).trans (show _ = some (.int .i64 d.id) from rfl)
            replace b1 := (hD.cell 1).trans (show _ = some (.int .i64 d.day) from rfl)
            replace b2 := (hD.cell 2).trans (show _ = some (.int .i64 d.need) from rfl)
            replace b3 := (hD.cell 3).trans (show _ = some (.slice Y d.yes.length yc) from rfl)
            replace b4 := (hD.cell 4).trans (show _ = some (.slice N' d.no.length nc) from rfl)
            replace b5 := (hD.cell 5).trans (show _ = some (.bool d.done) from rfl)
            replace hX := hX.below hq16 hX.lt
            replace x0 := (hX.cell 0).trans (show _ = some (.int .i64 x.id) from rfl)
            replace x1 := (hX.cell 1).trans (show _ = some (.int .i64 x.day) from rfl)
            replace x2 := (hX.cell 2).trans (show _ = some (.int .i64 x.need) from rfl)
            replace x3 := (hX.cell 3).trans (show _ = some (.slice P x.yes.length pc) from rfl)
            replace x4 := (hX.cell 4).trans (show _ = some (.slice Q' x.no.length qc) from rfl)
            replace x5 := (hX.cell 5).trans (show _ = some (.bool x.done) from rfl)
            skip
            have RS := hSs.rds
            have RU := hUs.rds
            clear hSs hUs
            have hzy' : z.yes.length ≤ 1048576 := by omega
            have hzn' : z.no.length ≤ 1048576 := by omega
            obtain ⟨zs, zb, hdt⟩ := dtOut_form z
            have HZ := Lib.hid hdt
            clear hdt
            have yhD := hD.lt
            have yhX := hX.lt
            go_wp2_with fail
            refine (iDecidedText_is z S U' sc uc hzy' hzn' _ HZ.out _ (RS.below (by repeat (first | exact Below.refl _ _ | refine Below.alloc ?_ (by first | exact Nat.le_refl _ | (simp <;> omega)) _ | refine Below.setCell ?_ (by first | exact Nat.le_refl _ | (simp <;> omega)) _))) (RU.below (by repeat (first | exact Below.refl _ _ | refine Below.alloc ?_ (by first | exact Nat.le_refl _ | (simp <;> omega)) _ | refine Below.setCell ?_ (by first | exact Nat.le_refl _ | (simp <;> omega)) _))) (HT.below (by repeat (first | exact Below.refl _ _ | refine Below.alloc ?_ (by first | exact Nat.le_refl _ | (simp <;> omega)) _ | refine Below.setCell ?_ (by first | exact Nat.le_refl _ | (simp <;> omega)) _)))).mono ?_
            rintro e w17 ⟨rfl, hb17⟩
            have hq17 : Below w16.heap.size w16 w17 := bth (by repeat (first | exact Below.refl _ _ | refine Below.alloc ?_ (by first | exact Nat.le_refl _ | (simp <;> omega)) _ | refine Below.setCell ?_ (by first | exact Nat.le_refl _ | (simp <;> omega)) _)) hb17
            replace HB := bth HB hq17
            replace hR := hR.below hq17
            replace HT := HT.below hq17
            replace RS := RS.below hq17
            replace RU := RU.below hq17
            replace hD := hD.below hq17 hD.lt
            replace b0 := (hD.cell 0).trans (show _ = some (.int .i64 d.id) from rfl)
            replace b1 := (hD.cell 1).trans (show _ = some (.int .i64 d.day) from rfl)
            replace b2 := (hD.cell 2).trans (show _ = some (.int .i64 d.need) from rfl)
            replace b3 := (hD.cell 3).trans (show _ = some (.slice Y d.yes.length yc) from rfl)
            replace b4 := (hD.cell 4).trans (show _ = some (.slice N' d.no.length nc) from rfl)
            replace b5 := (hD.cell 5).trans (show _ = some (.bool d.done) from rfl)
            replace hX := hX.below hq17 hX.lt
            replace x0 := (hX.cell 0).trans (show _ = some (.int .i64 x.id) from rfl)
            replace x1 := (hX.cell 1).trans (show _ = some (.int .i64 x.day) from rfl)
            replace x2 := (hX.cell 2).trans (show _ = some (.int .i64 x.need) from rfl)
            replace x3 := (hX.cell 3).trans (show _ = some (.slice P x.yes.length pc) from rfl)
            replace x4 := (hX.cell 4).trans (show _ = some (.slice Q' x.no.length qc) from rfl)
            replace x5 := (hX.cell 5).trans (show _ = some (.bool x.done) from rfl)
            have hZ : Blk w17 (w16.heap.size) 35 #[.int .i64 z.id, .int .i64 z.day, .int .i64 z.need, .slice S z.yes.length sc, .slice U' z.no.length uc, .bool z.done] := Blk.below (by repeat (first | exact Blk.new _ _ _ | exact Blk.new2 _ _ _ _ | exact Blk.new3 _ _ _ _ _ | exact Blk.new4 _ _ _ _ _ _ | refine Blk.alloc ?_ _)) hb17 (by simp <;> omega)
            have z0 := (hZ.cell 0).trans (show _ = some (.int .i64 z.id) from rfl)
            have z1 := (hZ.cell 1).trans (show _ = some (.int .i64 z.day) from rfl)
            have z2 := (hZ.cell 2).trans (show _ = some (.int .i64 z.need) from rfl)
            have z3 := (hZ.cell 3).trans (show _ = some (.slice S z.yes.length sc) from rfl)
            have z4 := (hZ.cell 4).trans (show _ = some (.slice U' z.no.length uc) from rfl)
            have z5 := (hZ.cell 5).trans (show _ = some (.bool z.done) from rfl)
            have yhD := hD.lt
            have yhX := hX.lt
            have yhZ := hZ.lt
            go_wp2_with fail
            refine (sDecidedText_is z S U' sc uc hzy' hzn' _ HZ.out _ (RS.below (by repeat (first | exact Below.refl _ _ | refine Below.alloc ?_ (by first | exact Nat.le_refl _ | (simp <;> omega)) _ | refine Below.setCell ?_ (by first | exact Nat.le_refl _ | (simp <;> omega)) _))) (RU.below (by repeat (first | exact Below.refl _ _ | refine Below.alloc ?_ (by first | exact Nat.le_refl _ | (simp <;> omega)) _ | refine Below.setCell ?_ (by first | exact Nat.le_refl _ | (simp <;> omega)) _)))).mono ?_
            rintro e w18 ⟨rfl, hb18⟩
            have hq18 : Below w17.heap.size w17 w18 := bth (by repeat (first | exact Below.refl _ _ | refine Below.alloc ?_ (by first | exact Nat.le_refl _ | (simp <;> omega)) _ | refine Below.setCell ?_ (by first | exact Nat.le_refl _ | (simp <;> omega)) _)) hb18
            replace HB := bth HB hq18
            replace hR := hR.below hq18
            replace HT := HT.below hq18
            replace RS := RS.below hq18
            replace RU := RU.below hq18
            replace hD := hD.below hq18 hD.lt
            replace b0 := (hD.cell 0).trans (show _ = some (.int .i64 d.id) from rfl)
            replace b1 := (hD.cell 1).trans (show _ = some (.int .i64 d.day) from rfl)
            replace b2 := (hD.cell 2).trans (show _ = some (.int .i64 d.need) from rfl)
            replace b3 := (hD.cell 3).trans (show _ = some (.slice Y d.yes.length yc) from rfl)
            replace b4 := (hD.cell 4).trans (show _ = some (.slice N' d.no.length nc) from rfl)
            replace b5 := (hD.cell 5).trans (show _ = some (.bool d.done) from rfl)
            replace hX := hX.below hq18 hX.lt
            replace x0 := (hX.cell 0).trans (show _ = some (.int .i64 x.id) from rfl)
            replace x1 := (hX.cell 1).trans (show _ = some (.int .i64 x.day) from rfl)
            replace x2 := (hX.cell 2).trans (show _ = some (.int .i64 x.need) from rfl)
            replace x3 := (hX.cell 3).trans (show _ = some (.slice P x.yes.length pc) from rfl)
            replace x4 := (hX.cell 4).trans (show _ = some (.slice Q' x.no.length qc) from rfl)
            replace x5 := (hX.cell 5).trans (show _ = some (.bool x.done) from rfl)
            replace hZ := hZ.below hq18 hZ.lt
            replace z0 := (hZ.cell 0).trans (show _ = some (.int .i64 z.id) from rfl)
            replace z1 := (hZ.cell 1).trans (show _ = some (.int .i64 z.day) from rfl)
            replace z2 := (hZ.cell 2).trans (show _ = some (.int .i64 z.need) from rfl)
            replace z3 := (hZ.cell 3).trans (show _ = some (.slice S z.yes.length sc) from rfl)
            replace z4 := (hZ.cell 4).trans (show _ = some (.slice U' z.no.length uc) from rfl)
            replace z5 := (hZ.cell 5).trans (show _ = some (.bool z.done) from rfl)
            go_wp2
            go_ret
            exact ⟨rfl, (bth HB (by repeat (first | exact Below.refl _ _ | refine Below.alloc ?_ (by first | exact Nat.le_refl _ | (simp <;> omega)) _ | refine Below.setCell ?_ (by first | exact Nat.le_refl _ | (simp <;> omega)) _)))⟩
          · skip
            have yhD := hD.lt
            have yhX := hX.lt
            go_wp2_with fail
            refine (drawDt_is A c cs hcs _ (hR.below (by repeat (first | exact Below.refl _ _ | refine Below.alloc ?_ (by first | exact Nat.le_refl _ | (simp <;> omega)) _ | refine Below.setCell ?_ (by first | exact Nat.le_refl _ | (simp <;> omega)) _)))).mono ?_
            rintro e w16 ⟨z, S, U', sc, uc, rfl, hzy, hzn, hSs, hUs, hb16⟩
            have hq16 : Below w15.heap.size w15 w16 := bth (by repeat (first | exact Below.refl _ _ | refine Below.alloc ?_ (by first | exact Nat.le_refl _ | (simp <;> omega)) _ | refine Below.setCell ?_ (by first | exact Nat.le_refl _ | (simp <;> omega)) _)) hb16
            replace HB := bth HB hq16
            replace hR := hR.below hq16
            replace HT := HT.below hq16
            replace hD := hD.below hq16 hD.lt
            replace b0 := (hD.cell 0).trans (show _ = some (.int .i64 d.id) from rfl)
            replace b1 := (hD.cell 1).trans (show _ = some (.int .i64 d.day) from rfl)
            replace b2 := (hD.cell 2).trans (show _ = some (.int .i64 d.need) from rfl)
            replace b3 := (hD.cell 3).trans (show _ = some (.slice Y d.yes.length yc) from rfl)
            replace b4 := (hD.cell 4).trans (show _ = some (.slice N' d.no.length nc) from rfl)
            replace b5 := (hD.cell 5).trans (show _ = some (.bool d.done) from rfl)
            replace hX := hX.below hq16 hX.lt
            replace x0 := (hX.cell 0).trans (show _ = some (.int .i64 x.id) from rfl)
            replace x1 := (hX.cell 1).trans (show _ = some (.int .i64 x.day) from rfl)
            replace x2 := (hX.cell 2).trans (show _ = some (.int .i64 x.need) from rfl)
            replace x3 := (hX.cell 3).trans (show _ = some (.slice P x.yes.length pc) from rfl)
            replace x4 := (hX.cell 4).trans (show _ = some (.slice Q' x.no.length qc) from rfl)
            replace x5 := (hX.cell 5).trans (show _ = some (.bool x.done) from rfl)
            skip
            have RS := hSs.rds
            have RU := hUs.rds
            clear hSs hUs
            have hzy' : z.yes.length ≤ 1048576 := by omega
            have hzn' : z.no.length ≤ 1048576 := by omega
            obtain ⟨zs, zb, hdt⟩ := dtOut_form z
            have HZ := Lib.hid hdt
            clear hdt
            have yhD := hD.lt
            have yhX := hX.lt
            go_wp2_with fail
            refine (iDecidedText_is z S U' sc uc hzy' hzn' _ HZ.out _ (RS.below (by repeat (first | exact Below.refl _ _ | refine Below.alloc ?_ (by first | exact Nat.le_refl _ | (simp <;> omega)) _ | refine Below.setCell ?_ (by first | exact Nat.le_refl _ | (simp <;> omega)) _))) (RU.below (by repeat (first | exact Below.refl _ _ | refine Below.alloc ?_ (by first | exact Nat.le_refl _ | (simp <;> omega)) _ | refine Below.setCell ?_ (by first | exact Nat.le_refl _ | (simp <;> omega)) _))) (HT.below (by repeat (first | exact Below.refl _ _ | refine Below.alloc ?_ (by first | exact Nat.le_refl _ | (simp <;> omega)) _ | refine Below.setCell ?_ (by first | exact Nat.le_refl _ | (simp <;> omega)) _)))).mono ?_
            rintro e w17 ⟨rfl, hb17⟩
            have hq17 : Below w16.heap.size w16 w17 := bth (by repeat (first | exact Below.refl _ _ | refine Below.alloc ?_ (by first | exact Nat.le_refl _ | (simp <;> omega)) _ | refine Below.setCell ?_ (by first | exact Nat.le_refl _ | (simp <;> omega)) _)) hb17
            replace HB := bth HB hq17
            replace hR := hR.below hq17
            replace HT := HT.below hq17
            replace RS := RS.below hq17
            replace RU := RU.below hq17
            replace hD := hD.below hq17 hD.lt
            replace b0 := (hD.cell 0).trans (show _ = some (.int .i64 d.id) from rfl)
            replace b1 := (hD.cell 1).trans (show _ = some (.int .i64 d.day) from rfl)
            replace b2 := (hD.cell 2).trans (show _ = some (.int .i64 d.need) from rfl)
            replace b3 := (hD.cell 3).trans (show _ = some (.slice Y d.yes.length yc) from rfl)
            replace b4 := (hD.cell 4).trans (show _ = some (.slice N' d.no.length nc) from rfl)
            replace b5 := (hD.cell 5).trans (show _ = some (.bool d.done) from rfl)
            replace hX := hX.below hq17 hX.lt
            replace x0 := (hX.cell 0).trans (show _ = some (.int .i64 x.id) from rfl)
            replace x1 := (hX.cell 1).trans (show _ = some (.int .i64 x.day) from rfl)
            replace x2 := (hX.cell 2).trans (show _ = some (.int .i64 x.need) from rfl)
            replace x3 := (hX.cell 3).trans (show _ = some (.slice P x.yes.length pc) from rfl)
            replace x4 := (hX.cell 4).trans (show _ = some (.slice Q' x.no.length qc) from rfl)
            replace x5 := (hX.cell 5).trans (show _ = some (.bool x.done) from rfl)
            have hZ : Blk w17 (w16.heap.size) 35 #[.int .i64 z.id, .int .i64 z.day, .int .i64 z.need, .slice S z.yes.length sc, .slice U' z.no.length uc, .bool z.done] := Blk.below (by repeat (first | exact Blk.new _ _ _ | exact Blk.new2 _ _ _ _ | exact Blk.new3 _ _ _ _ _ | exact Blk.new4 _ _ _ _ _ _ | refine Blk.alloc ?_ _)) hb17 (by simp <;> omega)
            have z0 := (hZ.cell 0).trans (show _ = some (.int .i64 z.id) from rfl)
            have z1 := (hZ.cell 1).trans (show _ = some (.int .i64 z.day) from rfl)
            have z2 := (hZ.cell 2).trans (show _ = some (.int .i64 z.need) from rfl)
            have z3 := (hZ.cell 3).trans (show _ = some (.slice S z.yes.length sc) from rfl)
            have z4 := (hZ.cell 4).trans (show _ = some (.slice U' z.no.length uc) from rfl)
            have z5 := (hZ.cell 5).trans (show _ = some (.bool z.done) from rfl)
            have yhD := hD.lt
            have yhX := hX.lt
            have yhZ := hZ.lt
            go_wp2_with fail
            refine (sDecidedText_is z S U' sc uc hzy' hzn' _ HZ.out _ (RS.below (by repeat (first | exact Below.refl _ _ | refine Below.alloc ?_ (by first | exact Nat.le_refl _ | (simp <;> omega)) _ | refine Below.setCell ?_ (by first | exact Nat.le_refl _ | (simp <;> omega)) _))) (RU.below (by repeat (first | exact Below.refl _ _ | refine Below.alloc ?_ (by first | exact Nat.le_refl _ | (simp <;> omega)) _ | refine Below.setCell ?_ (by first | exact Nat.le_refl _ | (simp <;> omega)) _)))).mono ?_
            rintro e w18 ⟨rfl, hb18⟩
            have hq18 : Below w17.heap.size w17 w18 := bth (by repeat (first | exact Below.refl _ _ | refine Below.alloc ?_ (by first | exact Nat.le_refl _ | (simp <;> omega)) _ | refine Below.setCell ?_ (by first | exact Nat.le_refl _ | (simp <;> omega)) _)) hb18
            replace HB := bth HB hq18
            replace hR := hR.below hq18
            replace HT := HT.below hq18
            replace RS := RS.below hq18
            replace RU := RU.below hq18
            replace hD := hD.below hq18 hD.lt
            replace b0 := (hD.cell 0).trans (show _ = some (.int .i64 d.id) from rfl)
            replace b1 := (hD.cell 1).trans (show _ = some (.int .i64 d.day) from rfl)
            replace b2 := (hD.cell 2).trans (show _ = some (.int .i64 d.need) from rfl)
            replace b3 := (hD.cell 3).trans (show _ = some (.slice Y d.yes.length yc) from rfl)
            replace b4 := (hD.cell 4).trans (show _ = some (.slice N' d.no.length nc) from rfl)
            replace b5 := (hD.cell 5).trans (show _ = some (.bool d.done) from rfl)
            replace hX := hX.below hq18 hX.lt
            replace x0 := (hX.cell 0).trans (show _ = some (.int .i64 x.id) from rfl)
            replace x1 := (hX.cell 1).trans (show _ = some (.int .i64 x.day) from rfl)
            replace x2 := (hX.cell 2).trans (show _ = some (.int .i64 x.need) from rfl)
            replace x3 := (hX.cell 3).trans (show _ = some (.slice P x.yes.length pc) from rfl)
            replace x4 := (hX.cell 4).trans (show _ = some (.slice Q' x.no.length qc) from rfl)
            replace x5 := (hX.cell 5).trans (show _ = some (.bool x.done) from rfl)
            replace hZ := hZ.below hq18 hZ.lt
            replace z0 := (hZ.cell 0).trans (show _ = some (.int .i64 z.id) from rfl)
            replace z1 := (hZ.cell 1).trans (show _ = some (.int .i64 z.day) from rfl)
            replace z2 := (hZ.cell 2).trans (show _ = some (.int .i64 z.need) from rfl)
            replace z3 := (hZ.cell 3).trans (show _ = some (.slice S z.yes.length sc) from rfl)
            replace z4 := (hZ.cell 4).trans (show _ = some (.slice U' z.no.length uc) from rfl)
            replace z5 := (hZ.cell 5).trans (show _ = some (.bool z.done) from rfl)
            go_wp2
            go_ret
            exact ⟨rfl, (bth HB (by repeat (first | exact Below.refl _ _ | refine Below.alloc ?_ (by first | exact Nat.le_refl _ | (simp <;> omega)) _ | refine Below.setCell ?_ (by first | exact Nat.le_refl _ | (simp <;> omega)) _)))⟩
      · skip
        have E1 : Hid (swOut d = .tuple #[.int .i64 n, .bool true]) := Lib.hid (by simp [swOut, hd, hf])
        have E2 : Hid (wasOut d = .tuple #[.bool true, .bool true]) := Lib.hid (by simp [wasOut, hd, ha])
        have EL : Hid (psL d = d.yes) := Lib.hid (by simp [psL, hd, Dec.side, ha])
        have HA : Hid (adoB d.need d.yes.length d.no.length = true) := Lib.hid ha
        obtain ⟨hn1, hn2⟩ := firstTo_spec hf
        have hsw : swA d n = false := by simp only [swP, ha, bne_iff_ne, ne_eq] at hn2; revert hn2; cases swA d n <;> simp
        have hnl : n ≤ d.yes.length := by simp only [Dec.side, ha] at hn1; simp at hn1; omega
        have HW : Hid (adoB d.need ((d.yes.length : Int) - n) ((d.no.length : Int) + n) = false) := Lib.hid (by simpa [swA, ha] using hsw)
        clear hn1 hn2 hsw
        clear hd hf ha hnd
        go_wp2_with fail
        refine (iSwitches_is d Y N' yc nc hy hn _ E1.out _ (RY.below (by repeat (first | exact Below.refl _ _ | refine Below.alloc ?_ (by first | exact Nat.le_refl _ | (simp <;> omega)) _ | refine Below.setCell ?_ (by first | exact Nat.le_refl _ | (simp <;> omega)) _))) (RN.below (by repeat (first | exact Below.refl _ _ | refine Below.alloc ?_ (by first | exact Nat.le_refl _ | (simp <;> omega)) _ | refine Below.setCell ?_ (by first | exact Nat.le_refl _ | (simp <;> omega)) _)))).mono ?_
        rintro e w2 ⟨rfl, hb2⟩
        have hq2 : Below w1.heap.size w1 w2 := bth (by repeat (first | exact Below.refl _ _ | refine Below.alloc ?_ (by first | exact Nat.le_refl _ | (simp <;> omega)) _ | refine Below.setCell ?_ (by first | exact Nat.le_refl _ | (simp <;> omega)) _)) hb2
        replace HB := bth HB hq2
        replace hR := hR.below hq2
        replace HT := HT.below hq2
        replace RY := RY.below hq2
        replace RN := RN.below hq2
        have hD : Blk w2 (w1.heap.size) 35 #[.int .i64 d.id, .int .i64 d.day, .int .i64 d.need, .slice Y d.yes.length yc, .slice N' d.no.length nc, .bool d.done] := Blk.below (by repeat (first | exact Blk.new _ _ _ | exact Blk.new2 _ _ _ _ | exact Blk.new3 _ _ _ _ _ | exact Blk.new4 _ _ _ _ _ _ | refine Blk.alloc ?_ _)) hb2 (by simp <;> omega)
        have b0 := (hD.cell 0).trans (show _ = some (.int .i64 d.id) from rfl)
        have b1 := (hD.cell 1).trans (show _ = some (.int .i64 d.day) from rfl)
        have b2 := (hD.cell 2).trans (show _ = some (.int .i64 d.need) from rfl)
        have b3 := (hD.cell 3).trans (show _ = some (.slice Y d.yes.length yc) from rfl)
        have b4 := (hD.cell 4).trans (show _ = some (.slice N' d.no.length nc) from rfl)
        have b5 := (hD.cell 5).trans (show _ = some (.bool d.done) from rfl)
        have yhD := hD.lt
        go_wp2_with fail
        refine (sSwitches_is d Y N' yc nc hy hn hYn.out hNn.out _ E1.out _ (RY.below (by repeat (first | exact Below.refl _ _ | refine Below.alloc ?_ (by first | exact Nat.le_refl _ | (simp <;> omega)) _ | refine Below.setCell ?_ (by first | exact Nat.le_refl _ | (simp <;> omega)) _))) (RN.below (by repeat (first | exact Below.refl _ _ | refine Below.alloc ?_ (by first | exact Nat.le_refl _ | (simp <;> omega)) _ | refine Below.setCell ?_ (by first | exact Nat.le_refl _ | (simp <;> omega)) _)))).mono ?_
        rintro e w3 ⟨rfl, hb3⟩
        have hq3 : Below w2.heap.size w2 w3 := bth (by repeat (first | exact Below.refl _ _ | refine Below.alloc ?_ (by first | exact Nat.le_refl _ | (simp <;> omega)) _ | refine Below.setCell ?_ (by first | exact Nat.le_refl _ | (simp <;> omega)) _)) hb3
        replace HB := bth HB hq3
        replace hR := hR.below hq3
        replace HT := HT.below hq3
        replace RY := RY.below hq3
        replace RN := RN.below hq3
        replace hD := hD.below hq3 hD.lt
        replace b0 := (hD.cell 0).trans (show _ = some (.int .i64 d.id) from rfl)
        replace b1 := (hD.cell 1).trans (show _ = some (.int .i64 d.day) from rfl)
        replace b2 := (hD.cell 2).trans (show _ = some (.int .i64 d.need) from rfl)
        replace b3 := (hD.cell 3).trans (show _ = some (.slice Y d.yes.length yc) from rfl)
        replace b4 := (hD.cell 4).trans (show _ = some (.slice N' d.no.length nc) from rfl)
        replace b5 := (hD.cell 5).trans (show _ = some (.bool d.done) from rfl)
        have yhD := hD.lt
        go_wp2_with fail
        refine (iWasAdopted_is d Y N' yc nc hy hn _ E2.out _ (RY.below (by repeat (first | exact Below.refl _ _ | refine Below.alloc ?_ (by first | exact Nat.le_refl _ | (simp <;> omega)) _ | refine Below.setCell ?_ (by first | exact Nat.le_refl _ | (simp <;> omega)) _))) (RN.below (by repeat (first | exact Below.refl _ _ | refine Below.alloc ?_ (by first | exact Nat.le_refl _ | (simp <;> omega)) _ | refine Below.setCell ?_ (by first | exact Nat.le_refl _ | (simp <;> omega)) _)))).mono ?_
        rintro e w4 ⟨rfl, hb4⟩
        have hq4 : Below w3.heap.size w3 w4 := bth (by repeat (first | exact Below.refl _ _ | refine Below.alloc ?_ (by first | exact Nat.le_refl _ | (simp <;> omega)) _ | refine Below.setCell ?_ (by first | exact Nat.le_refl _ | (simp <;> omega)) _)) hb4
        replace HB := bth HB hq4
        replace hR := hR.below hq4
        replace HT := HT.below hq4
        replace RY := RY.below hq4
        replace RN := RN.below hq4
        replace hD := hD.below hq4 hD.lt
        replace b0 := (hD.cell 0).trans (show _ = some (.int .i64 d.id) from rfl)
        replace b1 := (hD.cell 1).trans (show _ = some (.int .i64 d.day) from rfl)
        replace b2 := (hD.cell 2).trans (show _ = some (.int .i64 d.need) from rfl)
        replace b3 := (hD.cell 3).trans (show _ = some (.slice Y d.yes.length yc) from rfl)
        replace b4 := (hD.cell 4).trans (show _ = some (.slice N' d.no.length nc) from rfl)
        replace b5 := (hD.cell 5).trans (show _ = some (.bool d.done) from rfl)
        have yhD := hD.lt
        go_wp2_with fail
        refine (iPrevL_is d Y N' yc nc d.yes true EL.out HD.out hy hn hYn.out hNn.out _ (RY.below (by repeat (first | exact Below.refl _ _ | refine Below.alloc ?_ (by first | exact Nat.le_refl _ | (simp <;> omega)) _ | refine Below.setCell ?_ (by first | exact Nat.le_refl _ | (simp <;> omega)) _))) (RN.below (by repeat (first | exact Below.refl _ _ | refine Below.alloc ?_ (by first | exact Nat.le_refl _ | (simp <;> omega)) _ | refine Below.setCell ?_ (by first | exact Nat.le_refl _ | (simp <;> omega)) _)))).mono ?_
        rintro e w5 ⟨A7, c7, rfl, O7, hb5⟩
        have hq5 : Below w4.heap.size w4 w5 := bth (by repeat (first | exact Below.refl _ _ | refine Below.alloc ?_ (by first | exact Nat.le_refl _ | (simp <;> omega)) _ | refine Below.setCell ?_ (by first | exact Nat.le_refl _ | (simp <;> omega)) _)) hb5
        replace HB := bth HB hq5
        replace hR := hR.below hq5
        replace HT := HT.below hq5
        replace RY := RY.below hq5
        replace RN := RN.below hq5
        replace hD := hD.below hq5 hD.lt
        replace b0 := (hD.cell 0).trans (show _ = some (.int .i64 d.id) from rfl)
        replace b1 := (hD.cell 1).trans (show _ = some (.int .i64 d.day) from rfl)
        replace b2 := (hD.cell 2).trans (show _ = some (.int .i64 d.need) from rfl)
        replace b3 := (hD.cell 3).trans (show _ = some (.slice Y d.yes.length yc) from rfl)
        replace b4 := (hD.cell 4).trans (show _ = some (.slice N' d.no.length nc) from rfl)
        replace b5 := (hD.cell 5).trans (show _ = some (.bool d.done) from rfl)
        have Q7 := O7.rds (hf := intC_len)
        clear O7
        have yhD := hD.lt
        go_wp2_with fail
        refine (sWasAdopted_is d Y N' yc nc hy hn _ E2.out _ (RY.below (by repeat (first | exact Below.refl _ _ | refine Below.alloc ?_ (by first | exact Nat.le_refl _ | (simp <;> omega)) _ | refine Below.setCell ?_ (by first | exact Nat.le_refl _ | (simp <;> omega)) _))) (RN.below (by repeat (first | exact Below.refl _ _ | refine Below.alloc ?_ (by first | exact Nat.le_refl _ | (simp <;> omega)) _ | refine Below.setCell ?_ (by first | exact Nat.le_refl _ | (simp <;> omega)) _)))).mono ?_
        rintro e w6 ⟨rfl, hb6⟩
        have hq6 : Below w5.heap.size w5 w6 := bth (by repeat (first | exact Below.refl _ _ | refine Below.alloc ?_ (by first | exact Nat.le_refl _ | (simp <;> omega)) _ | refine Below.setCell ?_ (by first | exact Nat.le_refl _ | (simp <;> omega)) _)) hb6
        replace HB := bth HB hq6
        replace hR := hR.below hq6
        replace HT := HT.below hq6
        replace RY := RY.below hq6
        replace RN := RN.below hq6
        replace Q7 := Q7.below hq6
        replace hD := hD.below hq6 hD.lt
        replace b0 := (hD.cell 0).trans (show _ = some (.int .i64 d.id) from rfl)
        replace b1 := (hD.cell 1).trans (show _ = some (.int .i64 d.day) from rfl)
        replace b2 := (hD.cell 2).trans (show _ = some (.int .i64 d.need) from rfl)
        replace b3 := (hD.cell 3).trans (show _ = some (.slice Y d.yes.length yc) from rfl)
        replace b4 := (hD.cell 4).trans (show _ = some (.slice N' d.no.length nc) from rfl)
        replace b5 := (hD.cell 5).trans (show _ = some (.bool d.done) from rfl)
        have yhD := hD.lt
        go_wp2_with fail
        refine (isValidDecided_is d Y N' yc nc hy hn true HD.out _ (RY.below (by repeat (first | exact Below.refl _ _ | refine Below.alloc ?_ (by first | exact Nat.le_refl _ | (simp <;> omega)) _ | refine Below.setCell ?_ (by first | exact Nat.le_refl _ | (simp <;> omega)) _))) (RN.below (by repeat (first | exact Below.refl _ _ | refine Below.alloc ?_ (by first | exact Nat.le_refl _ | (simp <;> omega)) _ | refine Below.setCell ?_ (by first | exact Nat.le_refl _ | (simp <;> omega)) _)))).mono ?_
        rintro e w7 ⟨rfl, hb7⟩
        have hq7 : Below w6.heap.size w6 w7 := bth (by repeat (first | exact Below.refl _ _ | refine Below.alloc ?_ (by first | exact Nat.le_refl _ | (simp <;> omega)) _ | refine Below.setCell ?_ (by first | exact Nat.le_refl _ | (simp <;> omega)) _)) hb7
        replace HB := bth HB hq7
        replace hR := hR.below hq7
        replace HT := HT.below hq7
        replace RY := RY.below hq7
        replace RN := RN.below hq7
        replace Q7 := Q7.below hq7
        replace hD := hD.below hq7 hD.lt
        replace b0 := (hD.cell 0).trans (show _ = some (.int .i64 d.id) from rfl)
        replace b1 := (hD.cell 1).trans (show _ = some (.int .i64 d.day) from rfl)
        replace b2 := (hD.cell 2).trans (show _ = some (.int .i64 d.need) from rfl)
        replace b3 := (hD.cell 3).trans (show _ = some (.slice Y d.yes.length yc) from rfl)
        replace b4 := (hD.cell 4).trans (show _ = some (.slice N' d.no.length nc) from rfl)
        replace b5 := (hD.cell 5).trans (show _ = some (.bool d.done) from rfl)
        have yhD := hD.lt
        go_wp2_with fail
        refine (sPrevL_is d Y N' yc nc d.yes true EL.out HD.out hy hn hYn.out hNn.out _ (RY.below (by repeat (first | exact Below.refl _ _ | refine Below.alloc ?_ (by first | exact Nat.le_refl _ | (simp <;> omega)) _ | refine Below.setCell ?_ (by first | exact Nat.le_refl _ | (simp <;> omega)) _))) (RN.below (by repeat (first | exact Below.refl _ _ | refine Below.alloc ?_ (by first | exact Nat.le_refl _ | (simp <;> omega)) _ | refine Below.setCell ?_ (by first | exact Nat.le_refl _ | (simp <;> omega)) _)))).mono ?_
        rintro e w8 ⟨A8, c8, rfl, O8, hb8⟩
        have hq8 : Below w7.heap.size w7 w8 := bth (by repeat (first | exact Below.refl _ _ | refine Below.alloc ?_ (by first | exact Nat.le_refl _ | (simp <;> omega)) _ | refine Below.setCell ?_ (by first | exact Nat.le_refl _ | (simp <;> omega)) _)) hb8
        replace HB := bth HB hq8
        replace hR := hR.below hq8
        replace HT := HT.below hq8
        replace RY := RY.below hq8
        replace RN := RN.below hq8
        replace Q7 := Q7.below hq8
        replace hD := hD.below hq8 hD.lt
        replace b0 := (hD.cell 0).trans (show _ = some (.int .i64 d.id) from rfl)
        replace b1 := (hD.cell 1).trans (show _ = some (.int .i64 d.day) from rfl)
        replace b2 := (hD.cell 2).trans (show _ = some (.int .i64 d.need) from rfl)
        replace b3 := (hD.cell 3).trans (show _ = some (.slice Y d.yes.length yc) from rfl)
        replace b4 := (hD.cell 4).trans (show _ = some (.slice N' d.no.length nc) from rfl)
        replace b5 := (hD.cell 5).trans (show _ = some (.bool d.done) from rfl)
        have Q8 := O8.rds (hf := intC_len)
        clear O8
        have yhD := hD.lt
        go_wp2_with fail
        refine (rInts_is A7 A8 c7 c8 d.yes (by first | omega | simp) _ (Q7.below (by repeat (first | exact Below.refl _ _ | refine Below.alloc ?_ (by first | exact Nat.le_refl _ | (simp <;> omega)) _ | refine Below.setCell ?_ (by first | exact Nat.le_refl _ | (simp <;> omega)) _))) (Q8.below (by repeat (first | exact Below.refl _ _ | refine Below.alloc ?_ (by first | exact Nat.le_refl _ | (simp <;> omega)) _ | refine Below.setCell ?_ (by first | exact Nat.le_refl _ | (simp <;> omega)) _)))).mono ?_
        rintro e w9 ⟨rfl, hb9⟩
        have hq9 : Below w8.heap.size w8 w9 := bth (by repeat (first | exact Below.refl _ _ | refine Below.alloc ?_ (by first | exact Nat.le_refl _ | (simp <;> omega)) _ | refine Below.setCell ?_ (by first | exact Nat.le_refl _ | (simp <;> omega)) _)) hb9
        replace HB := bth HB hq9
        replace hR := hR.below hq9
        replace HT := HT.below hq9
        replace RY := RY.below hq9
        replace RN := RN.below hq9
        replace Q7 := Q7.below hq9
        replace Q8 := Q8.below hq9
        replace hD := hD.below hq9 hD.lt
        replace b0 := (hD.cell 0).trans (show _ = some (.int .i64 d.id) from rfl)
        replace b1 := (hD.cell 1).trans (show _ = some (.int .i64 d.day) from rfl)
        replace b2 := (hD.cell 2).trans (show _ = some (.int .i64 d.need) from rfl)
        replace b3 := (hD.cell 3).trans (show _ = some (.slice Y d.yes.length yc) from rfl)
        replace b4 := (hD.cell 4).trans (show _ = some (.slice N' d.no.length nc) from rfl)
        replace b5 := (hD.cell 5).trans (show _ = some (.bool d.done) from rfl)
        clear Q7 Q8
        have yhD := hD.lt
        go_wp2_with fail
        refine (isAdoptedT_is d.need d.yes.length d.no.length HND.out (by omega) (by omega) (by omega) (by omega) true HA.out _).mono ?_
        rintro e w10 ⟨rfl, hb10⟩
        have hq10 : Below w9.heap.size w9 w10 := bth (by repeat (first | exact Below.refl _ _ | refine Below.alloc ?_ (by first | exact Nat.le_refl _ | (simp <;> omega)) _ | refine Below.setCell ?_ (by first | exact Nat.le_refl _ | (simp <;> omega)) _)) hb10
        replace HB := bth HB hq10
        replace hR := hR.below hq10
        replace HT := HT.below hq10
        replace RY := RY.below hq10
        replace RN := RN.below hq10
        replace hD := hD.below hq10 hD.lt
        replace b0 := (hD.cell 0).trans (show _ = some (.int .i64 d.id) from rfl)
        replace b1 := (hD.cell 1).trans (show _ = some (.int .i64 d.day) from rfl)
        replace b2 := (hD.cell 2).trans (show _ = some (.int .i64 d.need) from rfl)
        replace b3 := (hD.cell 3).trans (show _ = some (.slice Y d.yes.length yc) from rfl)
        replace b4 := (hD.cell 4).trans (show _ = some (.slice N' d.no.length nc) from rfl)
        replace b5 := (hD.cell 5).trans (show _ = some (.bool d.done) from rfl)
        have yhD := hD.lt
        go_upto_region 21 with fail
        clear b0 b1 b2 b3 b4 b5
        have b0 := fun K : Kin w10.heap.size w10 => ((hD.below K.below hD.lt).cell 0).trans (show _ = some (.int .i64 d.id) from rfl)
        have b1 := fun K : Kin w10.heap.size w10 => ((hD.below K.below hD.lt).cell 1).trans (show _ = some (.int .i64 d.day) from rfl)
        have b2 := fun K : Kin w10.heap.size w10 => ((hD.below K.below hD.lt).cell 2).trans (show _ = some (.int .i64 d.need) from rfl)
        have b3 := fun K : Kin w10.heap.size w10 => ((hD.below K.below hD.lt).cell 3).trans (show _ = some (.slice Y d.yes.length yc) from rfl)
        have b4 := fun K : Kin w10.heap.size w10 => ((hD.below K.below hD.lt).cell 4).trans (show _ = some (.slice N' d.no.length nc) from rfl)
        have b5 := fun K : Kin w10.heap.size w10 => ((hD.below K.below hD.lt).cell 5).trans (show _ = some (.bool d.done) from rfl)
        refine wp_region_kin (by kernel_rfl) (by kernel_rfl) ?_
        repeat (go_big_quiet_step ((fail)))
        refine wpQuiet_nil ?_
        intro K
        clear b0 b1 b2 b3 b4 b5
        have hq11 : Below w10.heap.size w10 K.world := bth (by repeat (first | exact Below.refl _ _ | refine Below.alloc ?_ (by first | exact Nat.le_refl _ | (simp <;> omega)) _ | refine Below.setCell ?_ (by first | exact Nat.le_refl _ | (simp <;> omega)) _)) K.below
        replace HB := bth HB hq11
        replace hR := hR.below hq11
        replace HT := HT.below hq11
        replace RY := RY.below hq11
        replace RN := RN.below hq11
        replace hD := hD.below hq11 hD.lt
        have b0 := (hD.cell 0).trans (show _ = some (.int .i64 d.id) from rfl)
        have b1 := (hD.cell 1).trans (show _ = some (.int .i64 d.day) from rfl)
        have b2 := (hD.cell 2).trans (show _ = some (.int .i64 d.need) from rfl)
        have b3 := (hD.cell 3).trans (show _ = some (.slice Y d.yes.length yc) from rfl)
        have b4 := (hD.cell 4).trans (show _ = some (.slice N' d.no.length nc) from rfl)
        have b5 := (hD.cell 5).trans (show _ = some (.bool d.done) from rfl)
        have yhD := hD.lt
        go_wp2_with fail
        refine (isAdoptedT_is d.need ((d.yes.length : Int) - n) ((d.no.length : Int) + n) HND.out (by omega) (by omega) (by omega) (by omega) false HW.out _).mono ?_
        rintro e w12 ⟨rfl, hb12⟩
        have hq12 : Below K.world.heap.size K.world w12 := bth (by repeat (first | exact Below.refl _ _ | refine Below.alloc ?_ (by first | exact Nat.le_refl _ | (simp <;> omega)) _ | refine Below.setCell ?_ (by first | exact Nat.le_refl _ | (simp <;> omega)) _)) hb12
        replace HB := bth HB hq12
        replace hR := hR.below hq12
        replace HT := HT.below hq12
        replace RY := RY.below hq12
        replace RN := RN.below hq12
        replace hD := hD.below hq12 hD.lt
        replace b0 := (hD.cell 0).trans (show _ = some (.int .i64 d.id) from rfl)
        replace b1 := (hD.cell 1).trans (show _ = some (.int .i64 d.day) from rfl)
        replace b2 := (hD.cell 2).trans (show _ = some (.int .i64 d.need) from rfl)
        replace b3 := (hD.cell 3).trans (show _ = some (.slice Y d.yes.length yc) from rfl)
        replace b4 := (hD.cell 4).trans (show _ = some (.slice N' d.no.length nc) from rfl)
        replace b5 := (hD.cell 5).trans (show _ = some (.bool d.done) from rfl)
        have yhD := hD.lt
        clear RY RN
        have yhD := hD.lt
        go_wp2_with fail
        refine (drawMay_is A c cs hcs _ (hR.below (by repeat (first | exact Below.refl _ _ | refine Below.alloc ?_ (by first | exact Nat.le_refl _ | (simp <;> omega)) _ | refine Below.setCell ?_ (by first | exact Nat.le_refl _ | (simp <;> omega)) _)))).mono ?_
        rintro e w13 ⟨x, P, Q', pc, qc, m, t, rfl, hxy, hxn, hm, ht, hPs, hQs, hb13⟩
        have hq13 : Below w12.heap.size w12 w13 := bth (by repeat (first | exact Below.refl _ _ | refine Below.alloc ?_ (by first | exact Nat.le_refl _ | (simp <;> omega)) _ | refine Below.setCell ?_ (by first | exact Nat.le_refl _ | (simp <;> omega)) _)) hb13
        replace HB := bth HB hq13
        replace hR := hR.below hq13
        replace HT := HT.below hq13
        replace hD := hD.below hq13 hD.lt
        replace b0 := (hD.cell 0).trans (show _ = some (.int .i64 d.id) from rfl)
        replace b1 := (hD.cell 1).trans (show _ = some (.int .i64 d.day) from rfl)
        replace b2 := (hD.cell 2).trans (show _ = some (.int .i64 d.need) from rfl)
        replace b3 := (hD.cell 3).trans (show _ = some (.slice Y d.yes.length yc) from rfl)
        replace b4 := (hD.cell 4).trans (show _ = some (.slice N' d.no.length nc) from rfl)
        replace b5 := (hD.cell 5).trans (show _ = some (.bool d.done) from rfl)
        have RP := hPs.rds
        have RQ := hQs.rds
        have hPn := Lib.hid hPs.nil
        have hQn := Lib.hid hQs.nil
        clear hPs hQs
        have hxy' : x.yes.length ≤ 1048576 := by omega
        have hxn' : x.no.length ≤ 1048576 := by omega
        by_cases hxd : x.done = true
        · skip
          obtain ⟨mb, hmo⟩ := mayOut_done (m := m) (t := t) hxd
          have HM := Lib.hid hmo
          have HX : Hid (x.done = true) := Lib.hid hxd
          clear hmo hxd
          have yhD := hD.lt
          go_wp2_with fail
          refine (iMay_is x P Q' pc qc hxy' hxn' m t _ HM.out _ (RP.below (by repeat (first | exact Below.refl _ _ | refine Below.alloc ?_ (by first | exact Nat.le_refl _ | (simp <;> omega)) _ | refine Below.setCell ?_ (by first | exact Nat.le_refl _ | (simp <;> omega)) _))) (RQ.below (by repeat (first | exact Below.refl _ _ | refine Below.alloc ?_ (by first | exact Nat.le_refl _ | (simp <;> omega)) _ | refine Below.setCell ?_ (by first | exact Nat.le_refl _ | (simp <;> omega)) _)))).mono ?_
          rintro e w14 ⟨rfl, hb14⟩
          have hq14 : Below w13.heap.size w13 w14 := bth (by repeat (first | exact Below.refl _ _ | refine Below.alloc ?_ (by first | exact Nat.le_refl _ | (simp <;> omega)) _ | refine Below.setCell ?_ (by first | exact Nat.le_refl _ | (simp <;> omega)) _)) hb14
          replace HB := bth HB hq14
          replace hR := hR.below hq14
          replace HT := HT.below hq14
          replace RP := RP.below hq14
          replace RQ := RQ.below hq14
          replace hD := hD.below hq14 hD.lt
          replace b0 := (hD.cell 0).trans (show _ = some (.int .i64 d.id) from rfl)
          replace b1 := (hD.cell 1).trans (show _ = some (.int .i64 d.day) from rfl)
          replace b2 := (hD.cell 2).trans (show _ = some (.int .i64 d.need) from rfl)
          replace b3 := (hD.cell 3).trans (show _ = some (.slice Y d.yes.length yc) from rfl)
          replace b4 := (hD.cell 4).trans (show _ = some (.slice N' d.no.length nc) from rfl)
          replace b5 := (hD.cell 5).trans (show _ = some (.bool d.done) from rfl)
          have hX : Blk w14 (w13.heap.size) 35 #[.int .i64 x.id, .int .i64 x.day, .int .i64 x.need, .slice P x.yes.length pc, .slice Q' x.no.length qc, .bool x.done] := Blk.below (by repeat (first | exact Blk.new _ _ _ | exact Blk.new2 _ _ _ _ | exact Blk.new3 _ _ _ _ _ | exact Blk.new4 _ _ _ _ _ _ | refine Blk.alloc ?_ _)) hb14 (by simp <;> omega)
          have x0 := (hX.cell 0).trans (show _ = some (.int .i64 x.id) from rfl)
          have x1 := (hX.cell 1).trans (show _ = some (.int .i64 x.day) from rfl)
          have x2 := (hX.cell 2).trans (show _ = some (.int .i64 x.need) from rfl)
          have x3 := (hX.cell 3).trans (show _ = some (.slice P x.yes.length pc) from rfl)
          have x4 := (hX.cell 4).trans (show _ = some (.slice Q' x.no.length qc) from rfl)
          have x5 := (hX.cell 5).trans (show _ = some (.bool x.done) from rfl)
          have yhD := hD.lt
          have yhX := hX.lt
          go_wp2_with fail
          refine (sMay_is x P Q' pc qc hxy' hxn' hPn.out hQn.out m t _ HM.out _ (RP.below (by repeat (first | exact Below.refl _ _ | refine Below.alloc ?_ (by first | exact Nat.le_refl _ | (simp <;> omega)) _ | refine Below.setCell ?_ (by first | exact Nat.le_refl _ | (simp <;> omega)) _))) (RQ.below (by repeat (first | exact Below.refl _ _ | refine Below.alloc ?_ (by first | exact Nat.le_refl _ | (simp <;> omega)) _ | refine Below.setCell ?_ (by first | exact Nat.le_refl _ | (simp <;> omega)) _)))).mono ?_
          rintro e w15 ⟨rfl, hb15⟩
          have hq15 : Below w14.heap.size w14 w15 := bth (by repeat (first | exact Below.refl _ _ | refine Below.alloc ?_ (by first | exact Nat.le_refl _ | (simp <;> omega)) _ | refine Below.setCell ?_ (by first | exact Nat.le_refl _ | (simp <;> omega)) _)) hb15
          replace HB := bth HB hq15
          replace hR := hR.below hq15
          replace HT := HT.below hq15
          replace RP := RP.below hq15
          replace RQ := RQ.below hq15
          replace hD := hD.below hq15 hD.lt
          replace b0 := (hD.cell 0).trans (show _ = some (.int .i64 d.id) from rfl)
          replace b1 := (hD.cell 1).trans (show _ = some (.int .i64 d.day) from rfl)
          replace b2 := (hD.cell 2).trans (show _ = some (.int .i64 d.need) from rfl)
          replace b3 := (hD.cell 3).trans (show _ = some (.slice Y d.yes.length yc) from rfl)
          replace b4 := (hD.cell 4).trans (show _ = some (.slice N' d.no.length nc) from rfl)
          replace b5 := (hD.cell 5).trans (show _ = some (.bool d.done) from rfl)
          replace hX := hX.below hq15 hX.lt
          replace x0 := (hX.cell 0).trans (show _ = some (.int .i64 x.id) from rfl)
          replace x1 := (hX.cell 1).trans (show _ = some (.int .i64 x.day) from rfl)
          replace x2 := (hX.cell 2).trans (show _ = some (.int .i64 x.need) from rfl)
          replace x3 := (hX.cell 3).trans (show _ = some (.slice P x.yes.length pc) from rfl)
          replace x4 := (hX.cell 4).trans (show _ = some (.slice Q' x.no.length qc) from rfl)
          replace x5 := (hX.cell 5).trans (show _ = some (.bool x.done) from rfl)
          clear RP RQ
          rw [HX.out] at x5
          have yhD := hD.lt
          have yhX := hX.lt
          go_wp2_with fail
          refine (drawDt_is A c cs hcs _ (hR.below (by repeat (first | exact Below.refl _ _ | refine Below.alloc ?_ (by first | exact Nat.le_refl _ | (simp <;> omega)) _ | refine Below.setCell ?_ (by first | exact Nat.le_refl _ | (simp <;> omega)) _)))).mono ?_
          rintro e w16 ⟨z, S, U', sc, uc, rfl, hzy, hzn, hSs, hUs, hb16⟩
          have hq16 : Below w15.heap.size w15 w16 := bth (by repeat (first | exact Below.refl _ _ | refine Below.alloc ?_ (by first | exact Nat.le_refl _ | (simp <;> omega)) _ | refine Below.setCell ?_ (by first | exact Nat.le_refl _ | (simp <;> omega)) _)) hb16
          replace HB := bth HB hq16
          replace hR := hR.below hq16
          replace HT := HT.below hq16
          replace hD := hD.below hq16 hD.lt
          replace b0 := (hD.cell 0).trans (show _ = some (.int .i64 d.id) from rfl)
          replace b1 := (hD.cell 1).trans (show _ = some (.int .i64 d.day) from rfl)
          replace b2 := (hD.cell 2).trans (show _ = some (.int .i64 d.need) from rfl)
          replace b3 := (hD.cell 3).trans (show _ = some (.slice Y d.yes.length yc) from rfl)
          replace b4 := (hD.cell 4).trans (show _ = some (.slice N' d.no.length nc) from rfl)
          replace b5 := (hD.cell 5).trans (show _ = some (.bool d.done) from rfl)
          replace hX := hX.below hq16 hX.lt
          replace x0 := (hX.cell 0).trans (show _ = some (.int .i64 x.id) from rfl)
          replace x1 := (hX.cell 1).trans (show _ = some (.int .i64 x.day) from rfl)
          replace x2 := (hX.cell 2).trans (show _ = some (.int .i64 x.need) from rfl)
          replace x3 := (hX.cell 3).trans (show _ = some (.slice P x.yes.length pc) from rfl)
          replace x4 := (hX.cell 4).trans (show _ = some (.slice Q' x.no.length qc) from rfl)
          replace x5 := (hX.cell 5).trans (show _ = some (.bool x.done) from rfl)
          skip
          have RS := hSs.rds
          have RU := hUs.rds
          clear hSs hUs
          have hzy' : z.yes.length ≤ 1048576 := by omega
          have hzn' : z.no.length ≤ 1048576 := by omega
          obtain ⟨zs, zb, hdt⟩ := dtOut_form z
          have HZ := Lib.hid hdt
          clear hdt
          have yhD := hD.lt
          have yhX := hX.lt
          go_wp2_with fail
          refine (iDecidedText_is z S U' sc uc hzy' hzn' _ HZ.out _ (RS.below (by repeat (first | exact Below.refl _ _ | refine Below.alloc ?_ (by first | exact Nat.le_refl _ | (simp <;> omega)) _ | refine Below.setCell ?_ (by first | exact Nat.le_refl _ | (simp <;> omega)) _))) (RU.below (by repeat (first | exact Below.refl _ _ | refine Below.alloc ?_ (by first | exact Nat.le_refl _ | (simp <;> omega)) _ | refine Below.setCell ?_ (by first | exact Nat.le_refl _ | (simp <;> omega)) _))) (HT.below (by repeat (first | exact Below.refl _ _ | refine Below.alloc ?_ (by first | exact Nat.le_refl _ | (simp <;> omega)) _ | refine Below.setCell ?_ (by first | exact Nat.le_refl _ | (simp <;> omega)) _)))).mono ?_
          rintro e w17 ⟨rfl, hb17⟩
          have hq17 : Below w16.heap.size w16 w17 := bth (by repeat (first | exact Below.refl _ _ | refine Below.alloc ?_ (by first | exact Nat.le_refl _ | (simp <;> omega)) _ | refine Below.setCell ?_ (by first | exact Nat.le_refl _ | (simp <;> omega)) _)) hb17
          replace HB := bth HB hq17
          replace hR := hR.below hq17
          replace HT := HT.below hq17
          replace RS := RS.below hq17
          replace RU := RU.below hq17
          replace hD := hD.below hq17 hD.lt
          replace b0 := (hD.cell 0).trans (show _ = some (.int .i64 d.id) from rfl)
          replace b1 := (hD.cell 1).trans (show _ = some (.int .i64 d.day) from rfl)
          replace b2 := (hD.cell 2).trans (show _ = some (.int .i64 d.need) from rfl)
          replace b3 := (hD.cell 3).trans (show _ = some (.slice Y d.yes.length yc) from rfl)
          replace b4 := (hD.cell 4).trans (show _ = some (.slice N' d.no.length nc) from rfl)
          replace b5 := (hD.cell 5).trans (show _ = some (.bool d.done) from rfl)
          replace hX := hX.below hq17 hX.lt
          replace x0 := (hX.cell 0).trans (show _ = some (.int .i64 x.id) from rfl)
          replace x1 := (hX.cell 1).trans (show _ = some (.int .i64 x.day) from rfl)
          replace x2 := (hX.cell 2).trans (show _ = some (.int .i64 x.need) from rfl)
          replace x3 := (hX.cell 3).trans (show _ = some (.slice P x.yes.length pc) from rfl)
          replace x4 := (hX.cell 4).trans (show _ = some (.slice Q' x.no.length qc) from rfl)
          replace x5 := (hX.cell 5).trans (show _ = some (.bool x.done) from rfl)
          have hZ : Blk w17 (w16.heap.size) 35 #[.int .i64 z.id, .int .i64 z.day, .int .i64 z.need, .slice S z.yes.length sc, .slice U' z.no.length uc, .bool z.done] := Blk.below (by repeat (first | exact Blk.new _ _ _ | exact Blk.new2 _ _ _ _ | exact Blk.new3 _ _ _ _ _ | exact Blk.new4 _ _ _ _ _ _ | refine Blk.alloc ?_ _)) hb17 (by simp <;> omega)
          have z0 := (hZ.cell 0).trans (show _ = some (.int .i64 z.id) from rfl)
          have z1 := (hZ.cell 1).trans (show _ = some (.int .i64 z.day) from rfl)
          have z2 := (hZ.cell 2).trans (show _ = some (.int .i64 z.need) from rfl)
          have z3 := (hZ.cell 3).trans (show _ = some (.slice S z.yes.length sc) from rfl)
          have z4 := (hZ.cell 4).trans (show _ = some (.slice U' z.no.length uc) from rfl)
          have z5 := (hZ.cell 5).trans (show _ = some (.bool z.done) from rfl)
          have yhD := hD.lt
          have yhX := hX.lt
          have yhZ := hZ.lt
          go_wp2_with fail
          refine (sDecidedText_is z S U' sc uc hzy' hzn' _ HZ.out _ (RS.below (by repeat (first | exact Below.refl _ _ | refine Below.alloc ?_ (by first | exact Nat.le_refl _ | (simp <;> omega)) _ | refine Below.setCell ?_ (by first | exact Nat.le_refl _ | (simp <;> omega)) _))) (RU.below (by repeat (first | exact Below.refl _ _ | refine Below.alloc ?_ (by first | exact Nat.le_refl _ | (simp <;> omega)) _ | refine Below.setCell ?_ (by first | exact Nat.le_refl _ | (simp <;> omega)) _)))).mono ?_
          rintro e w18 ⟨rfl, hb18⟩
          have hq18 : Below w17.heap.size w17 w18 := bth (by repeat (first | exact Below.refl _ _ | refine Below.alloc ?_ (by first | exact Nat.le_refl _ | (simp <;> omega)) _ | refine Below.setCell ?_ (by first | exact Nat.le_refl _ | (simp <;> omega)) _)) hb18
          replace HB := bth HB hq18
          replace hR := hR.below hq18
          replace HT := HT.below hq18
          replace RS := RS.below hq18
          replace RU := RU.below hq18
          replace hD := hD.below hq18 hD.lt
          replace b0 := (hD.cell 0).trans (show _ = some (.int .i64 d.id) from rfl)
          replace b1 := (hD.cell 1).trans (show _ = some (.int .i64 d.day) from rfl)
          replace b2 := (hD.cell 2).trans (show _ = some (.int .i64 d.need) from rfl)
          replace b3 := (hD.cell 3).trans (show _ = some (.slice Y d.yes.length yc) from rfl)
          replace b4 := (hD.cell 4).trans (show _ = some (.slice N' d.no.length nc) from rfl)
          replace b5 := (hD.cell 5).trans (show _ = some (.bool d.done) from rfl)
          replace hX := hX.below hq18 hX.lt
          replace x0 := (hX.cell 0).trans (show _ = some (.int .i64 x.id) from rfl)
          replace x1 := (hX.cell 1).trans (show _ = some (.int .i64 x.day) from rfl)
          replace x2 := (hX.cell 2).trans (show _ = some (.int .i64 x.need) from rfl)
          replace x3 := (hX.cell 3).trans (show _ = some (.slice P x.yes.length pc) from rfl)
          replace x4 := (hX.cell 4).trans (show _ = some (.slice Q' x.no.length qc) from rfl)
          replace x5 := (hX.cell 5).trans (show _ = some (.bool x.done) from rfl)
          replace hZ := hZ.below hq18 hZ.lt
          replace z0 := (hZ.cell 0).trans (show _ = some (.int .i64 z.id) from rfl)
          replace z1 := (hZ.cell 1).trans (show _ = some (.int .i64 z.day) from rfl)
          replace z2 := (hZ.cell 2).trans (show _ = some (.int .i64 z.need) from rfl)
          replace z3 := (hZ.cell 3).trans (show _ = some (.slice S z.yes.length sc) from rfl)
          replace z4 := (hZ.cell 4).trans (show _ = some (.slice U' z.no.length uc) from rfl)
          replace z5 := (hZ.cell 5).trans (show _ = some (.bool z.done) from rfl)
          go_wp2
          go_ret
          exact ⟨rfl, (bth HB (by repeat (first | exact Below.refl _ _ | refine Below.alloc ?_ (by first | exact Nat.le_refl _ | (simp <;> omega)) _ | refine Below.setCell ?_ (by first | exact Nat.le_refl _ | (simp <;> omega)) _)))⟩
        · skip
          obtain ⟨ma, mb, hmo⟩ := mayOut_form x m t
          have HM := Lib.hid hmo
          have HX : Hid (x.done = false) := Lib.hid (Bool.eq_false_iff.2 hxd)
          clear hmo hxd
          have yhD := hD.lt
          go_wp2_with fail
          refine (iMay_is x P Q' pc qc hxy' hxn' m t _ HM.out _ (RP.below (by repeat (first | exact Below.refl _ _ | refine Below.alloc ?_ (by first | exact Nat.le_refl _ | (simp <;> omega)) _ | refine Below.setCell ?_ (by first | exact Nat.le_refl _ | (simp <;> omega)) _))) (RQ.below (by repeat (first | exact Below.refl _ _ | refine Below.alloc ?_ (by first | exact Nat.le_refl _ | (simp <;> omega)) _ | refine Below.setCell ?_ (by first | exact Nat.le_refl _ | (simp <;> omega)) _)))).mono ?_
          rintro e w14 ⟨rfl, hb14⟩
          have hq14 : Below w13.heap.size w13 w14 := bth (by repeat (first | exact Below.refl _ _ | refine Below.alloc ?_ (by first | exact Nat.le_refl _ | (simp <;> omega)) _ | refine Below.setCell ?_ (by first | exact Nat.le_refl _ | (simp <;> omega)) _)) hb14
          replace HB := bth HB hq14
          replace hR := hR.below hq14
          replace HT := HT.below hq14
          replace RP := RP.below hq14
          replace RQ := RQ.below hq14
          replace hD := hD.below hq14 hD.lt
          replace b0 := (hD.cell 0).trans (show _ = some (.int .i64 d.id) from rfl)
          replace b1 := (hD.cell 1).trans (show _ = some (.int .i64 d.day) from rfl)
          replace b2 := (hD.cell 2).trans (show _ = some (.int .i64 d.need) from rfl)
          replace b3 := (hD.cell 3).trans (show _ = some (.slice Y d.yes.length yc) from rfl)
          replace b4 := (hD.cell 4).trans (show _ = some (.slice N' d.no.length nc) from rfl)
          replace b5 := (hD.cell 5).trans (show _ = some (.bool d.done) from rfl)
          have hX : Blk w14 (w13.heap.size) 35 #[.int .i64 x.id, .int .i64 x.day, .int .i64 x.need, .slice P x.yes.length pc, .slice Q' x.no.length qc, .bool x.done] := Blk.below (by repeat (first | exact Blk.new _ _ _ | exact Blk.new2 _ _ _ _ | exact Blk.new3 _ _ _ _ _ | exact Blk.new4 _ _ _ _ _ _ | refine Blk.alloc ?_ _)) hb14 (by simp <;> omega)
          have x0 := (hX.cell 0).trans (show _ = some (.int .i64 x.id) from rfl)
          have x1 := (hX.cell 1).trans (show _ = some (.int .i64 x.day) from rfl)
          have x2 := (hX.cell 2).trans (show _ = some (.int .i64 x.need) from rfl)
          have x3 := (hX.cell 3).trans (show _ = some (.slice P x.yes.length pc) from rfl)
          have x4 := (hX.cell 4).trans (show _ = some (.slice Q' x.no.length qc) from rfl)
          have x5 := (hX.cell 5).trans (show _ = some (.bool x.done) from rfl)
          have yhD := hD.lt
          have yhX := hX.lt
          go_wp2_with fail
          refine (sMay_is x P Q' pc qc hxy' hxn' hPn.out hQn.out m t _ HM.out _ (RP.below (by repeat (first | exact Below.refl _ _ | refine Below.alloc ?_ (by first | exact Nat.le_refl _ | (simp <;> omega)) _ | refine Below.setCell ?_ (by first | exact Nat.le_refl _ | (simp <;> omega)) _))) (RQ.below (by repeat (first | exact Below.refl _ _ | refine Below.alloc ?_ (by first | exact Nat.le_refl _ | (simp <;> omega)) _ | refine Below.setCell ?_ (by first | exact Nat.le_refl _ | (simp <;> omega)) _)))).mono ?_
          rintro e w15 ⟨rfl, hb15⟩
          have hq15 : Below w14.heap.size w14 w15 := bth (by repeat (first | exact Below.refl _ _ | refine Below.alloc ?_ (by first | exact Nat.le_refl _ | (simp <;> omega)) _ | refine Below.setCell ?_ (by first | exact Nat.le_refl _ | (simp <;> omega)) _)) hb15
          replace HB := bth HB hq15
          replace hR := hR.below hq15
          replace HT := HT.below hq15
          replace RP := RP.below hq15
          replace RQ := RQ.below hq15
          replace hD := hD.below hq15 hD.lt
          replace b0 := (hD.cell 0).trans (show _ = some (.int .i64 d.id) from rfl)
          replace b1 := (hD.cell 1).trans (show _ = some (.int .i64 d.day) from rfl)
          replace b2 := (hD.cell 2).trans (show _ = some (.int .i64 d.need) from rfl)
          replace b3 := (hD.cell 3).trans (show _ = some (.slice Y d.yes.length yc) from rfl)
          replace b4 := (hD.cell 4).trans (show _ = some (.slice N' d.no.length nc) from rfl)
          replace b5 := (hD.cell 5).trans (show _ = some (.bool d.done) from rfl)
          replace hX := hX.below hq15 hX.lt
          replace x0 := (hX.cell 0).trans (show _ = some (.int .i64 x.id) from rfl)
          replace x1 := (hX.cell 1).trans (show _ = some (.int .i64 x.day) from rfl)
          replace x2 := (hX.cell 2).trans (show _ = some (.int .i64 x.need) from rfl)
          replace x3 := (hX.cell 3).trans (show _ = some (.slice P x.yes.length pc) from rfl)
          replace x4 := (hX.cell 4).trans (show _ = some (.slice Q' x.no.length qc) from rfl)
          replace x5 := (hX.cell 5).trans (show _ = some (.bool x.done) from rfl)
          clear RP RQ
          rw [HX.out] at x5
          cases ma
          · skip
            have yhD := hD.lt
            have yhX := hX.lt
            go_wp2_with fail
            refine (drawDt_is A c cs hcs _ (hR.below (by repeat (first | exact Below.refl _ _ | refine Below.alloc ?_ (by first | exact Nat.le_refl _ | (simp <;> omega)) _ | refine Below.setCell ?_ (by first | exact Nat.le_refl _ | (simp <;> omega)) _)))).mono ?_
            rintro e w16 ⟨z, S, U', sc, uc, rfl, hzy, hzn, hSs, hUs, hb16⟩
            have hq16 : Below w15.heap.size w15 w16 := bth (by repeat (first | exact Below.refl _ _ | refine Below.alloc ?_ (by first | exact Nat.le_refl _ | (simp <;> omega)) _ | refine Below.setCell ?_ (by first | exact Nat.le_refl _ | (simp <;> omega)) _)) hb16
            replace HB := bth HB hq16
            replace hR := hR.below hq16
            replace HT := HT.below hq16
            replace hD := hD.below hq16 hD.lt
            replace b0 := (hD.cell 0).trans (show _ = some (.int .i64 d.id) from rfl)
            replace b1 := (hD.cell 1).trans (show _ = some (.int .i64 d.day) from rfl)
            replace b2 := (hD.cell 2).trans (show _ = some (.int .i64 d.need) from rfl)
            replace b3 := (hD.cell 3).trans (show _ = some (.slice Y d.yes.length yc) from rfl)
            replace b4 := (hD.cell 4).trans (show _ = some (.slice N' d.no.length nc) from rfl)
            replace b5 := (hD.cell 5).trans (show _ = some (.bool d.done) from rfl)
            replace hX := hX.below hq16 hX.lt
            replace x0 := (hX.cell 0).trans (show _ = some (.int .i64 x.id) from rfl)
            replace x1 := (hX.cell 1).trans (show _ = some (.int .i64 x.day) from rfl)
            replace x2 := (hX.cell 2).trans (show _ = some (.int .i64 x.need) from rfl)
            replace x3 := (hX.cell 3).trans (show _ = some (.slice P x.yes.length pc) from rfl)
            replace x4 := (hX.cell 4).trans (show _ = some (.slice Q' x.no.length qc) from rfl)
            replace x5 := (hX.cell 5).trans (show _ = some (.bool x.done) from rfl)
            skip
            have RS := hSs.rds
            have RU := hUs.rds
            clear hSs hUs
            have hzy' : z.yes.length ≤ 1048576 := by omega
            have hzn' : z.no.length ≤ 1048576 := by omega
            obtain ⟨zs, zb, hdt⟩ := dtOut_form z
            have HZ := Lib.hid hdt
            clear hdt
            have yhD := hD.lt
            have yhX := hX.lt
            go_wp2_with fail
            refine (iDecidedText_is z S U' sc uc hzy' hzn' _ HZ.out _ (RS.below (by repeat (first | exact Below.refl _ _ | refine Below.alloc ?_ (by first | exact Nat.le_refl _ | (simp <;> omega)) _ | refine Below.setCell ?_ (by first | exact Nat.le_refl _ | (simp <;> omega)) _))) (RU.below (by repeat (first | exact Below.refl _ _ | refine Below.alloc ?_ (by first | exact Nat.le_refl _ | (simp <;> omega)) _ | refine Below.setCell ?_ (by first | exact Nat.le_refl _ | (simp <;> omega)) _))) (HT.below (by repeat (first | exact Below.refl _ _ | refine Below.alloc ?_ (by first | exact Nat.le_refl _ | (simp <;> omega)) _ | refine Below.setCell ?_ (by first | exact Nat.le_refl _ | (simp <;> omega)) _)))).mono ?_
            rintro e w17 ⟨rfl, hb17⟩
            have hq17 : Below w16.heap.size w16 w17 := bth (by repeat (first | exact Below.refl _ _ | refine Below.alloc ?_ (by first | exact Nat.le_refl _ | (simp <;> omega)) _ | refine Below.setCell ?_ (by first | exact Nat.le_refl _ | (simp <;> omega)) _)) hb17
            replace HB := bth HB hq17
            replace hR := hR.below hq17
            replace HT := HT.below hq17
            replace RS := RS.below hq17
            replace RU := RU.below hq17
            replace hD := hD.below hq17 hD.lt
            replace b0 := (hD.cell 0).trans (show _ = some (.int .i64 d.id) from rfl)
            replace b1 := (hD.cell 1).trans (show _ = some (.int .i64 d.day) from rfl)
            replace b2 := (hD.cell 2).trans (show _ = some (.int .i64 d.need) from rfl)
            replace b3 := (hD.cell 3).trans (show _ = some (.slice Y d.yes.length yc) from rfl)
            replace b4 := (hD.cell 4).trans (show _ = some (.slice N' d.no.length nc) from rfl)
            replace b5 := (hD.cell 5).trans (show _ = some (.bool d.done) from rfl)
            replace hX := hX.below hq17 hX.lt
            replace x0 := (hX.cell 0).trans (show _ = some (.int .i64 x.id) from rfl)
            replace x1 := (hX.cell 1).trans (show _ = some (.int .i64 x.day) from rfl)
            replace x2 := (hX.cell 2).trans (show _ = some (.int .i64 x.need) from rfl)
            replace x3 := (hX.cell 3).trans (show _ = some (.slice P x.yes.length pc) from rfl)
            replace x4 := (hX.cell 4).trans (show _ = some (.slice Q' x.no.length qc) from rfl)
            replace x5 := (hX.cell 5).trans (show _ = some (.bool x.done) from rfl)
            have hZ : Blk w17 (w16.heap.size) 35 #[.int .i64 z.id, .int .i64 z.day, .int .i64 z.need, .slice S z.yes.length sc, .slice U' z.no.length uc, .bool z.done] := Blk.below (by repeat (first | exact Blk.new _ _ _ | exact Blk.new2 _ _ _ _ | exact Blk.new3 _ _ _ _ _ | exact Blk.new4 _ _ _ _ _ _ | refine Blk.alloc ?_ _)) hb17 (by simp <;> omega)
            have z0 := (hZ.cell 0).trans (show _ = some (.int .i64 z.id) from rfl)
            have z1 := (hZ.cell 1).trans (show _ = some (.int .i64 z.day) from rfl)
            have z2 := (hZ.cell 2).trans (show _ = some (.int .i64 z.need) from rfl)
            have z3 := (hZ.cell 3).trans (show _ = some (.slice S z.yes.length sc) from rfl)
            have z4 := (hZ.cell 4).trans (show _ = some (.slice U' z.no.length uc) from rfl)
            have z5 := (hZ.cell 5).trans (show _ = some (.bool z.done) from rfl)
            have yhD := hD.lt
            have yhX := hX.lt
            have yhZ := hZ.lt
            go_wp2_with fail
            refine (sDecidedText_is z S U' sc uc hzy' hzn' _ HZ.out _ (RS.below (by repeat (first | exact Below.refl _ _ | refine Below.alloc ?_ (by first | exact Nat.le_refl _ | (simp <;> omega)) _ | refine Below.setCell ?_ (by first | exact Nat.le_refl _ | (simp <;> omega)) _))) (RU.below (by repeat (first | exact Below.refl _ _ | refine Below.alloc ?_ (by first | exact Nat.le_refl _ | (simp <;> omega)) _ | refine Below.setCell ?_ (by first | exact Nat.le_refl _ | (simp <;> omega)) _)))).mono ?_
            rintro e w18 ⟨rfl, hb18⟩
            have hq18 : Below w17.heap.size w17 w18 := bth (by repeat (first | exact Below.refl _ _ | refine Below.alloc ?_ (by first | exact Nat.le_refl _ | (simp <;> omega)) _ | refine Below.setCell ?_ (by first | exact Nat.le_refl _ | (simp <;> omega)) _)) hb18
            replace HB := bth HB hq18
            replace hR := hR.below hq18
            replace HT := HT.below hq18
            replace RS := RS.below hq18
            replace RU := RU.below hq18
            replace hD := hD.below hq18 hD.lt
            replace b0 := (hD.cell 0).trans (show _ = some (.int .i64 d.id) from rfl)
            replace b1 := (hD.cell 1).trans (show _ = some (.int .i64 d.day) from rfl)
            replace b2 := (hD.cell 2).trans (show _ = some (.int .i64 d.need) from rfl)
            replace b3 := (hD.cell 3).trans (show _ = some (.slice Y d.yes.length yc) from rfl)
            replace b4 := (hD.cell 4).trans (show _ = some (.slice N' d.no.length nc) from rfl)
            replace b5 := (hD.cell 5).trans (show _ = some (.bool d.done) from rfl)
            replace hX := hX.below hq18 hX.lt
            replace x0 := (hX.cell 0).trans (show _ = some (.int .i64 x.id) from rfl)
            replace x1 := (hX.cell 1).trans (show _ = some (.int .i64 x.day) from rfl)
            replace x2 := (hX.cell 2).trans (show _ = some (.int .i64 x.need) from rfl)
            replace x3 := (hX.cell 3).trans (show _ = some (.slice P x.yes.length pc) from rfl)
            replace x4 := (hX.cell 4).trans (show _ = some (.slice Q' x.no.length qc) from rfl)
            replace x5 := (hX.cell 5).trans (show _ = some (.bool x.done) from rfl)
            replace hZ := hZ.below hq18 hZ.lt
            replace z0 := (hZ.cell 0).trans (show _ = some (.int .i64 z.id) from rfl)
            replace z1 := (hZ.cell 1).trans (show _ = some (.int .i64 z.day) from rfl)
            replace z2 := (hZ.cell 2).trans (show _ = some (.int .i64 z.need) from rfl)
            replace z3 := (hZ.cell 3).trans (show _ = some (.slice S z.yes.length sc) from rfl)
            replace z4 := (hZ.cell 4).trans (show _ = some (.slice U' z.no.length uc) from rfl)
            replace z5 := (hZ.cell 5).trans (show _ = some (.bool z.done) from rfl)
            go_wp2
            go_ret
            exact ⟨rfl, (bth HB (by repeat (first | exact Below.refl _ _ | refine Below.alloc ?_ (by first | exact Nat.le_refl _ | (simp <;> omega)) _ | refine Below.setCell ?_ (by first | exact Nat.le_refl _ | (simp <;> omega)) _)))⟩
          · skip
            have yhD := hD.lt
            have yhX := hX.lt
            go_wp2_with fail
            refine (drawDt_is A c cs hcs _ (hR.below (by repeat (first | exact Below.refl _ _ | refine Below.alloc ?_ (by first | exact Nat.le_refl _ | (simp <;> omega)) _ | refine Below.setCell ?_ (by first | exact Nat.le_refl _ | (simp <;> omega)) _)))).mono ?_
            rintro e w16 ⟨z, S, U', sc, uc, rfl, hzy, hzn, hSs, hUs, hb16⟩
            have hq16 : Below w15.heap.size w15 w16 := bth (by repeat (first | exact Below.refl _ _ | refine Below.alloc ?_ (by first | exact Nat.le_refl _ | (simp <;> omega)) _ | refine Below.setCell ?_ (by first | exact Nat.le_refl _ | (simp <;> omega)) _)) hb16
            replace HB := bth HB hq16
            replace hR := hR.below hq16
            replace HT := HT.below hq16
            replace hD := hD.below hq16 hD.lt
            replace b0 := (hD.cell 0).trans (show _ = some (.int .i64 d.id) from rfl)
            replace b1 := (hD.cell 1).trans (show _ = some (.int .i64 d.day) from rfl)
            replace b2 := (hD.cell 2).trans (show _ = some (.int .i64 d.need) from rfl)
            replace b3 := (hD.cell 3).trans (show _ = some (.slice Y d.yes.length yc) from rfl)
            replace b4 := (hD.cell 4).trans (show _ = some (.slice N' d.no.length nc) from rfl)
            replace b5 := (hD.cell 5).trans (show _ = some (.bool d.done) from rfl)
            replace hX := hX.below hq16 hX.lt
            replace x0 := (hX.cell 0).trans (show _ = some (.int .i64 x.id) from rfl)
            replace x1 := (hX.cell 1).trans (show _ = some (.int .i64 x.day) from rfl)
            replace x2 := (hX.cell 2).trans (show _ = some (.int .i64 x.need) from rfl)
            replace x3 := (hX.cell 3).trans (show _ = some (.slice P x.yes.length pc) from rfl)
            replace x4 := (hX.cell 4).trans (show _ = some (.slice Q' x.no.length qc) from rfl)
            replace x5 := (hX.cell 5).trans (show _ = some (.bool x.done) from rfl)
            skip
            have RS := hSs.rds
            have RU := hUs.rds
            clear hSs hUs
            have hzy' : z.yes.length ≤ 1048576 := by omega
            have hzn' : z.no.length ≤ 1048576 := by omega
            obtain ⟨zs, zb, hdt⟩ := dtOut_form z
            have HZ := Lib.hid hdt
            clear hdt
            have yhD := hD.lt
            have yhX := hX.lt
            go_wp2_with fail
            refine (iDecidedText_is z S U' sc uc hzy' hzn' _ HZ.out _ (RS.below (by repeat (first | exact Below.refl _ _ | refine Below.alloc ?_ (by first | exact Nat.le_refl _ | (simp <;> omega)) _ | refine Below.setCell ?_ (by first | exact Nat.le_refl _ | (simp <;> omega)) _))) (RU.below (by repeat (first | exact Below.refl _ _ | refine Below.alloc ?_ (by first | exact Nat.le_refl _ | (simp <;> omega)) _ | refine Below.setCell ?_ (by first | exact Nat.le_refl _ | (simp <;> omega)) _))) (HT.below (by repeat (first | exact Below.refl _ _ | refine Below.alloc ?_ (by first | exact Nat.le_refl _ | (simp <;> omega)) _ | refine Below.setCell ?_ (by first | exact Nat.le_refl _ | (simp <;> omega)) _)))).mono ?_
            rintro e w17 ⟨rfl, hb17⟩
            have hq17 : Below w16.heap.size w16 w17 := bth (by repeat (first | exact Below.refl _ _ | refine Below.alloc ?_ (by first | exact Nat.le_refl _ | (simp <;> omega)) _ | refine Below.setCell ?_ (by first | exact Nat.le_refl _ | (simp <;> omega)) _)) hb17
            replace HB := bth HB hq17
            replace hR := hR.below hq17
            replace HT := HT.below hq17
            replace RS := RS.below hq17
            replace RU := RU.below hq17
            replace hD := hD.below hq17 hD.lt
            replace b0 := (hD.cell 0).trans (show _ = some (.int .i64 d.id) from rfl)
            replace b1 := (hD.cell 1).trans (show _ = some (.int .i64 d.day) from rfl)
            replace b2 := (hD.cell 2).trans (show _ = some (.int .i64 d.need) from rfl)
            replace b3 := (hD.cell 3).trans (show _ = some (.slice Y d.yes.length yc) from rfl)
            replace b4 := (hD.cell 4).trans (show _ = some (.slice N' d.no.length nc) from rfl)
            replace b5 := (hD.cell 5).trans (show _ = some (.bool d.done) from rfl)
            replace hX := hX.below hq17 hX.lt
            replace x0 := (hX.cell 0).trans (show _ = some (.int .i64 x.id) from rfl)
            replace x1 := (hX.cell 1).trans (show _ = some (.int .i64 x.day) from rfl)
            replace x2 := (hX.cell 2).trans (show _ = some (.int .i64 x.need) from rfl)
            replace x3 := (hX.cell 3).trans (show _ = some (.slice P x.yes.length pc) from rfl)
            replace x4 := (hX.cell 4).trans (show _ = some (.slice Q' x.no.length qc) from rfl)
            replace x5 := (hX.cell 5).trans (show _ = some (.bool x.done) from rfl)
            have hZ : Blk w17 (w16.heap.size) 35 #[.int .i64 z.id, .int .i64 z.day, .int .i64 z.need, .slice S z.yes.length sc, .slice U' z.no.length uc, .bool z.done] := Blk.below (by repeat (first | exact Blk.new _ _ _ | exact Blk.new2 _ _ _ _ | exact Blk.new3 _ _ _ _ _ | exact Blk.new4 _ _ _ _ _ _ | refine Blk.alloc ?_ _)) hb17 (by simp <;> omega)
            have z0 := (hZ.cell 0).trans (show _ = some (.int .i64 z.id) from rfl)
            have z1 := (hZ.cell 1).trans (show _ = some (.int .i64 z.day) from rfl)
            have z2 := (hZ.cell 2).trans (show _ = some (.int .i64 z.need) from rfl)
            have z3 := (hZ.cell 3).trans (show _ = some (.slice S z.yes.length sc) from rfl)
            have z4 := (hZ.cell 4).trans (show _ = some (.slice U' z.no.length uc) from rfl)
            have z5 := (hZ.cell 5).trans (show _ = some (.bool z.done) from rfl)
            have yhD := hD.lt
            have yhX := hX.lt
            have yhZ := hZ.lt
            go_wp2_with fail
            refine (sDecidedText_is z S U' sc uc hzy' hzn' _ HZ.out _ (RS.below (by repeat (first | exact Below.refl _ _ | refine Below.alloc ?_ (by first | exact Nat.le_refl _ | (simp <;> omega)) _ | refine Below.setCell ?_ (by first | exact Nat.le_refl _ | (simp <;> omega)) _))) (RU.below (by repeat (first | exact Below.refl _ _ | refine Below.alloc ?_ (by first | exact Nat.le_refl _ | (simp <;> omega)) _ | refine Below.setCell ?_ (by first | exact Nat.le_refl _ | (simp <;> omega)) _)))).mono ?_
            rintro e w18 ⟨rfl, hb18⟩
            have hq18 : Below w17.heap.size w17 w18 := bth (by repeat (first | exact Below.refl _ _ | refine Below.alloc ?_ (by first | exact Nat.le_refl _ | (simp <;> omega)) _ | refine Below.setCell ?_ (by first | exact Nat.le_refl _ | (simp <;> omega)) _)) hb18
            replace HB := bth HB hq18
            replace hR := hR.below hq18
            replace HT := HT.below hq18
            replace RS := RS.below hq18
            replace RU := RU.below hq18
            replace hD := hD.below hq18 hD.lt
            replace b0 := (hD.cell 0).trans (show _ = some (.int .i64 d.id) from rfl)
            replace b1 := (hD.cell 1).trans (show _ = some (.int .i64 d.day) from rfl)
            replace b2 := (hD.cell 2).trans (show _ = some (.int .i64 d.need) from rfl)
            replace b3 := (hD.cell 3).trans (show _ = some (.slice Y d.yes.length yc) from rfl)
            replace b4 := (hD.cell 4).trans (show _ = some (.slice N' d.no.length nc) from rfl)
            replace b5 := (hD.cell 5).trans (show _ = some (.bool d.done) from rfl)
            replace hX := hX.below hq18 hX.lt
            replace x0 := (hX.cell 0).trans (show _ = some (.int .i64 x.id) from rfl)
            replace x1 := (hX.cell 1).trans (show _ = some (.int .i64 x.day) from rfl)
            replace x2 := (hX.cell 2).trans (show _ = some (.int .i64 x.need) from rfl)
            replace x3 := (hX.cell 3).trans (show _ = some (.slice P x.yes.length pc) from rfl)
            replace x4 := (hX.cell 4).trans (show _ = some (.slice Q' x.no.length qc) from rfl)
            replace x5 := (hX.cell 5).trans (show _ = some (.bool x.done) from rfl)
            replace hZ := hZ.below hq18 hZ.lt
            replace z0 := (hZ.cell 0).trans (show _ = some (.int .i64 z.id) from rfl)
            replace z1 := (hZ.cell 1).trans (show _ = some (.int .i64 z.day) from rfl)
            replace z2 := (hZ.cell 2).trans (show _ = some (.int .i64 z.need) from rfl)
            replace z3 := (hZ.cell 3).trans (show _ = some (.slice S z.yes.length sc) from rfl)
            replace z4 := (hZ.cell 4).trans (show _ = some (.slice U' z.no.length uc) from rfl)
            replace z5 := (hZ.cell 5).trans (show _ = some (.bool z.done) from rfl)
            go_wp2
            go_ret
            exact ⟨rfl, (bth HB (by repeat (first | exact Below.refl _ _ | refine Below.alloc ?_ (by first | exact Nat.le_refl _ | (simp <;> omega)) _ | refine Below.setCell ?_ (by first | exact Nat.le_refl _ | (simp <;> omega)) _)))⟩
end Go.Proofs.YthgaddnbgnennaaDoor
