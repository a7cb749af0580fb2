/- The law of ordered reports: the order puts adopted outcomes first, those only by need were rejected with more votes for, and the closest outcome is the closest. -/
import Derived.Test.YtbnncgahepcfnaaDoorRoD
import Derived.Test.YtbnncgahepcfnaaDoorRoP
import Derived.Test.YtbnncgahepcfnaaDoorOoS
import Derived.Test.YtbnncgahepcfnaaDoorOoU
import Derived.Test.YtbnncgahepcfnaaDoorObn2
import Derived.Test.YtbnncgahepcfnaaDoorRes3
import Derived.Test.YtbnncgahepcfnaaDoorTxh
import Derived.Test.YtbnncgahepcfnaaDoorRcU
import Derived.Deep.Cut
namespace Go.Proofs.YtbnncgahepcfnaaDoor
open Go.RowKit Go.G9
theorem iOrderL_is (A : Option Addr) (c : Nat) (xs : List Res) (hn : xs.length ≤ 1048576) (L : List Int) (hL : ooL xs = L) (v : Bool) (hv : reportB xs = v) (w : World) (hR : Rds 5 Res.cells w A xs) :
  Calls Tryd.prog 23 #[.slice A xs.length c] w fun e w' => ∃ A c, e = .returned (.tuple #[.slice A L.length c, .bool v]) ∧ OwnV w.heap.size 3 1 intC w' (.slice A L.length c) L ∧ Below w.heap.size w w' := by
  subst hL; subst hv; exact iOrder_is A c xs hn w hR
theorem sOrderL_is (A : Option Addr) (c : Nat) (xs : List Res) (hn : xs.length ≤ 1048576) (L : List Int) (hL : ooL xs = L) (v : Bool) (hv : reportB xs = v) (w : World) (hR : Rds 5 Res.cells w A xs) :
  Calls Tryd.prog 24 #[.slice A xs.length c] w fun e w' => ∃ A c, e = .returned (.tuple #[.slice A L.length c, .bool v]) ∧ OwnV w.heap.size 3 1 intC w' (.slice A L.length c) L ∧ Below w.heap.size w w' := by
  subst hL; subst hv; exact sOrder_is A c xs hn w hR
theorem iOnlyL_is (A : Option Addr) (c : Nat) (xs : List Res) (hn : xs.length ≤ 1048576) (L : List Int) (hL : obnL xs = L) (v : Bool) (hv : reportB xs = v) (w : World) (hR : Rds 5 Res.cells w A xs) :
  Calls Tryd.prog 27 #[.slice A xs.length c] w fun e w' => ∃ A c, e = .returned (.tuple #[.slice A L.length c, .bool v]) ∧ OwnV w.heap.size 3 1 intC w' (.slice A L.length c) L ∧ Below w.heap.size w w' := by
  subst hL; subst hv; exact onlyByNeed_is A c xs hn w hR
theorem sOnlyL_is (A : Option Addr) (c : Nat) (xs : List Res) (hn : xs.length ≤ 1048576) (L : List Int) (hL : obnL xs = L) (v : Bool) (hv : reportB xs = v) (w : World) (hR : Rds 5 Res.cells w A xs) :
  Calls Tryd.prog 28 #[.slice A xs.length c] w fun e w' => ∃ A c, e = .returned (.tuple #[.slice A L.length c, .bool v]) ∧ OwnV w.heap.size 3 1 intC w' (.slice A L.length c) L ∧ Below w.heap.size w w' := by
  subst hL; subst hv; exact sOnlyByNeed_is A c xs hn w hR
theorem obnL_len (xs : List Res) : (obnL xs).length ≤ xs.length := by
  unfold obnL; split
  · exact obn_len xs _
  · simp
set_option maxHeartbeats 16000000 in
set_option maxRecDepth 100000 in
theorem law_reportOrders (A : Option Addr) (c : Nat) (cs : List UInt8) (w : World) (hR : Rds 1 u8C w A cs) (HT : Tab w) :
  Calls Tryd.prog 6 #[.slice A cs.length c] w fun e w' => e = .returned (.bool true) ∧ Below w.heap.size w w' := by
  cases hv : decide (65536 < cs.length)
  case true =>
    go_enter Tryd.func6, Tryd.ntmps6
    go_wp2_with fail
    refine (rBigR_is A c cs.length _ hv _).mono ?_
    rintro e _ ⟨rfl, rfl⟩
    go_wp2
    go_ret
    exact ⟨rfl, (by repeat (first | exact Below.refl _ _ | refine Below.alloc ?_ (by first | exact Nat.le_refl _ | (simp <;> omega)) _ | refine Below.setCell ?_ (by first | exact Nat.le_refl _ | (simp <;> omega)) _))⟩
  have hcs : cs.length ≤ 1048576 := by have := of_decide_eq_false hv; omega
  go_enter Tryd.func6, Tryd.ntmps6
  go_wp2_with fail
  refine (rBigR_is A c cs.length _ hv _).mono ?_
  rintro e w0 ⟨rfl, h0⟩
  rw [h0]
  clear h0 w0
  go_wp2_with fail
  refine (drawOo_is A c cs hcs _ (hR.below (by repeat (first | exact Below.refl _ _ | refine Below.alloc ?_ (by first | exact Nat.le_refl _ | (simp <;> omega)) _ | refine Below.setCell ?_ (by first | exact Nat.le_refl _ | (simp <;> omega)) _)))).mono ?_
  rintro e w1 ⟨xs, Y, yc, rfl, hl, hO, hb1⟩
  have hq1 : Below w.heap.size w w1 := bth (by repeat (first | exact Below.refl _ _ | refine Below.alloc ?_ (by first | exact Nat.le_refl _ | (simp <;> omega)) _ | refine Below.setCell ?_ (by first | exact Nat.le_refl _ | (simp <;> omega)) _)) hb1
  have HB : Below w.heap.size w w1 := hq1
  replace hR := hR.below hq1
  replace HT := HT.below hq1
  have RX := hO.rds (hf := res_len)
  clear hO
  have hn : xs.length ≤ 1048576 := by omega
  cases hr : reportB xs
  · have EO : Hid (ooL xs = []) := Lib.hid (by simp [ooL, hr])
    have EN : Hid (obnL xs = []) := Lib.hid (by simp [obnL, hr])
    have EC : Hid (clsOut xs = .tuple #[.int .i64 0, .bool false]) := Lib.hid (by simp [clsOut, hr])
    have EG : Hid (gtOut xs = .tuple #[.int .i64 0, .int .i64 0, .bool false]) := Lib.hid (by simp [gtOut, hr])
    have EH : Hid (hlOut xs = .tuple #[.string ⟨#[]⟩, .bool false]) := Lib.hid (by simp [hlOut, hr])
    have HV := Lib.hid hr
    clear hr
    go_wp2_with fail
    refine (iOrderL_is Y yc xs hn [] EO.out false HV.out _ (RX.below (by repeat (first | exact Below.refl _ _ | refine Below.alloc ?_ (by first | exact Nat.le_refl _ | (simp <;> omega)) _ | refine Below.setCell ?_ (by first | exact Nat.le_refl _ | (simp <;> omega)) _)))).mono ?_
    rintro e w2 ⟨A4, c4, rfl, O4, hb2⟩
    have hq2 : Below w1.heap.size w1 w2 := bth (by repeat (first | exact Below.refl _ _ | refine Below.alloc ?_ (by first | exact Nat.le_refl _ | (simp <;> omega)) _ | refine Below.setCell ?_ (by first | exact Nat.le_refl _ | (simp <;> omega)) _)) hb2
    replace HB := bth HB hq2
    replace hR := hR.below hq2
    replace HT := HT.below hq2
    replace RX := RX.below hq2
    have Q4 := O4.rds (hf := intC_len)
    clear O4
    go_wp2_with fail
    refine (sOrderL_is Y yc xs hn [] EO.out false HV.out _ (RX.below (by repeat (first | exact Below.refl _ _ | refine Below.alloc ?_ (by first | exact Nat.le_refl _ | (simp <;> omega)) _ | refine Below.setCell ?_ (by first | exact Nat.le_refl _ | (simp <;> omega)) _)))).mono ?_
    rintro e w3 ⟨A5, c5, rfl, O5, hb3⟩
    have hq3 : Below w2.heap.size w2 w3 := bth (by repeat (first | exact Below.refl _ _ | refine Below.alloc ?_ (by first | exact Nat.le_refl _ | (simp <;> omega)) _ | refine Below.setCell ?_ (by first | exact Nat.le_refl _ | (simp <;> omega)) _)) hb3
    replace HB := bth HB hq3
    replace hR := hR.below hq3
    replace HT := HT.below hq3
    replace RX := RX.below hq3
    replace Q4 := Q4.below hq3
    have Q5 := O5.rds (hf := intC_len)
    clear O5
    go_wp2_with fail
    refine (rInts_is A4 A5 c4 c5 [] (by simp) _ (Q4.below (by repeat (first | exact Below.refl _ _ | refine Below.alloc ?_ (by first | exact Nat.le_refl _ | (simp <;> omega)) _ | refine Below.setCell ?_ (by first | exact Nat.le_refl _ | (simp <;> omega)) _))) (Q5.below (by repeat (first | exact Below.refl _ _ | refine Below.alloc ?_ (by first | exact Nat.le_refl _ | (simp <;> omega)) _ | refine Below.setCell ?_ (by first | exact Nat.le_refl _ | (simp <;> omega)) _)))).mono ?_
    rintro e w4 ⟨rfl, hb4⟩
    have hq4 : Below w3.heap.size w3 w4 := bth (by repeat (first | exact Below.refl _ _ | refine Below.alloc ?_ (by first | exact Nat.le_refl _ | (simp <;> omega)) _ | refine Below.setCell ?_ (by first | exact Nat.le_refl _ | (simp <;> omega)) _)) hb4
    replace HB := bth HB hq4
    replace hR := hR.below hq4
    replace HT := HT.below hq4
    replace RX := RX.below hq4
    replace Q4 := Q4.below hq4
    replace Q5 := Q5.below hq4
    clear Q5
    go_wp2
    go_loopw [8, 9] (fun rj i wr => rj = .bool false ∧ i = .int .i64 0 ∧ Below w4.heap.size w4 wr) (fun _ _ _ => 0)
    case atStart => exact ⟨rfl, rfl, Below.refl _ _⟩
    case round =>
      obtain ⟨rfl, rfl, hb⟩ := hrel
      go_upto_region 17 with fail
      have hq5 : Below w4.heap.size w4 wr := bth (by repeat (first | exact Below.refl _ _ | refine Below.alloc ?_ (by first | exact Nat.le_refl _ | (simp <;> omega)) _ | refine Below.setCell ?_ (by first | exact Nat.le_refl _ | (simp <;> omega)) _)) hb
      replace HB := bth HB hq5
      replace hR := hR.below hq5
      replace HT := HT.below hq5
      replace RX := RX.below hq5
      replace Q4 := Q4.below hq5
      go_wp2_with fail
      refine (iOnlyL_is Y yc xs hn [] EN.out false HV.out _ (RX.below (by repeat (first | exact Below.refl _ _ | refine Below.alloc ?_ (by first | exact Nat.le_refl _ | (simp <;> omega)) _ | refine Below.setCell ?_ (by first | exact Nat.le_refl _ | (simp <;> omega)) _)))).mono ?_
      rintro e w6 ⟨A6, c6, rfl, O6, hb6⟩
      have hq6 : Below wr.heap.size wr w6 := bth (by repeat (first | exact Below.refl _ _ | refine Below.alloc ?_ (by first | exact Nat.le_refl _ | (simp <;> omega)) _ | refine Below.setCell ?_ (by first | exact Nat.le_refl _ | (simp <;> omega)) _)) hb6
      replace HB := bth HB hq6
      replace hR := hR.below hq6
      replace HT := HT.below hq6
      replace RX := RX.below hq6
      replace Q4 := Q4.below hq6
      have Q6 := O6.rds (hf := intC_len)
      clear O6
      go_wp2_with fail
      refine (sOnlyL_is Y yc xs hn [] EN.out false HV.out _ (RX.below (by repeat (first | exact Below.refl _ _ | refine Below.alloc ?_ (by first | exact Nat.le_refl _ | (simp <;> omega)) _ | refine Below.setCell ?_ (by first | exact Nat.le_refl _ | (simp <;> omega)) _)))).mono ?_
      rintro e w7 ⟨A7, c7, rfl, O7, hb7⟩
      have hq7 : Below w6.heap.size w6 w7 := bth (by repeat (first | exact Below.refl _ _ | refine Below.alloc ?_ (by first | exact Nat.le_refl _ | (simp <;> omega)) _ | refine Below.setCell ?_ (by first | exact Nat.le_refl _ | (simp <;> omega)) _)) hb7
      replace HB := bth HB hq7
      replace hR := hR.below hq7
      replace HT := HT.below hq7
      replace RX := RX.below hq7
      replace Q4 := Q4.below hq7
      replace Q6 := Q6.below hq7
      have Q7 := O7.rds (hf := intC_len)
      clear O7
      go_wp2_with fail
      refine (rInts_is A6 A7 c6 c7 [] (by simp) _ (Q6.below (by repeat (first | exact Below.refl _ _ | refine Below.alloc ?_ (by first | exact Nat.le_refl _ | (simp <;> omega)) _ | refine Below.setCell ?_ (by first | exact Nat.le_refl _ | (simp <;> omega)) _))) (Q7.below (by repeat (first | exact Below.refl _ _ | refine Below.alloc ?_ (by first | exact Nat.le_refl _ | (simp <;> omega)) _ | refine Below.setCell ?_ (by first | exact Nat.le_refl _ | (simp <;> omega)) _)))).mono ?_
      rintro e w8 ⟨rfl, hb8⟩
      have hq8 : Below w7.heap.size w7 w8 := bth (by repeat (first | exact Below.refl _ _ | refine Below.alloc ?_ (by first | exact Nat.le_refl _ | (simp <;> omega)) _ | refine Below.setCell ?_ (by first | exact Nat.le_refl _ | (simp <;> omega)) _)) hb8
      replace HB := bth HB hq8
      replace hR := hR.below hq8
      replace HT := HT.below hq8
      replace RX := RX.below hq8
      replace Q4 := Q4.below hq8
      replace Q6 := Q6.below hq8
      replace Q7 := Q7.below hq8
      clear Q6 Q7
      go_wp2
      go_loopw [17] (fun i wr => i = .int .i64 0 ∧ Below w8.heap.size w8 wr) (fun _ _ => 0)
      case atStart => exact ⟨rfl, Below.refl _ _⟩
      case round =>
        obtain ⟨rfl, hb⟩ := hrel
        go_upto_region 27 with fail
        have hq9 : Below w8.heap.size w8 wr := bth (by repeat (first | exact Below.refl _ _ | refine Below.alloc ?_ (by first | exact Nat.le_refl _ | (simp <;> omega)) _ | refine Below.setCell ?_ (by first | exact Nat.le_refl _ | (simp <;> omega)) _)) hb
        replace HB := bth HB hq9
        replace hR := hR.below hq9
        replace HT := HT.below hq9
        replace RX := RX.below hq9
        replace Q4 := Q4.below hq9
        go_wp2_with fail
        refine (closestOutcome_is Y yc xs hn _ EC.out _ (RX.below (by repeat (first | exact Below.refl _ _ | refine Below.alloc ?_ (by first | exact Nat.le_refl _ | (simp <;> omega)) _ | refine Below.setCell ?_ (by first | exact Nat.le_refl _ | (simp <;> omega)) _)))).mono ?_
        rintro e w10 ⟨rfl, hb10⟩
        have hq10 : Below wr.heap.size wr w10 := bth (by repeat (first | exact Below.refl _ _ | refine Below.alloc ?_ (by first | exact Nat.le_refl _ | (simp <;> omega)) _ | refine Below.setCell ?_ (by first | exact Nat.le_refl _ | (simp <;> omega)) _)) hb10
        replace HB := bth HB hq10
        replace hR := hR.below hq10
        replace HT := HT.below hq10
        replace RX := RX.below hq10
        replace Q4 := Q4.below hq10
        go_wp2_with fail
        refine (sClosestOutcome_is Y yc xs hn _ EC.out _ (RX.below (by repeat (first | exact Below.refl _ _ | refine Below.alloc ?_ (by first | exact Nat.le_refl _ | (simp <;> omega)) _ | refine Below.setCell ?_ (by first | exact Nat.le_refl _ | (simp <;> omega)) _)))).mono ?_
        rintro e w11 ⟨rfl, hb11⟩
        have hq11 : Below w10.heap.size w10 w11 := bth (by repeat (first | exact Below.refl _ _ | refine Below.alloc ?_ (by first | exact Nat.le_refl _ | (simp <;> omega)) _ | refine Below.setCell ?_ (by first | exact Nat.le_refl _ | (simp <;> omega)) _)) hb11
        replace HB := bth HB hq11
        replace hR := hR.below hq11
        replace HT := HT.below hq11
        replace RX := RX.below hq11
        replace Q4 := Q4.below hq11
        go_wp2
        go_loopw [23] (fun i wr => i = .int .i64 0 ∧ Below w11.heap.size w11 wr) (fun _ _ => 0)
        case atStart => exact ⟨rfl, Below.refl _ _⟩
        case round =>
          obtain ⟨rfl, hb⟩ := hrel
          by_cases hlt : (0 : Int) < (xs.length : Int)
          all_goals skip
          · go_upto_region 37 with fail
            have hq12 : Below w11.heap.size w11 wr := bth (by repeat (first | exact Below.refl _ _ | refine Below.alloc ?_ (by first | exact Nat.le_refl _ | (simp <;> omega)) _ | refine Below.setCell ?_ (by first | exact Nat.le_refl _ | (simp <;> omega)) _)) hb
            replace HB := bth HB hq12
            replace hR := hR.below hq12
            replace HT := HT.below hq12
            replace RX := RX.below hq12
            replace Q4 := Q4.below hq12
            go_wp2_with fail
            refine (greatestTurnout_is Y yc xs hn _ EG.out _ (RX.below (by repeat (first | exact Below.refl _ _ | refine Below.alloc ?_ (by first | exact Nat.le_refl _ | (simp <;> omega)) _ | refine Below.setCell ?_ (by first | exact Nat.le_refl _ | (simp <;> omega)) _)))).mono ?_
            rintro e w13 ⟨rfl, hb13⟩
            have hq13 : Below wr.heap.size wr w13 := bth (by repeat (first | exact Below.refl _ _ | refine Below.alloc ?_ (by first | exact Nat.le_refl _ | (simp <;> omega)) _ | refine Below.setCell ?_ (by first | exact Nat.le_refl _ | (simp <;> omega)) _)) hb13
            replace HB := bth HB hq13
            replace hR := hR.below hq13
            replace HT := HT.below hq13
            replace RX := RX.below hq13
            replace Q4 := Q4.below hq13
            go_wp2_with fail
            refine (sGreatestTurnout_is Y yc xs hn _ EG.out _ (RX.below (by repeat (first | exact Below.refl _ _ | refine Below.alloc ?_ (by first | exact Nat.le_refl _ | (simp <;> omega)) _ | refine Below.setCell ?_ (by first | exact Nat.le_refl _ | (simp <;> omega)) _)))).mono ?_
            rintro e w14 ⟨rfl, hb14⟩
            have hq14 : Below w13.heap.size w13 w14 := bth (by repeat (first | exact Below.refl _ _ | refine Below.alloc ?_ (by first | exact Nat.le_refl _ | (simp <;> omega)) _ | refine Below.setCell ?_ (by first | exact Nat.le_refl _ | (simp <;> omega)) _)) hb14
            replace HB := bth HB hq14
            replace hR := hR.below hq14
            replace HT := HT.below hq14
            replace RX := RX.below hq14
            replace Q4 := Q4.below hq14
            go_wp2_with fail
            refine (iHeadline_is Y yc xs hn _ EH.out _ (RX.below (by repeat (first | exact Below.refl _ _ | refine Below.alloc ?_ (by first | exact Nat.le_refl _ | (simp <;> omega)) _ | refine Below.setCell ?_ (by first | exact Nat.le_refl _ | (simp <;> omega)) _))) (HT.below (by repeat (first | exact Below.refl _ _ | refine Below.alloc ?_ (by first | exact Nat.le_refl _ | (simp <;> omega)) _ | refine Below.setCell ?_ (by first | exact Nat.le_refl _ | (simp <;> omega)) _)))).mono ?_
            rintro e w15 ⟨rfl, hb15⟩
            have hq15 : Below w14.heap.size w14 w15 := bth (by repeat (first | exact Below.refl _ _ | refine Below.alloc ?_ (by first | exact Nat.le_refl _ | (simp <;> omega)) _ | refine Below.setCell ?_ (by first | exact Nat.le_refl _ | (simp <;> omega)) _)) hb15
            replace HB := bth HB hq15
            replace hR := hR.below hq15
            replace HT := HT.below hq15
            replace RX := RX.below hq15
            replace Q4 := Q4.below hq15
            go_wp2_with fail
            refine (sHeadline_is Y yc xs hn _ EH.out _ (RX.below (by repeat (first | exact Below.refl _ _ | refine Below.alloc ?_ (by first | exact Nat.le_refl _ | (simp <;> omega)) _ | refine Below.setCell ?_ (by first | exact Nat.le_refl _ | (simp <;> omega)) _)))).mono ?_
            rintro e w16 ⟨rfl, hb16⟩
            have hq16 : Below w15.heap.size w15 w16 := bth (by repeat (first | exact Below.refl _ _ | refine Below.alloc ?_ (by first | exact Nat.le_refl _ | (simp <;> omega)) _ | refine Below.setCell ?_ (by first | exact Nat.le_refl _ | (simp <;> omega)) _)) hb16
            replace HB := bth HB hq16
            replace hR := hR.below hq16
            replace HT := HT.below hq16
            replace RX := RX.below hq16
            replace Q4 := Q4.below hq16
            go_wp2
            go_ret
            exact ⟨rfl, (bth HB (by repeat (first | exact Below.refl _ _ | refine Below.alloc ?_ (by first | exact Nat.le_refl _ | (simp <;> omega)) _ | refine Below.setCell ?_ (by first | exact Nat.le_refl _ | (simp <;> omega)) _)))⟩
          · go_upto_region 37 with fail
            have hq12 : Below w11.heap.size w11 wr := bth (by repeat (first | exact Below.refl _ _ | refine Below.alloc ?_ (by first | exact Nat.le_refl _ | (simp <;> omega)) _ | refine Below.setCell ?_ (by first | exact Nat.le_refl _ | (simp <;> omega)) _)) hb
            replace HB := bth HB hq12
            replace hR := hR.below hq12
            replace HT := HT.below hq12
            replace RX := RX.below hq12
            replace Q4 := Q4.below hq12
            go_wp2_with fail
            refine (greatestTurnout_is Y yc xs hn _ EG.out _ (RX.below (by repeat (first | exact Below.refl _ _ | refine Below.alloc ?_ (by first | exact Nat.le_refl _ | (simp <;> omega)) _ | refine Below.setCell ?_ (by first | exact Nat.le_refl _ | (simp <;> omega)) _)))).mono ?_
            rintro e w13 ⟨rfl, hb13⟩
            have hq13 : Below wr.heap.size wr w13 := bth (by repeat (first | exact Below.refl _ _ | refine Below.alloc ?_ (by first | exact Nat.le_refl _ | (simp <;> omega)) _ | refine Below.setCell ?_ (by first | exact Nat.le_refl _ | (simp <;> omega)) _)) hb13
            replace HB := bth HB hq13
            replace hR := hR.below hq13
            replace HT := HT.below hq13
            replace RX := RX.below hq13
            replace Q4 := Q4.below hq13
            go_wp2_with fail
            refine (sGreatestTurnout_is Y yc xs hn _ EG.out _ (RX.below (by repeat (first | exact Below.refl _ _ | refine Below.alloc ?_ (by first | exact Nat.le_refl _ | (simp <;> omega)) _ | refine Below.setCell ?_ (by first | exact Nat.le_refl _ | (simp <;> omega)) _)))).mono ?_
            rintro e w14 ⟨rfl, hb14⟩
            have hq14 : Below w13.heap.size w13 w14 := bth (by repeat (first | exact Below.refl _ _ | refine Below.alloc ?_ (by first | exact Nat.le_refl _ | (simp <;> omega)) _ | refine Below.setCell ?_ (by first | exact Nat.le_refl _ | (simp <;> omega)) _)) hb14
            replace HB := bth HB hq14
            replace hR := hR.below hq14
            replace HT := HT.below hq14
            replace RX := RX.below hq14
            replace Q4 := Q4.below hq14
            go_wp2_with fail
            refine (iHeadline_is Y yc xs hn _ EH.out _ (RX.below (by repeat (first | exact Below.refl _ _ | refine Below.alloc ?_ (by first | exact Nat.le_refl _ | (simp <;> omega)) _ | refine Below.setCell ?_ (by first | exact Nat.le_refl _ | (simp <;> omega)) _))) (HT.below (by repeat (first | exact Below.refl _ _ | refine Below.alloc ?_ (by first | exact Nat.le_refl _ | (simp <;> omega)) _ | refine Below.setCell ?_ (by first | exact Nat.le_refl _ | (simp <;> omega)) _)))).mono ?_
            rintro e w15 ⟨rfl, hb15⟩
            have hq15 : Below w14.heap.size w14 w15 := bth (by repeat (first | exact Below.refl _ _ | refine Below.alloc ?_ (by first | exact Nat.le_refl _ | (simp <;> omega)) _ | refine Below.setCell ?_ (by first | exact Nat.le_refl _ | (simp <;> omega)) _)) hb15
            replace HB := bth HB hq15
            replace hR := hR.below hq15
            replace HT := HT.below hq15
            replace RX := RX.below hq15
            replace Q4 := Q4.below hq15
            go_wp2_with fail
            refine (sHeadline_is Y yc xs hn _ EH.out _ (RX.below (by repeat (first | exact Below.refl _ _ | refine Below.alloc ?_ (by first | exact Nat.le_refl _ | (simp <;> omega)) _ | refine Below.setCell ?_ (by first | exact Nat.le_refl _ | (simp <;> omega)) _)))).mono ?_
            rintro e w16 ⟨rfl, hb16⟩
            have hq16 : Below w15.heap.size w15 w16 := bth (by repeat (first | exact Below.refl _ _ | refine Below.alloc ?_ (by first | exact Nat.le_refl _ | (simp <;> omega)) _ | refine Below.setCell ?_ (by first | exact Nat.le_refl _ | (simp <;> omega)) _)) hb16
            replace HB := bth HB hq16
            replace hR := hR.below hq16
            replace HT := HT.below hq16
            replace RX := RX.below hq16
            replace Q4 := Q4.below hq16
            go_wp2
            go_ret
            exact ⟨rfl, (bth HB (by repeat (first | exact Below.refl _ _ | refine Below.alloc ?_ (by first | exact Nat.le_refl _ | (simp <;> omega)) _ | refine Below.setCell ?_ (by first | exact Nat.le_refl _ | (simp <;> omega)) _)))⟩
  · have EO : Hid (∃ L, ooL xs = L) := Lib.hid ⟨_, rfl⟩
    obtain ⟨L, hL⟩ := EO.out
    obtain ⟨M, hM⟩ : ∃ M, obnL xs = M := ⟨_, rfl⟩
    have hLl : L.length = xs.length := by rw [← hL]; exact ooL_length hr
    have hMl : M.length ≤ xs.length := by rw [← hM]; exact obnL_len xs
    have hLn : L.length ≤ 1048576 := by omega
    have hMn : M.length ≤ 1048576 := by omega
    have HLl := Lib.hid hLl
    clear hLl hMl
    clear EO
    have EO := Lib.hid hL
    have EN := Lib.hid hM
    clear hL hM
    obtain ⟨t, b, g1, g2, EC0, EG0, EB⟩ : ∃ (t : Bool) (b g1 g2 : Int), clsOut xs = .tuple #[.int .i64 b, .bool t] ∧ gtOut xs = .tuple #[.int .i64 g1, .int .i64 g2, .bool t] ∧ (t = true → b = (cls xs xs.length : Int) ∧ 0 < xs.length) := by
      cases he : xs.isEmpty
      · exact ⟨true, (cls xs xs.length : Int), (gtr xs xs.length).1, (gtr xs xs.length).2, by simp [clsOut, hr, he], by simp [gtOut, hr, he], fun _ => ⟨rfl, by cases xs with | nil => simp at he | cons a b => simp⟩⟩
      · exact ⟨false, 0, 0, 0, by simp [clsOut, hr, he], by simp [gtOut, hr, he], fun h => nomatch h⟩
    obtain ⟨hs, EH0⟩ : ∃ s, hlOut xs = .tuple #[.string s, .bool true] := ⟨headS xs.length (adTo xs xs.length), by simp [hlOut, hr]⟩
    have EC := Lib.hid EC0; have EG := Lib.hid EG0; have EH := Lib.hid EH0; have HB0 := Lib.hid EB
    clear EC0 EG0 EH0 EB
    have HV := Lib.hid hr
    clear hr
    go_wp2_with fail
    refine (iOrderL_is Y yc xs hn L EO.out true HV.out _ (RX.below (by repeat (first | exact Below.refl _ _ | refine Below.alloc ?_ (by first | exact Nat.le_refl _ | (simp <;> omega)) _ | refine Below.setCell ?_ (by first | exact Nat.le_refl _ | (simp <;> omega)) _)))).mono ?_
    rintro e w2 ⟨A4, c4, rfl, O4, hb2⟩
    have hq2 : Below w1.heap.size w1 w2 := bth (by repeat (first | exact Below.refl _ _ | refine Below.alloc ?_ (by first | exact Nat.le_refl _ | (simp <;> omega)) _ | refine Below.setCell ?_ (by first | exact Nat.le_refl _ | (simp <;> omega)) _)) hb2
    replace HB := bth HB hq2
    replace hR := hR.below hq2
    replace HT := HT.below hq2
    replace RX := RX.below hq2
    have Q4 := O4.rds (hf := intC_len)
    clear O4
    go_wp2_with fail
    refine (sOrderL_is Y yc xs hn L EO.out true HV.out _ (RX.below (by repeat (first | exact Below.refl _ _ | refine Below.alloc ?_ (by first | exact Nat.le_refl _ | (simp <;> omega)) _ | refine Below.setCell ?_ (by first | exact Nat.le_refl _ | (simp <;> omega)) _)))).mono ?_
    rintro e w3 ⟨A5, c5, rfl, O5, hb3⟩
    have hq3 : Below w2.heap.size w2 w3 := bth (by repeat (first | exact Below.refl _ _ | refine Below.alloc ?_ (by first | exact Nat.le_refl _ | (simp <;> omega)) _ | refine Below.setCell ?_ (by first | exact Nat.le_refl _ | (simp <;> omega)) _)) hb3
    replace HB := bth HB hq3
    replace hR := hR.below hq3
    replace HT := HT.below hq3
    replace RX := RX.below hq3
    replace Q4 := Q4.below hq3
    have Q5 := O5.rds (hf := intC_len)
    clear O5
    go_wp2_with fail
    refine (rInts_is A4 A5 c4 c5 L hLn _ (Q4.below (by repeat (first | exact Below.refl _ _ | refine Below.alloc ?_ (by first | exact Nat.le_refl _ | (simp <;> omega)) _ | refine Below.setCell ?_ (by first | exact Nat.le_refl _ | (simp <;> omega)) _))) (Q5.below (by repeat (first | exact Below.refl _ _ | refine Below.alloc ?_ (by first | exact Nat.le_refl _ | (simp <;> omega)) _ | refine Below.setCell ?_ (by first | exact Nat.le_refl _ | (simp <;> omega)) _)))).mono ?_
    rintro e w4 ⟨rfl, hb4⟩
    have hq4 : Below w3.heap.size w3 w4 := bth (by repeat (first | exact Below.refl _ _ | refine Below.alloc ?_ (by first | exact Nat.le_refl _ | (simp <;> omega)) _ | refine Below.setCell ?_ (by first | exact Nat.le_refl _ | (simp <;> omega)) _)) hb4
    replace HB := bth HB hq4
    replace hR := hR.below hq4
    replace HT := HT.below hq4
    replace RX := RX.below hq4
    replace Q4 := Q4.below hq4
    replace Q5 := Q5.below hq4
    clear Q5
    have hll2 : ((L.length : Int) != (xs.length : Int)) = false := by rw [HLl.out]; simp
    go_wp2
    clear hll2
    go_loopw [8, 9] (fun rj i wr => ∃ (k : Nat) (r : Bool), k ≤ L.length ∧ rj = .bool r ∧ i = .int .i64 k ∧ (r = true → ∃ j z, j < k ∧ L[j]? = some z ∧ adoAt xs z = false) ∧ Below w4.heap.size w4 wr) (fun _ i _ => L.length - (intOf i).toNat)
    case atStart => exact ⟨0, false, Nat.zero_le _, rfl, rfl, (fun h => nomatch h), Below.refl _ _⟩
    case round =>
      obtain ⟨k, rj, hk, rfl, rfl, hrj, hb⟩ := hrel
      have HRJ := Lib.hid hrj; clear hrj
      by_cases hlt : k < L.length
      · obtain ⟨b1, o1, z, rfl, hbl1, hz, hcz⟩ := Q4.at_ hb hlt
        obtain ⟨hrep, i, r, rfl, hx⟩ := ooL_at (xs := xs) (k := k) (by rw [EO.out]; exact hz)
        have hi : i < xs.length := (List.getElem?_eq_some_iff.1 hx).1
        obtain ⟨b2, o2, r', rfl, hbl2, hx', hcx⟩ := RX.at_ hb hi
        obtain rfl : r = r' := Option.some.inj (hx.symm.trans hx')
        have hrb := reportB_at hrep hx
        have hza : adoAt xs (i : Int) = r.ado := by simp [adoAt, hx]
        obtain ⟨m, nd, y, n, a, s⟩ := r
        have hbd := resB_bd hrb
        have hnd : inB nd 1 3 = true := by simp [inB]; omega
        have htl : tallyB y n a = true := by simp [tallyB, inB]; omega
        have f0 := hcz 0 _ rfl (Kin.self _)
        have g0 := hcx 0 _ rfl (Kin.self _)
        have g1 := hcx 1 _ rfl (Kin.self _)
        have g2 := hcx 2 _ rfl (Kin.self _)
        have g3 := hcx 3 _ rfl (Kin.self _)
        have g4 := hcx 4 _ rfl (Kin.self _)
        simp only [Nat.mul_one, Nat.add_zero, Kin.self] at f0 g0 g1 g2 g3 g4
        have HZ := Lib.hid hz; have HX := Lib.hid hx; have HRB := Lib.hid hrb
        clear hz hcz hx hx' hcx hrb hrep
        cases ha : (⟨m, nd, y, n, a, s⟩ : Res).ado
        · have ha' : Hid (adoB nd y n = false) := Lib.hid ha
          have HA : Hid (adoAt xs (i : Int) = false) := Lib.hid (hza.trans ha)
          clear ha hza
          go_wp2_with fail
          refine (isAdoptedW_is nd y n a hnd htl (by omega) false ha'.out _).mono ?_
          rintro e w9 ⟨rfl, hb9⟩
          cases rj
          all_goals
            go_wp2
            go_roundw
            case rel => exact ⟨k + 1, true, by omega, rfl, by go_num, fun _ => ⟨k, _, by omega, HZ.out, HA.out⟩, bth (bth hb (bl1 _ _)) hb9⟩
            case measure => simp [intOf]; omega
        · have ha' : Hid (adoB nd y n = true) := Lib.hid ha
          have hrf : rj = false := by
            cases rj with
            | false => rfl
            | true =>
              obtain ⟨j, z', hj, hz1, hz2⟩ := HRJ.out rfl
              have := ooL_adF (xs := xs) (j := j) (k := k) (by rw [EO.out]; exact hz1) (by rw [EO.out]; exact HZ.out) hj (hza.trans ha)
              rw [hz2] at this; exact nomatch this
          subst hrf
          clear ha hza
          go_wp2_with fail
          refine (isAdoptedW_is nd y n a hnd htl (by omega) true ha'.out _).mono ?_
          rintro e w9 ⟨rfl, hb9⟩
          go_wp2
          go_roundw
          case rel => exact ⟨k + 1, false, by omega, rfl, by go_num, (fun h => nomatch h), bth (bth hb (bl1 _ _)) hb9⟩
          case measure => simp [intOf]; omega
      · go_upto_region 17 with fail
        clear HRJ
        have hq5 : Below w4.heap.size w4 wr := bth (by repeat (first | exact Below.refl _ _ | refine Below.alloc ?_ (by first | exact Nat.le_refl _ | (simp <;> omega)) _ | refine Below.setCell ?_ (by first | exact Nat.le_refl _ | (simp <;> omega)) _)) hb
        replace HB := bth HB hq5
        replace hR := hR.below hq5
        replace HT := HT.below hq5
        replace RX := RX.below hq5
        replace Q4 := Q4.below hq5
        clear Q4
        go_wp2_with fail
        refine (iOnlyL_is Y yc xs hn M EN.out true HV.out _ (RX.below (by repeat (first | exact Below.refl _ _ | refine Below.alloc ?_ (by first | exact Nat.le_refl _ | (simp <;> omega)) _ | refine Below.setCell ?_ (by first | exact Nat.le_refl _ | (simp <;> omega)) _)))).mono ?_
        rintro e w6 ⟨A6, c6, rfl, O6, hb6⟩
        have hq6 : Below wr.heap.size wr w6 := bth (by repeat (first | exact Below.refl _ _ | refine Below.alloc ?_ (by first | exact Nat.le_refl _ | (simp <;> omega)) _ | refine Below.setCell ?_ (by first | exact Nat.le_refl _ | (simp <;> omega)) _)) hb6
        replace HB := bth HB hq6
        replace hR := hR.below hq6
        replace HT := HT.below hq6
        replace RX := RX.below hq6
        have Q6 := O6.rds (hf := intC_len)
        clear O6
        go_wp2_with fail
        refine (sOnlyL_is Y yc xs hn M EN.out true HV.out _ (RX.below (by repeat (first | exact Below.refl _ _ | refine Below.alloc ?_ (by first | exact Nat.le_refl _ | (simp <;> omega)) _ | refine Below.setCell ?_ (by first | exact Nat.le_refl _ | (simp <;> omega)) _)))).mono ?_
        rintro e w7 ⟨A7, c7, rfl, O7, hb7⟩
        have hq7 : Below w6.heap.size w6 w7 := bth (by repeat (first | exact Below.refl _ _ | refine Below.alloc ?_ (by first | exact Nat.le_refl _ | (simp <;> omega)) _ | refine Below.setCell ?_ (by first | exact Nat.le_refl _ | (simp <;> omega)) _)) hb7
        replace HB := bth HB hq7
        replace hR := hR.below hq7
        replace HT := HT.below hq7
        replace RX := RX.below hq7
        replace Q6 := Q6.below hq7
        have Q7 := O7.rds (hf := intC_len)
        clear O7
        go_wp2_with fail
        refine (rInts_is A6 A7 c6 c7 M hMn _ (Q6.below (by repeat (first | exact Below.refl _ _ | refine Below.alloc ?_ (by first | exact Nat.le_refl _ | (simp <;> omega)) _ | refine Below.setCell ?_ (by first | exact Nat.le_refl _ | (simp <;> omega)) _))) (Q7.below (by repeat (first | exact Below.refl _ _ | refine Below.alloc ?_ (by first | exact Nat.le_refl _ | (simp <;> omega)) _ | refine Below.setCell ?_ (by first | exact Nat.le_refl _ | (simp <;> omega)) _)))).mono ?_
        rintro e w8 ⟨rfl, hb8⟩
        have hq8 : Below w7.heap.size w7 w8 := bth (by repeat (first | exact Below.refl _ _ | refine Below.alloc ?_ (by first | exact Nat.le_refl _ | (simp <;> omega)) _ | refine Below.setCell ?_ (by first | exact Nat.le_refl _ | (simp <;> omega)) _)) hb8
        replace HB := bth HB hq8
        replace hR := hR.below hq8
        replace HT := HT.below hq8
        replace RX := RX.below hq8
        replace Q6 := Q6.below hq8
        replace Q7 := Q7.below hq8
        clear Q7
        go_wp2
        go_loopw [17] (fun i wr => ∃ k : Nat, k ≤ M.length ∧ i = .int .i64 k ∧ Below w8.heap.size w8 wr) (fun i _ => M.length - (intOf i).toNat)
        case atStart => exact ⟨0, Nat.zero_le _, rfl, Below.refl _ _⟩
        case round =>
          obtain ⟨k, hk, rfl, hb⟩ := hrel
          by_cases hlt : k < M.length
          · obtain ⟨b1, o1, z, rfl, hbl1, hz, hcz⟩ := Q6.at_ hb hlt
            obtain ⟨i, r, rfl, hx, hyn, hnd⟩ := obnL_at (xs := xs) (k := k) (by rw [EN.out]; exact hz)
            have hi : i < xs.length := (List.getElem?_eq_some_iff.1 hx).1
            obtain ⟨b2, o2, r', rfl, hbl2, hx', hcx⟩ := RX.at_ hb hi
            obtain rfl : r = r' := Option.some.inj (hx.symm.trans hx')
            obtain ⟨m, nd, y, n, a, s⟩ := r
            have hyn' : ¬ (y ≤ n) := by have : n < y := hyn; omega
            have hnd' : (nd == 1) = false := beq_eq_false_iff_ne.2 hnd
            have f0 := hcz 0 _ rfl (Kin.self _)
            have g0 := hcx 0 _ rfl (Kin.self _)
            have g1 := hcx 1 _ rfl (Kin.self _)
            have g2 := hcx 2 _ rfl (Kin.self _)
            have g3 := hcx 3 _ rfl (Kin.self _)
            have g4 := hcx 4 _ rfl (Kin.self _)
            simp only [Nat.mul_one, Nat.add_zero, Kin.self] at f0 g0 g1 g2 g3 g4
            clear hz hcz hx hx' hcx hyn hnd
            go_wp2
            go_roundw
            case rel => exact ⟨k + 1, by omega, by go_num, bth hb (bl1 _ _)⟩
            case measure => simp [intOf]; omega
          · go_upto_region 27 with fail
            have hq9 : Below w8.heap.size w8 wr := bth (by repeat (first | exact Below.refl _ _ | refine Below.alloc ?_ (by first | exact Nat.le_refl _ | (simp <;> omega)) _ | refine Below.setCell ?_ (by first | exact Nat.le_refl _ | (simp <;> omega)) _)) hb
            replace HB := bth HB hq9
            replace hR := hR.below hq9
            replace HT := HT.below hq9
            replace RX := RX.below hq9
            replace Q6 := Q6.below hq9
            clear Q6
            go_wp2_with fail
            refine (closestOutcome_is Y yc xs hn _ EC.out _ (RX.below (by repeat (first | exact Below.refl _ _ | refine Below.alloc ?_ (by first | exact Nat.le_refl _ | (simp <;> omega)) _ | refine Below.setCell ?_ (by first | exact Nat.le_refl _ | (simp <;> omega)) _)))).mono ?_
            rintro e w10 ⟨rfl, hb10⟩
            have hq10 : Below wr.heap.size wr w10 := bth (by repeat (first | exact Below.refl _ _ | refine Below.alloc ?_ (by first | exact Nat.le_refl _ | (simp <;> omega)) _ | refine Below.setCell ?_ (by first | exact Nat.le_refl _ | (simp <;> omega)) _)) hb10
            replace HB := bth HB hq10
            replace hR := hR.below hq10
            replace HT := HT.below hq10
            replace RX := RX.below hq10
            go_wp2_with fail
            refine (sClosestOutcome_is Y yc xs hn _ EC.out _ (RX.below (by repeat (first | exact Below.refl _ _ | refine Below.alloc ?_ (by first | exact Nat.le_refl _ | (simp <;> omega)) _ | refine Below.setCell ?_ (by first | exact Nat.le_refl _ | (simp <;> omega)) _)))).mono ?_
            rintro e w11 ⟨rfl, hb11⟩
            have hq11 : Below w10.heap.size w10 w11 := bth (by repeat (first | exact Below.refl _ _ | refine Below.alloc ?_ (by first | exact Nat.le_refl _ | (simp <;> omega)) _ | refine Below.setCell ?_ (by first | exact Nat.le_refl _ | (simp <;> omega)) _)) hb11
            replace HB := bth HB hq11
            replace hR := hR.below hq11
            replace HT := HT.below hq11
            replace RX := RX.below hq11
            go_wp2
            go_loopw [23] (fun i wr => ∃ k : Nat, k ≤ xs.length ∧ i = .int .i64 k ∧ Below w11.heap.size w11 wr) (fun i _ => xs.length - (intOf i).toNat)
            case atStart => exact ⟨0, Nat.zero_le _, rfl, Below.refl _ _⟩
            case round =>
              obtain ⟨k, hk, rfl, hb⟩ := hrel
              cases t
              · by_cases hlt : k < xs.length
                all_goals skip
                · go_upto_region 37 with fail
                  have hq12 : Below w11.heap.size w11 wr := bth (by repeat (first | exact Below.refl _ _ | refine Below.alloc ?_ (by first | exact Nat.le_refl _ | (simp <;> omega)) _ | refine Below.setCell ?_ (by first | exact Nat.le_refl _ | (simp <;> omega)) _)) hb
                  replace HB := bth HB hq12
                  replace hR := hR.below hq12
                  replace HT := HT.below hq12
                  replace RX := RX.below hq12
                  go_wp2_with fail
                  refine (greatestTurnout_is Y yc xs hn _ EG.out _ (RX.below (by repeat (first | exact Below.refl _ _ | refine Below.alloc ?_ (by first | exact Nat.le_refl _ | (simp <;> omega)) _ | refine Below.setCell ?_ (by first | exact Nat.le_refl _ | (simp <;> omega)) _)))).mono ?_
                  rintro e w13 ⟨rfl, hb13⟩
                  have hq13 : Below wr.heap.size wr w13 := bth (by repeat (first | exact Below.refl _ _ | refine Below.alloc ?_ (by first | exact Nat.le_refl _ | (simp <;> omega)) _ | refine Below.setCell ?_ (by first | exact Nat.le_refl _ | (simp <;> omega)) _)) hb13
                  replace HB := bth HB hq13
                  replace hR := hR.below hq13
                  replace HT := HT.below hq13
                  replace RX := RX.below hq13
                  go_wp2_with fail
                  refine (sGreatestTurnout_is Y yc xs hn _ EG.out _ (RX.below (by repeat (first | exact Below.refl _ _ | refine Below.alloc ?_ (by first | exact Nat.le_refl _ | (simp <;> omega)) _ | refine Below.setCell ?_ (by first | exact Nat.le_refl _ | (simp <;> omega)) _)))).mono ?_
                  rintro e w14 ⟨rfl, hb14⟩
                  have hq14 : Below w13.heap.size w13 w14 := bth (by repeat (first | exact Below.refl _ _ | refine Below.alloc ?_ (by first | exact Nat.le_refl _ | (simp <;> omega)) _ | refine Below.setCell ?_ (by first | exact Nat.le_refl _ | (simp <;> omega)) _)) hb14
                  replace HB := bth HB hq14
                  replace hR := hR.below hq14
                  replace HT := HT.below hq14
                  replace RX := RX.below hq14
                  go_wp2_with fail
                  refine (iHeadline_is Y yc xs hn _ EH.out _ (RX.below (by repeat (first | exact Below.refl _ _ | refine Below.alloc ?_ (by first | exact Nat.le_refl _ | (simp <;> omega)) _ | refine Below.setCell ?_ (by first | exact Nat.le_refl _ | (simp <;> omega)) _))) (HT.below (by repeat (first | exact Below.refl _ _ | refine Below.alloc ?_ (by first | exact Nat.le_refl _ | (simp <;> omega)) _ | refine Below.setCell ?_ (by first | exact Nat.le_refl _ | (simp <;> omega)) _)))).mono ?_
                  rintro e w15 ⟨rfl, hb15⟩
                  have hq15 : Below w14.heap.size w14 w15 := bth (by repeat (first | exact Below.refl _ _ | refine Below.alloc ?_ (by first | exact Nat.le_refl _ | (simp <;> omega)) _ | refine Below.setCell ?_ (by first | exact Nat.le_refl _ | (simp <;> omega)) _)) hb15
                  replace HB := bth HB hq15
                  replace hR := hR.below hq15
                  replace HT := HT.below hq15
                  replace RX := RX.below hq15
                  go_wp2_with fail
                  refine (sHeadline_is Y yc xs hn _ EH.out _ (RX.below (by repeat (first | exact Below.refl _ _ | refine Below.alloc ?_ (by first | exact Nat.le_refl _ | (simp <;> omega)) _ | refine Below.setCell ?_ (by first | exact Nat.le_refl _ | (simp <;> omega)) _)))).mono ?_
                  rintro e w16 ⟨rfl, hb16⟩
                  have hq16 : Below w15.heap.size w15 w16 := bth (by repeat (first | exact Below.refl _ _ | refine Below.alloc ?_ (by first | exact Nat.le_refl _ | (simp <;> omega)) _ | refine Below.setCell ?_ (by first | exact Nat.le_refl _ | (simp <;> omega)) _)) hb16
                  replace HB := bth HB hq16
                  replace hR := hR.below hq16
                  replace HT := HT.below hq16
                  replace RX := RX.below hq16
                  go_wp2
                  go_ret
                  exact ⟨rfl, (bth HB (by repeat (first | exact Below.refl _ _ | refine Below.alloc ?_ (by first | exact Nat.le_refl _ | (simp <;> omega)) _ | refine Below.setCell ?_ (by first | exact Nat.le_refl _ | (simp <;> omega)) _)))⟩
                · go_upto_region 37 with fail
                  have hq12 : Below w11.heap.size w11 wr := bth (by repeat (first | exact Below.refl _ _ | refine Below.alloc ?_ (by first | exact Nat.le_refl _ | (simp <;> omega)) _ | refine Below.setCell ?_ (by first | exact Nat.le_refl _ | (simp <;> omega)) _)) hb
                  replace HB := bth HB hq12
                  replace hR := hR.below hq12
                  replace HT := HT.below hq12
                  replace RX := RX.below hq12
                  go_wp2_with fail
                  refine (greatestTurnout_is Y yc xs hn _ EG.out _ (RX.below (by repeat (first | exact Below.refl _ _ | refine Below.alloc ?_ (by first | exact Nat.le_refl _ | (simp <;> omega)) _ | refine Below.setCell ?_ (by first | exact Nat.le_refl _ | (simp <;> omega)) _)))).mono ?_
                  rintro e w13 ⟨rfl, hb13⟩
                  have hq13 : Below wr.heap.size wr w13 := bth (by repeat (first | exact Below.refl _ _ | refine Below.alloc ?_ (by first | exact Nat.le_refl _ | (simp <;> omega)) _ | refine Below.setCell ?_ (by first | exact Nat.le_refl _ | (simp <;> omega)) _)) hb13
                  replace HB := bth HB hq13
                  replace hR := hR.below hq13
                  replace HT := HT.below hq13
                  replace RX := RX.below hq13
                  go_wp2_with fail
                  refine (sGreatestTurnout_is Y yc xs hn _ EG.out _ (RX.below (by repeat (first | exact Below.refl _ _ | refine Below.alloc ?_ (by first | exact Nat.le_refl _ | (simp <;> omega)) _ | refine Below.setCell ?_ (by first | exact Nat.le_refl _ | (simp <;> omega)) _)))).mono ?_
                  rintro e w14 ⟨rfl, hb14⟩
                  have hq14 : Below w13.heap.size w13 w14 := bth (by repeat (first | exact Below.refl _ _ | refine Below.alloc ?_ (by first | exact Nat.le_refl _ | (simp <;> omega)) _ | refine Below.setCell ?_ (by first | exact Nat.le_refl _ | (simp <;> omega)) _)) hb14
                  replace HB := bth HB hq14
                  replace hR := hR.below hq14
                  replace HT := HT.below hq14
                  replace RX := RX.below hq14
                  go_wp2_with fail
                  refine (iHeadline_is Y yc xs hn _ EH.out _ (RX.below (by repeat (first | exact Below.refl _ _ | refine Below.alloc ?_ (by first | exact Nat.le_refl _ | (simp <;> omega)) _ | refine Below.setCell ?_ (by first | exact Nat.le_refl _ | (simp <;> omega)) _))) (HT.below (by repeat (first | exact Below.refl _ _ | refine Below.alloc ?_ (by first | exact Nat.le_refl _ | (simp <;> omega)) _ | refine Below.setCell ?_ (by first | exact Nat.le_refl _ | (simp <;> omega)) _)))).mono ?_
                  rintro e w15 ⟨rfl, hb15⟩
                  have hq15 : Below w14.heap.size w14 w15 := bth (by repeat (first | exact Below.refl _ _ | refine Below.alloc ?_ (by first | exact Nat.le_refl _ | (simp <;> omega)) _ | refine Below.setCell ?_ (by first | exact Nat.le_refl _ | (simp <;> omega)) _)) hb15
                  replace HB := bth HB hq15
                  replace hR := hR.below hq15
                  replace HT := HT.below hq15
                  replace RX := RX.below hq15
                  go_wp2_with fail
                  refine (sHeadline_is Y yc xs hn _ EH.out _ (RX.below (by repeat (first | exact Below.refl _ _ | refine Below.alloc ?_ (by first | exact Nat.le_refl _ | (simp <;> omega)) _ | refine Below.setCell ?_ (by first | exact Nat.le_refl _ | (simp <;> omega)) _)))).mono ?_
                  rintro e w16 ⟨rfl, hb16⟩
                  have hq16 : Below w15.heap.size w15 w16 := bth (by repeat (first | exact Below.refl _ _ | refine Below.alloc ?_ (by first | exact Nat.le_refl _ | (simp <;> omega)) _ | refine Below.setCell ?_ (by first | exact Nat.le_refl _ | (simp <;> omega)) _)) hb16
                  replace HB := bth HB hq16
                  replace hR := hR.below hq16
                  replace HT := HT.below hq16
                  replace RX := RX.below hq16
                  go_wp2
                  go_ret
                  exact ⟨rfl, (bth HB (by repeat (first | exact Below.refl _ _ | refine Below.alloc ?_ (by first | exact Nat.le_refl _ | (simp <;> omega)) _ | refine Below.setCell ?_ (by first | exact Nat.le_refl _ | (simp <;> omega)) _)))⟩
              · by_cases hlt : k < xs.length
                · obtain ⟨hbe, hpos⟩ := HB0.out rfl
                  subst hbe
                  obtain ⟨q, hq, hqb⟩ := cls_best xs xs.length (Nat.le_refl _) hpos
                  have hc2 : cls xs xs.length < xs.length := (List.getElem?_eq_some_iff.1 hq).1
                  obtain ⟨b2, o2, r, hAe, hbl2, hx, hcx⟩ := RX.at_ hb hlt
                  obtain ⟨b3, o3, q', hAe', hbl3, hq', hcq⟩ := RX.at_ hb hc2
                  obtain rfl : q = q' := Option.some.inj (hq.symm.trans hq')
                  subst hAe
                  obtain ⟨rfl, rfl⟩ : b2 = b3 ∧ o2 = o3 := by simpa using hAe'
                  have hgap := hqb k r hlt hx
                  have hb1 := reportB_at HV.out hx
                  have hb2 := reportB_at HV.out hq
                  obtain ⟨m, nd, y, n, a, s⟩ := r
                  obtain ⟨m', nd', y', n', a', s'⟩ := q
                  replace hb1 := resB_bd hb1
                  replace hb2 := resB_bd hb2
                  have hsq := abs_sq hgap
                  have hle : ¬ ((y - n) * (y - n) < (y' - n') * (y' - n')) := by
                    have : (y' - n') * (y' - n') ≤ (y - n) * (y - n) := hsq
                    omega
                  have hs1 := sq_bd (a := y - n) (by omega) (by omega)
                  have hs2 := sq_bd (a := y' - n') (by omega) (by omega)
                  have f2 := hcx 2 _ rfl
                  have f3 := hcx 3 _ rfl
                  have e2 := hcq 2 _ rfl
                  have e3 := hcq 3 _ rfl
                  generalize cls xs xs.length = cb at *
                  clear hAe' hx hcx hq hq' hcq hgap hqb hsq
                  go_wp2
                  refine wp_region_kin (by kernel_rfl) (by kernel_rfl) ?_
                  repeat (go_big_quiet_step ((fail)))
                  refine wpQuiet_nil ?_
                  intro K
                  go_wp2
                  go_roundw
                  case rel => exact ⟨k + 1, by omega, by go_num, bth hb K.below⟩
                  case measure => simp [intOf]; omega
                · go_upto_region 37 with fail
                  have hq12 : Below w11.heap.size w11 wr := bth (by repeat (first | exact Below.refl _ _ | refine Below.alloc ?_ (by first | exact Nat.le_refl _ | (simp <;> omega)) _ | refine Below.setCell ?_ (by first | exact Nat.le_refl _ | (simp <;> omega)) _)) hb
                  replace HB := bth HB hq12
                  replace hR := hR.below hq12
                  replace HT := HT.below hq12
                  replace RX := RX.below hq12
                  go_wp2_with fail
                  refine (greatestTurnout_is Y yc xs hn _ EG.out _ (RX.below (by repeat (first | exact Below.refl _ _ | refine Below.alloc ?_ (by first | exact Nat.le_refl _ | (simp <;> omega)) _ | refine Below.setCell ?_ (by first | exact Nat.le_refl _ | (simp <;> omega)) _)))).mono ?_
                  rintro e w13 ⟨rfl, hb13⟩
                  have hq13 : Below wr.heap.size wr w13 := bth (by repeat (first | exact Below.refl _ _ | refine Below.alloc ?_ (by first | exact Nat.le_refl _ | (simp <;> omega)) _ | refine Below.setCell ?_ (by first | exact Nat.le_refl _ | (simp <;> omega)) _)) hb13
                  replace HB := bth HB hq13
                  replace hR := hR.below hq13
                  replace HT := HT.below hq13
                  replace RX := RX.below hq13
                  go_wp2_with fail
                  refine (sGreatestTurnout_is Y yc xs hn _ EG.out _ (RX.below (by repeat (first | exact Below.refl _ _ | refine Below.alloc ?_ (by first | exact Nat.le_refl _ | (simp <;> omega)) _ | refine Below.setCell ?_ (by first | exact Nat.le_refl _ | (simp <;> omega)) _)))).mono ?_
                  rintro e w14 ⟨rfl, hb14⟩
                  have hq14 : Below w13.heap.size w13 w14 := bth (by repeat (first | exact Below.refl _ _ | refine Below.alloc ?_ (by first | exact Nat.le_refl _ | (simp <;> omega)) _ | refine Below.setCell ?_ (by first | exact Nat.le_refl _ | (simp <;> omega)) _)) hb14
                  replace HB := bth HB hq14
                  replace hR := hR.below hq14
                  replace HT := HT.below hq14
                  replace RX := RX.below hq14
                  go_wp2_with fail
                  refine (iHeadline_is Y yc xs hn _ EH.out _ (RX.below (by repeat (first | exact Below.refl _ _ | refine Below.alloc ?_ (by first | exact Nat.le_refl _ | (simp <;> omega)) _ | refine Below.setCell ?_ (by first | exact Nat.le_refl _ | (simp <;> omega)) _))) (HT.below (by repeat (first | exact Below.refl _ _ | refine Below.alloc ?_ (by first | exact Nat.le_refl _ | (simp <;> omega)) _ | refine Below.setCell ?_ (by first | exact Nat.le_refl _ | (simp <;> omega)) _)))).mono ?_
                  rintro e w15 ⟨rfl, hb15⟩
                  have hq15 : Below w14.heap.size w14 w15 := bth (by repeat (first | exact Below.refl _ _ | refine Below.alloc ?_ (by first | exact Nat.le_refl _ | (simp <;> omega)) _ | refine Below.setCell ?_ (by first | exact Nat.le_refl _ | (simp <;> omega)) _)) hb15
                  replace HB := bth HB hq15
                  replace hR := hR.below hq15
                  replace HT := HT.below hq15
                  replace RX := RX.below hq15
                  go_wp2_with fail
                  refine (sHeadline_is Y yc xs hn _ EH.out _ (RX.below (by repeat (first | exact Below.refl _ _ | refine Below.alloc ?_ (by first | exact Nat.le_refl _ | (simp <;> omega)) _ | refine Below.setCell ?_ (by first | exact Nat.le_refl _ | (simp <;> omega)) _)))).mono ?_
                  rintro e w16 ⟨rfl, hb16⟩
                  have hq16 : Below w15.heap.size w15 w16 := bth (by repeat (first | exact Below.refl _ _ | refine Below.alloc ?_ (by first | exact Nat.le_refl _ | (simp <;> omega)) _ | refine Below.setCell ?_ (by first | exact Nat.le_refl _ | (simp <;> omega)) _)) hb16
                  replace HB := bth HB hq16
                  replace hR := hR.below hq16
                  replace HT := HT.below hq16
                  replace RX := RX.below hq16
                  go_wp2
                  go_ret
                  exact ⟨rfl, (bth HB (by repeat (first | exact Below.refl _ _ | refine Below.alloc ?_ (by first | exact Nat.le_refl _ | (simp <;> omega)) _ | refine Below.setCell ?_ (by first | exact Nat.le_refl _ | (simp <;> omega)) _)))⟩
end Go.Proofs.YtbnncgahepcfnaaDoor
