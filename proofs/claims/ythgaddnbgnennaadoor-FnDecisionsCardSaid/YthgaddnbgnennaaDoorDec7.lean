/- Decided questions: the prevailing side, and who may ask for another vote. -/
import Derived.Test.YthgaddnbgnennaaDoorDec3
import Derived.Test.YthgaddnbgnennaaDoorDec4
namespace Go.Proofs.YthgaddnbgnennaaDoor
open Go.RowKit Go.G9
def Dec.side (d : Dec) : List Int := if d.ado then d.yes else d.no
theorem prevailingSide_is (d : Dec) (Y N : Option Addr) (yc nc : Nat) (hd : decB d = true) (v : Value) (hv : (if d.ado then Value.slice Y d.yes.length yc else .slice N d.no.length nc) = v) (w : World) :
  Calls Tryd.prog 43 #[.agg #[.int .i64 d.id, .int .i64 d.day, .int .i64 d.need, .slice Y d.yes.length yc, .slice N d.no.length nc, .bool d.done]] w fun e w' => e = .returned v ∧ Below w.heap.size w w' := by
  subst hv
  cases ha : d.ado <;>
  · go_enter Tryd.func43, Tryd.ntmps43
    go_wp2_with fail
    refine (wasAdopted_is d Y N yc nc hd _ ha _).mono ?_
    rintro e w1 ⟨rfl, hb1⟩
    have hA := Blk.below (Blk.new w 35 #[.int .i64 d.id, .int .i64 d.day, .int .i64 d.need, .slice Y d.yes.length yc, .slice N d.no.length nc, .bool d.done]) hb1 (by simp)
    have a0 := hA.cell 0
    have a1 := hA.cell 1
    have a2 := hA.cell 2
    have a3 := hA.cell 3
    have a4 := hA.cell 4
    have a5 := hA.cell 5
    simp at a0 a1 a2 a3 a4 a5
    go_wp2
    go_ret
    exact ⟨rfl, bth (bl1 _ _) hb1⟩
theorem l18Side_is (d : Dec) (Y N : Option Addr) (yc nc : Nat) (hd : decB d = true) (hY : Y = none → d.yes = [] ∧ yc = 0) (hN : N = none → d.no = [] ∧ nc = 0) (w : World) (hRy : Rds 1 intC w Y d.yes) (hRn : Rds 1 intC w N d.no) :
  Calls Tryd.prog 45 #[.agg #[.int .i64 d.id, .int .i64 d.day, .int .i64 d.need, .slice Y d.yes.length yc, .slice N d.no.length nc, .bool d.done]] w fun e w' => ∃ A' c', e = .returned (.slice A' d.side.length c') ∧ OwnV w.heap.size 3 1 intC w' (.slice A' d.side.length c') d.side ∧ Below w.heap.size w w' := by
  have hl := decB_len hd
  cases ha : d.ado
  · have hs : d.side = d.no := by simp [Dec.side, ha]
    rw [hs]; clear hs
    go_enter Tryd.func45, Tryd.ntmps45
    go_wp2_with fail
    refine (l18Adopted_is d Y N yc nc hd _ ha _).mono ?_
    rintro e w1 ⟨rfl, hb1⟩
    have hA := Blk.below (Blk.new w 35 #[.int .i64 d.id, .int .i64 d.day, .int .i64 d.need, .slice Y d.yes.length yc, .slice N d.no.length nc, .bool d.done]) hb1 (by simp)
    have hb1' := bth (bl1 _ _) hb1
    have a0 := hA.cell 0
    have a1 := hA.cell 1
    have a2 := hA.cell 2
    have a3 := hA.cell 3
    have a4 := hA.cell 4
    have a5 := hA.cell 5
    simp at a0 a1 a2 a3 a4 a5
    go_wp2_with fail
    refine (l1Own_is N nc d.no (by omega) hN _ (hRn.below hb1')).mono ?_
    rintro e w2 ⟨A', c', rfl, hO, hb2⟩
    go_wp2
    go_ret
    exact ⟨A', c', rfl, hO.base hb1'.size, bth hb1' hb2⟩
  · have hs : d.side = d.yes := by simp [Dec.side, ha]
    rw [hs]; clear hs
    go_enter Tryd.func45, Tryd.ntmps45
    go_wp2_with fail
    refine (l18Adopted_is d Y N yc nc hd _ ha _).mono ?_
    rintro e w1 ⟨rfl, hb1⟩
    have hA := Blk.below (Blk.new w 35 #[.int .i64 d.id, .int .i64 d.day, .int .i64 d.need, .slice Y d.yes.length yc, .slice N d.no.length nc, .bool d.done]) hb1 (by simp)
    have hb1' := bth (bl1 _ _) hb1
    have a0 := hA.cell 0
    have a1 := hA.cell 1
    have a2 := hA.cell 2
    have a3 := hA.cell 3
    have a4 := hA.cell 4
    have a5 := hA.cell 5
    simp at a0 a1 a2 a3 a4 a5
    go_wp2_with fail
    refine (l1Own_is Y yc d.yes (by omega) hY _ (hRy.below hb1')).mono ?_
    rintro e w2 ⟨A', c', rfl, hO, hb2⟩
    go_wp2
    go_ret
    exact ⟨A', c', rfl, hO.base hb1'.size, bth hb1' hb2⟩
def mayOk (d : Dec) (m t : Int) : Bool := decB d && inB m 1 99 && inB t 0 3650
def mayOut (d : Dec) (m t : Int) : Value := if mayOk d m t then .tuple #[.bool (hasB d.side m && inB t d.day (d.day + 1) && !d.done), .bool true] else .tuple #[.bool false, .bool false]
theorem mayOut_form (d : Dec) (m t : Int) : ∃ a b : Bool, mayOut d m t = .tuple #[.bool a, .bool b] := by
  unfold mayOut; split
  · exact ⟨_, _, rfl⟩
  · exact ⟨_, _, rfl⟩
set_option maxHeartbeats 2000000 in
theorem iMay_is (d : Dec) (Y N : Option Addr) (yc nc : Nat) (hy : d.yes.length ≤ 1048576) (hn : d.no.length ≤ 1048576) (m t : Int) (v : Value) (hv : mayOut d m t = v) (w : World) (hRy : Rds 1 intC w Y d.yes) (hRn : Rds 1 intC w N d.no) :
  Calls Tryd.prog 27 #[.agg #[.int .i64 d.id, .int .i64 d.day, .int .i64 d.need, .slice Y d.yes.length yc, .slice N d.no.length nc, .bool d.done], .int .i64 m, .int .i64 t] w fun e w' => e = .returned v ∧ Below w.heap.size w w' := by
  subst hv
  cases hd : decB d
  · go_enter Tryd.func27, Tryd.ntmps27
    go_wp2_with fail
    refine (isValidDecided_is d Y N yc nc hy hn _ hd _ (hRy.below (bl1 _ _)) (hRn.below (bl1 _ _))).mono ?_
    rintro e w1 ⟨rfl, hb1⟩
    go_wp2
    go_ret2
    exact ⟨by simp [mayOut, mayOk, hd], bth (bl1 _ _) hb1⟩
  cases h1 : inB m 1 99
  · go_enter Tryd.func27, Tryd.ntmps27
    go_wp2_with fail
    refine (isValidDecided_is d Y N yc nc hy hn _ hd _ (hRy.below (bl1 _ _)) (hRn.below (bl1 _ _))).mono ?_
    rintro e w1 ⟨rfl, hb1⟩
    go_wp2_with (go_at_call 56; refine (isMember_is _ _ h1 _).mono ?_; rintro e w' ⟨rfl, rfl⟩)
    go_ret2
    exact ⟨by simp [mayOut, mayOk, h1], bth (bl1 _ _) hb1⟩
  cases h2 : inB t 0 3650
  · go_enter Tryd.func27, Tryd.ntmps27
    go_wp2_with fail
    refine (isValidDecided_is d Y N yc nc hy hn _ hd _ (hRy.below (bl1 _ _)) (hRn.below (bl1 _ _))).mono ?_
    rintro e w1 ⟨rfl, hb1⟩
    go_wp2_with (first | (go_at_call 56; refine (isMember_is _ _ h1 _).mono ?_; rintro e w' ⟨rfl, rfl⟩) | (go_at_call 49; refine (isDay_is _ _ h2 _).mono ?_; rintro e w' ⟨rfl, rfl⟩))
    go_ret2
    exact ⟨by simp [mayOut, mayOk, h2], bth (bl1 _ _) hb1⟩
  · have hl := decB_len hd
    have hdd : inB d.day 0 3650 = true := by simp [decB] at hd; exact hd.2.1
    have hdd' := inB_iff.1 hdd
    have hsl : d.side.length ≤ 30 := by unfold Dec.side; split <;> omega
    have hout : mayOut d m t = .tuple #[.bool (hasB d.side m && inB t d.day (d.day + 1) && !d.done), .bool true] := by simp [mayOut, mayOk, hd, h1, h2]
    rw [hout]; clear hout
    go_enter Tryd.func27, Tryd.ntmps27
    go_wp2_with fail
    refine (isValidDecided_is d Y N yc nc hy hn _ hd _ (hRy.below (bl1 _ _)) (hRn.below (bl1 _ _))).mono ?_
    rintro e w1 ⟨rfl, hb1⟩
    have hA := Blk.below (Blk.new w 35 #[.int .i64 d.id, .int .i64 d.day, .int .i64 d.need, .slice Y d.yes.length yc, .slice N d.no.length nc, .bool d.done]) hb1 (by simp)
    have hb1' := bth (bl1 _ _) hb1
    have a0 := hA.cell 0
    have a1 := hA.cell 1
    have a2 := hA.cell 2
    have a3 := hA.cell 3
    have a4 := hA.cell 4
    have a5 := hA.cell 5
    simp at a0 a1 a2 a3 a4 a5
    go_upto_region 3 with (first | (go_at_call 56; refine (isMember_is _ _ h1 _).mono ?_; rintro e w' ⟨rfl, rfl⟩) | (go_at_call 49; refine (isDay_is _ _ h2 _).mono ?_; rintro e w' ⟨rfl, rfl⟩))
    go_wp2_with fail
    refine (prevailingSide_is d Y N yc nc hd _ rfl _).mono ?_
    rintro e w2 ⟨rfl, hb2⟩
    have hA2 := hA.below hb2 hA.lt
    have hb2' := bth hb1' hb2
    clear a0 a1 a2 a3 a4 a5
    have a0 := hA2.cell 0
    have a1 := hA2.cell 1
    have a2 := hA2.cell 2
    have a3 := hA2.cell 3
    have a4 := hA2.cell 4
    have a5 := hA2.cell 5
    simp at a0 a1 a2 a3 a4 a5
    have hS : ∃ S sc, (if d.ado then Value.slice Y d.yes.length yc else .slice N d.no.length nc) = .slice S d.side.length sc ∧ Rds 1 intC w2 S d.side := by
      cases ha : d.ado <;> simp only [Dec.side, ha]
      · exact ⟨_, _, rfl, hRn.below hb2'⟩
      · exact ⟨_, _, rfl, hRy.below hb2'⟩
    obtain ⟨S, sc, hSe, hRs⟩ := hS
    rw [hSe]; clear hSe
    go_wp2_with fail
    refine (contains_int S sc d.side m (by omega) _ rfl _ hRs).mono ?_
    rintro e w3 ⟨rfl, hw3⟩
    have hb3 : Below w2.heap.size w2 w3 := by first | exact hw3 | (subst hw3; exact Below.refl _ _)
    have hA3 := hA2.below hb3 hA2.lt
    clear a0 a1 a2 a3 a4 a5
    have a0 := hA3.cell 0
    have a1 := hA3.cell 1
    have a2 := hA3.cell 2
    have a3 := hA3.cell 3
    have a4 := hA3.cell 4
    have a5 := hA3.cell 5
    simp at a0 a1 a2 a3 a4 a5
    clear hw3
    cases h3 : hasB d.side m <;> cases h4 : inB t d.day (d.day + 1) <;> cases h5 : d.done
    all_goals
      rw [h5] at a5
      go_wp2_with (go_at_call 48; refine (inside_is _ _ _ _ h4 _).mono ?_; rintro e w' ⟨rfl, rfl⟩)
      go_ret2
      exact ⟨by simp [h3, h4, h5], bth hb2' hb3⟩
set_option maxHeartbeats 2000000 in
theorem sMay_is (d : Dec) (Y N : Option Addr) (yc nc : Nat) (hy : d.yes.length ≤ 1048576) (hn : d.no.length ≤ 1048576) (hY : Y = none → d.yes = [] ∧ yc = 0) (hN : N = none → d.no = [] ∧ nc = 0) (m t : Int) (v : Value) (hv : mayOut d m t = v) (w : World) (hRy : Rds 1 intC w Y d.yes) (hRn : Rds 1 intC w N d.no) :
  Calls Tryd.prog 28 #[.agg #[.int .i64 d.id, .int .i64 d.day, .int .i64 d.need, .slice Y d.yes.length yc, .slice N d.no.length nc, .bool d.done], .int .i64 m, .int .i64 t] w fun e w' => e = .returned v ∧ Below w.heap.size w w' := by
  subst hv
  cases hd : decB d
  · go_enter Tryd.func28, Tryd.ntmps28
    go_wp2_with fail
    refine (l18Good_is d Y N yc nc hy hn _ hd _ (hRy.below (bl1 _ _)) (hRn.below (bl1 _ _))).mono ?_
    rintro e w1 ⟨rfl, hb1⟩
    go_wp2
    go_ret2
    exact ⟨by simp [mayOut, mayOk, hd], bth (bl1 _ _) hb1⟩
  cases h1 : inB m 1 99
  · go_enter Tryd.func28, Tryd.ntmps28
    go_wp2_with fail
    refine (l18Good_is d Y N yc nc hy hn _ hd _ (hRy.below (bl1 _ _)) (hRn.below (bl1 _ _))).mono ?_
    rintro e w1 ⟨rfl, hb1⟩
    go_wp2_with (go_at_call 58; refine (l1In_is _ _ _ _ h1 _).mono ?_; rintro e w' ⟨rfl, rfl⟩)
    go_ret2
    exact ⟨by simp [mayOut, mayOk, h1], bth (bl1 _ _) hb1⟩
  cases h2 : inB t 0 3650
  · go_enter Tryd.func28, Tryd.ntmps28
    go_wp2_with fail
    refine (l18Good_is d Y N yc nc hy hn _ hd _ (hRy.below (bl1 _ _)) (hRn.below (bl1 _ _))).mono ?_
    rintro e w1 ⟨rfl, hb1⟩
    go_wp2_with (first | (go_at_call 58; refine (l1In_is _ _ _ _ h1 _).mono ?_; rintro e w' ⟨rfl, rfl⟩) | (go_at_call 59; refine (l24Day_is _ _ h2 _).mono ?_; rintro e w' ⟨rfl, rfl⟩))
    go_ret2
    exact ⟨by simp [mayOut, mayOk, h2], bth (bl1 _ _) hb1⟩
  · have hl := decB_len hd
    have hdd : inB d.day 0 3650 = true := by simp [decB] at hd; exact hd.2.1
    have hdd' := inB_iff.1 hdd
    have hsl : d.side.length ≤ 30 := by unfold Dec.side; split <;> omega
    have hout : mayOut d m t = .tuple #[.bool (hasB d.side m && inB t d.day (d.day + 1) && !d.done), .bool true] := by simp [mayOut, mayOk, hd, h1, h2]
    rw [hout]; clear hout
    go_enter Tryd.func28, Tryd.ntmps28
    go_wp2_with fail
    refine (l18Good_is d Y N yc nc hy hn _ hd _ (hRy.below (bl1 _ _)) (hRn.below (bl1 _ _))).mono ?_
    rintro e w1 ⟨rfl, hb1⟩
    have hA := Blk.below (Blk.new w 35 #[.int .i64 d.id, .int .i64 d.day, .int .i64 d.need, .slice Y d.yes.length yc, .slice N d.no.length nc, .bool d.done]) hb1 (by simp)
    have hb1' := bth (bl1 _ _) hb1
    have a0 := hA.cell 0
    have a1 := hA.cell 1
    have a2 := hA.cell 2
    have a3 := hA.cell 3
    have a4 := hA.cell 4
    have a5 := hA.cell 5
    simp at a0 a1 a2 a3 a4 a5
    go_upto_region 3 with (first | (go_at_call 58; refine (l1In_is _ _ _ _ h1 _).mono ?_; rintro e w' ⟨rfl, rfl⟩) | (go_at_call 59; refine (l24Day_is _ _ h2 _).mono ?_; rintro e w' ⟨rfl, rfl⟩))
    go_wp2_with fail
    refine (l18Side_is d Y N yc nc hd hY hN _ (hRy.below hb1') (hRn.below hb1')).mono ?_
    rintro e w2 ⟨S, sc, rfl, hO2, hb2⟩
    have hA2 := hA.below hb2 hA.lt
    have hb2' := bth hb1' hb2
    clear a0 a1 a2 a3 a4 a5
    have a0 := hA2.cell 0
    have a1 := hA2.cell 1
    have a2 := hA2.cell 2
    have a3 := hA2.cell 3
    have a4 := hA2.cell 4
    have a5 := hA2.cell 5
    simp at a0 a1 a2 a3 a4 a5
    have hRs := hO2.rds
    go_wp2_with fail
    refine (l1Has_is S sc d.side m (by omega) _ rfl _ hRs).mono ?_
    rintro e w3 ⟨rfl, hw3⟩
    have hb3 : Below w2.heap.size w2 w3 := by first | exact hw3 | (subst hw3; exact Below.refl _ _)
    have hA3 := hA2.below hb3 hA2.lt
    clear a0 a1 a2 a3 a4 a5
    have a0 := hA3.cell 0
    have a1 := hA3.cell 1
    have a2 := hA3.cell 2
    have a3 := hA3.cell 3
    have a4 := hA3.cell 4
    have a5 := hA3.cell 5
    simp at a0 a1 a2 a3 a4 a5
    clear hw3
    cases h3 : hasB d.side m <;> cases h4 : inB t d.day (d.day + 1) <;> cases h5 : d.done
    all_goals
      rw [h5] at a5
      go_wp2_with (go_at_call 58; refine (l1In_is _ _ _ _ h4 _).mono ?_; rintro e w' ⟨rfl, rfl⟩)
      go_ret2
      exact ⟨by simp [h3, h4, h5], bth hb2' hb3⟩
end Go.Proofs.YthgaddnbgnennaaDoor
