/- A new floor. -/
import Derived.Test.YtkkdegmfmimdgaaNc11
import Derived.Deep.Cut
namespace Go.Proofs.Ytkkdegmfmimdgaa
open Go.RowKit Go.G9
def nfB (tu se : Int) : Bool := floB tu se 0 [] []
def nfOut (tu se : Int) (b : Bool) : Value := if b then .tuple #[.agg #[.int .i64 tu, .int .i64 se, .int .i64 0, .slice none 0 0, .slice none 0 0], .bool true] else .tuple #[.agg #[.int .i64 0, .int .i64 0, .int .i64 0, .slice none 0 0, .slice none 0 0], .bool false]
theorem rds_nilS {T : Type} {sz : Nat} {f : T → List Value} {w : World} {A : Option Addr} : Rds sz f w A ([] : List T) := fun h => absurd h (by simp)
set_option maxHeartbeats 2000000 in
set_option maxRecDepth 100000 in
theorem iNewFloor_is (tu se : Int) (b : Bool) (hb : nfB tu se = b) (w : World) :
  Calls Try.prog 64 #[.int .i64 tu, .int .i64 se] w fun e w' => e = .returned (nfOut tu se b) ∧ Below w.heap.size w w' := by
  have HV := Lib.hid hb; clear hb
  cases b
  · go_enter Try.func64, Try.ntmps64
    go_upto_region 2 with fail
    have hq1 : Below w.heap.size w (World.alloc (World.alloc w (.cells #[.int .i64 0, .int .i64 0, .int .i64 0, .slice none 0 0, .slice none 0 0] 37)) (.cells #[.int .i64 tu, .int .i64 se, .int .i64 0, .slice none 0 0, .slice none 0 0] 37)) := bl2 w _ _
    have hZ : Blk (World.alloc (World.alloc w (.cells #[.int .i64 0, .int .i64 0, .int .i64 0, .slice none 0 0, .slice none 0 0] 37)) (.cells #[.int .i64 tu, .int .i64 se, .int .i64 0, .slice none 0 0, .slice none 0 0] 37)) (w.heap.size) 37 #[.int .i64 0, .int .i64 0, .int .i64 0, .slice none 0 0, .slice none 0 0] := by repeat (first | exact Blk.new _ _ _ | exact Blk.new2 _ _ _ _ | exact Blk.new3 _ _ _ _ _ | exact Blk.new4 _ _ _ _ _ _ | refine Blk.alloc ?_ _)
    have hF : Blk (World.alloc (World.alloc w (.cells #[.int .i64 0, .int .i64 0, .int .i64 0, .slice none 0 0, .slice none 0 0] 37)) (.cells #[.int .i64 tu, .int .i64 se, .int .i64 0, .slice none 0 0, .slice none 0 0] 37)) (w.heap.size + 1) 37 #[.int .i64 tu, .int .i64 se, .int .i64 0, .slice none 0 0, .slice none 0 0] := by repeat (first | exact Blk.new _ _ _ | exact Blk.new2 _ _ _ _ | exact Blk.new3 _ _ _ _ _ | exact Blk.new4 _ _ _ _ _ _ | refine Blk.alloc ?_ _)
    generalize World.alloc (World.alloc w (.cells #[.int .i64 0, .int .i64 0, .int .i64 0, .slice none 0 0, .slice none 0 0] 37)) (.cells #[.int .i64 tu, .int .i64 se, .int .i64 0, .slice none 0 0, .slice none 0 0] 37) = wX at *
    have HB := hq1
    have z0 := (hZ.cell 0).trans (show _ = some (.int .i64 0) from rfl)
    have z1 := (hZ.cell 1).trans (show _ = some (.int .i64 0) from rfl)
    have z2 := (hZ.cell 2).trans (show _ = some (.int .i64 0) from rfl)
    have z3 := (hZ.cell 3).trans (show _ = some (.slice none 0 0) from rfl)
    have z4 := (hZ.cell 4).trans (show _ = some (.slice none 0 0) from rfl)
    have f0 := (hF.cell 0).trans (show _ = some (.int .i64 tu) from rfl)
    have f1 := (hF.cell 1).trans (show _ = some (.int .i64 se) from rfl)
    have f2 := (hF.cell 2).trans (show _ = some (.int .i64 0) from rfl)
    have f3 := (hF.cell 3).trans (show _ = some (.slice none 0 0) from rfl)
    have f4 := (hF.cell 4).trans (show _ = some (.slice none 0 0) from rfl)
    have hz0 := hZ.lt
    have hf0 := hF.lt
    go_wp2_with fail
    refine (isValidFloor_is tu se 0 none [] 0 none 0 [] (by simp) (by simp) (by simp) _ HV.out _ rds_nilS rds_nilS).mono ?_
    rintro e w2 ⟨rfl, hb2⟩
    have hq2 : Below wX.heap.size wX w2 := bth (by repeat (first | exact Below.refl _ _ | refine Below.alloc ?_ (by first | exact Nat.le_refl _ | (simp <;> omega)) _ | refine Below.setCell ?_ (by first | exact Nat.le_refl _ | (simp <;> omega)) _)) hb2
    replace HB := bth HB hq2
    replace hZ := hZ.below hq2 hZ.lt
    replace z0 := (hZ.cell 0).trans (show _ = some (.int .i64 0) from rfl)
    replace z1 := (hZ.cell 1).trans (show _ = some (.int .i64 0) from rfl)
    replace z2 := (hZ.cell 2).trans (show _ = some (.int .i64 0) from rfl)
    replace z3 := (hZ.cell 3).trans (show _ = some (.slice none 0 0) from rfl)
    replace z4 := (hZ.cell 4).trans (show _ = some (.slice none 0 0) from rfl)
    replace hF := hF.below hq2 hF.lt
    replace f0 := (hF.cell 0).trans (show _ = some (.int .i64 tu) from rfl)
    replace f1 := (hF.cell 1).trans (show _ = some (.int .i64 se) from rfl)
    replace f2 := (hF.cell 2).trans (show _ = some (.int .i64 0) from rfl)
    replace f3 := (hF.cell 3).trans (show _ = some (.slice none 0 0) from rfl)
    replace f4 := (hF.cell 4).trans (show _ = some (.slice none 0 0) from rfl)
    have fhZ0 := hZ.frozen 0
    have fhZ1 := hZ.frozen 1
    have fhZ2 := hZ.frozen 2
    have fhZ3 := hZ.frozen 3
    have fhZ4 := hZ.frozen 4
    have yhZ := hZ.lt
    have yhF := hF.lt
    go_wp2
    clear z0 z1 z2 z3 z4 f0 f1 f2 f3 f4
    replace HB : Below w.heap.size w (World.setCell (World.setCell (World.setCell (World.setCell (World.setCell w2 ⟨w.heap.size, 0, none⟩ (.int .i64 0)) ⟨w.heap.size, 1, none⟩ (.int .i64 0)) ⟨w.heap.size, 2, none⟩ (.int .i64 0)) ⟨w.heap.size, 3, none⟩ (.slice none 0 0)) ⟨w.heap.size, 4, none⟩ (.slice none 0 0)) := (((((HB.setCell (by show w.heap.size ≤ w.heap.size; omega) (.int .i64 0) (p := ⟨w.heap.size, 0, none⟩)).setCell (by show w.heap.size ≤ w.heap.size; omega) (.int .i64 0) (p := ⟨w.heap.size, 1, none⟩)).setCell (by show w.heap.size ≤ w.heap.size; omega) (.int .i64 0) (p := ⟨w.heap.size, 2, none⟩)).setCell (by show w.heap.size ≤ w.heap.size; omega) (.slice none 0 0) (p := ⟨w.heap.size, 3, none⟩)).setCell (by show w.heap.size ≤ w.heap.size; omega) (.slice none 0 0) (p := ⟨w.heap.size, 4, none⟩))
    replace hZ : Blk (World.setCell (World.setCell (World.setCell (World.setCell (World.setCell w2 ⟨w.heap.size, 0, none⟩ (.int .i64 0)) ⟨w.heap.size, 1, none⟩ (.int .i64 0)) ⟨w.heap.size, 2, none⟩ (.int .i64 0)) ⟨w.heap.size, 3, none⟩ (.slice none 0 0)) ⟨w.heap.size, 4, none⟩ (.slice none 0 0)) (w.heap.size) 37 #[.int .i64 0, .int .i64 0, .int .i64 0, .slice none 0 0, .slice none 0 0] := (((((hZ.set_ 0 (.int .i64 0)).set_ 1 (.int .i64 0)).set_ 2 (.int .i64 0)).set_ 3 (.slice none 0 0)).set_ 4 (.slice none 0 0))
    replace hF := (((((hF.far' (p := ⟨w.heap.size, 0, none⟩) (by show _ ≠ w.heap.size; omega) (.int .i64 0)).far' (p := ⟨w.heap.size, 1, none⟩) (by show _ ≠ w.heap.size; omega) (.int .i64 0)).far' (p := ⟨w.heap.size, 2, none⟩) (by show _ ≠ w.heap.size; omega) (.int .i64 0)).far' (p := ⟨w.heap.size, 3, none⟩) (by show _ ≠ w.heap.size; omega) (.slice none 0 0)).far' (p := ⟨w.heap.size, 4, none⟩) (by show _ ≠ w.heap.size; omega) (.slice none 0 0))
    have szW9 : ((World.setCell (World.setCell (World.setCell (World.setCell (World.setCell w2 ⟨w.heap.size, 0, none⟩ (.int .i64 0)) ⟨w.heap.size, 1, none⟩ (.int .i64 0)) ⟨w.heap.size, 2, none⟩ (.int .i64 0)) ⟨w.heap.size, 3, none⟩ (.slice none 0 0)) ⟨w.heap.size, 4, none⟩ (.slice none 0 0))).heap.size = w2.heap.size := by simp [World.setCell]
    generalize World.setCell (World.setCell (World.setCell (World.setCell (World.setCell w2 ⟨w.heap.size, 0, none⟩ (.int .i64 0)) ⟨w.heap.size, 1, none⟩ (.int .i64 0)) ⟨w.heap.size, 2, none⟩ (.int .i64 0)) ⟨w.heap.size, 3, none⟩ (.slice none 0 0)) ⟨w.heap.size, 4, none⟩ (.slice none 0 0) = W9 at *
    have z0 := (hZ.cell 0).trans (show _ = some (.int .i64 0) from rfl)
    have z1 := (hZ.cell 1).trans (show _ = some (.int .i64 0) from rfl)
    have z2 := (hZ.cell 2).trans (show _ = some (.int .i64 0) from rfl)
    have z3 := (hZ.cell 3).trans (show _ = some (.slice none 0 0) from rfl)
    have z4 := (hZ.cell 4).trans (show _ = some (.slice none 0 0) from rfl)
    have f0 := (hF.cell 0).trans (show _ = some (.int .i64 tu) from rfl)
    have f1 := (hF.cell 1).trans (show _ = some (.int .i64 se) from rfl)
    have f2 := (hF.cell 2).trans (show _ = some (.int .i64 0) from rfl)
    have f3 := (hF.cell 3).trans (show _ = some (.slice none 0 0) from rfl)
    have f4 := (hF.cell 4).trans (show _ = some (.slice none 0 0) from rfl)
    refine bodyPost_ret (v := .tuple #[.agg #[.int .i64 0, .int .i64 0, .int .i64 0, .slice none 0 0, .slice none 0 0], .bool false]) (by simp [results, Try.results64, go_sem, z0, z1, z2, z3, z4]) rfl ?_
    exact ⟨rfl, HB⟩
  · go_enter Try.func64, Try.ntmps64
    go_upto_region 2 with fail
    have hq1 : Below w.heap.size w (World.alloc (World.alloc w (.cells #[.int .i64 0, .int .i64 0, .int .i64 0, .slice none 0 0, .slice none 0 0] 37)) (.cells #[.int .i64 tu, .int .i64 se, .int .i64 0, .slice none 0 0, .slice none 0 0] 37)) := bl2 w _ _
    have hZ : Blk (World.alloc (World.alloc w (.cells #[.int .i64 0, .int .i64 0, .int .i64 0, .slice none 0 0, .slice none 0 0] 37)) (.cells #[.int .i64 tu, .int .i64 se, .int .i64 0, .slice none 0 0, .slice none 0 0] 37)) (w.heap.size) 37 #[.int .i64 0, .int .i64 0, .int .i64 0, .slice none 0 0, .slice none 0 0] := by repeat (first | exact Blk.new _ _ _ | exact Blk.new2 _ _ _ _ | exact Blk.new3 _ _ _ _ _ | exact Blk.new4 _ _ _ _ _ _ | refine Blk.alloc ?_ _)
    have hF : Blk (World.alloc (World.alloc w (.cells #[.int .i64 0, .int .i64 0, .int .i64 0, .slice none 0 0, .slice none 0 0] 37)) (.cells #[.int .i64 tu, .int .i64 se, .int .i64 0, .slice none 0 0, .slice none 0 0] 37)) (w.heap.size + 1) 37 #[.int .i64 tu, .int .i64 se, .int .i64 0, .slice none 0 0, .slice none 0 0] := by repeat (first | exact Blk.new _ _ _ | exact Blk.new2 _ _ _ _ | exact Blk.new3 _ _ _ _ _ | exact Blk.new4 _ _ _ _ _ _ | refine Blk.alloc ?_ _)
    generalize World.alloc (World.alloc w (.cells #[.int .i64 0, .int .i64 0, .int .i64 0, .slice none 0 0, .slice none 0 0] 37)) (.cells #[.int .i64 tu, .int .i64 se, .int .i64 0, .slice none 0 0, .slice none 0 0] 37) = wX at *
    have HB := hq1
    have z0 := (hZ.cell 0).trans (show _ = some (.int .i64 0) from rfl)
    have z1 := (hZ.cell 1).trans (show _ = some (.int .i64 0) from rfl)
    have z2 := (hZ.cell 2).trans (show _ = some (.int .i64 0) from rfl)
    have z3 := (hZ.cell 3).trans (show _ = some (.slice none 0 0) from rfl)
    have z4 := (hZ.cell 4).trans (show _ = some (.slice none 0 0) from rfl)
    have f0 := (hF.cell 0).trans (show _ = some (.int .i64 tu) from rfl)
    have f1 := (hF.cell 1).trans (show _ = some (.int .i64 se) from rfl)
    have f2 := (hF.cell 2).trans (show _ = some (.int .i64 0) from rfl)
    have f3 := (hF.cell 3).trans (show _ = some (.slice none 0 0) from rfl)
    have f4 := (hF.cell 4).trans (show _ = some (.slice none 0 0) from rfl)
    have hz0 := hZ.lt
    have hf0 := hF.lt
    go_wp2_with fail
    refine (isValidFloor_is tu se 0 none [] 0 none 0 [] (by simp) (by simp) (by simp) _ HV.out _ rds_nilS rds_nilS).mono ?_
    rintro e w2 ⟨rfl, hb2⟩
    have hq2 : Below wX.heap.size wX w2 := bth (by repeat (first | exact Below.refl _ _ | refine Below.alloc ?_ (by first | exact Nat.le_refl _ | (simp <;> omega)) _ | refine Below.setCell ?_ (by first | exact Nat.le_refl _ | (simp <;> omega)) _)) hb2
    replace HB := bth HB hq2
    replace hZ := hZ.below hq2 hZ.lt
    replace z0 := (hZ.cell 0).trans (show _ = some (.int .i64 0) from rfl)
    replace z1 := (hZ.cell 1).trans (show _ = some (.int .i64 0) from rfl)
    replace z2 := (hZ.cell 2).trans (show _ = some (.int .i64 0) from rfl)
    replace z3 := (hZ.cell 3).trans (show _ = some (.slice none 0 0) from rfl)
    replace z4 := (hZ.cell 4).trans (show _ = some (.slice none 0 0) from rfl)
    replace hF := hF.below hq2 hF.lt
    replace f0 := (hF.cell 0).trans (show _ = some (.int .i64 tu) from rfl)
    replace f1 := (hF.cell 1).trans (show _ = some (.int .i64 se) from rfl)
    replace f2 := (hF.cell 2).trans (show _ = some (.int .i64 0) from rfl)
    replace f3 := (hF.cell 3).trans (show _ = some (.slice none 0 0) from rfl)
    replace f4 := (hF.cell 4).trans (show _ = some (.slice none 0 0) from rfl)
    have fhZ0 := hZ.frozen 0
    have fhZ1 := hZ.frozen 1
    have fhZ2 := hZ.frozen 2
    have fhZ3 := hZ.frozen 3
    have fhZ4 := hZ.frozen 4
    have yhZ := hZ.lt
    have yhF := hF.lt
    go_wp2
    clear z0 z1 z2 z3 z4 f0 f1 f2 f3 f4
    replace HB : Below w.heap.size w (World.setCell (World.setCell (World.setCell (World.setCell (World.setCell w2 ⟨w.heap.size, 0, none⟩ (.int .i64 tu)) ⟨w.heap.size, 1, none⟩ (.int .i64 se)) ⟨w.heap.size, 2, none⟩ (.int .i64 0)) ⟨w.heap.size, 3, none⟩ (.slice none 0 0)) ⟨w.heap.size, 4, none⟩ (.slice none 0 0)) := (((((HB.setCell (by show w.heap.size ≤ w.heap.size; omega) (.int .i64 tu) (p := ⟨w.heap.size, 0, none⟩)).setCell (by show w.heap.size ≤ w.heap.size; omega) (.int .i64 se) (p := ⟨w.heap.size, 1, none⟩)).setCell (by show w.heap.size ≤ w.heap.size; omega) (.int .i64 0) (p := ⟨w.heap.size, 2, none⟩)).setCell (by show w.heap.size ≤ w.heap.size; omega) (.slice none 0 0) (p := ⟨w.heap.size, 3, none⟩)).setCell (by show w.heap.size ≤ w.heap.size; omega) (.slice none 0 0) (p := ⟨w.heap.size, 4, none⟩))
    replace hZ : Blk (World.setCell (World.setCell (World.setCell (World.setCell (World.setCell w2 ⟨w.heap.size, 0, none⟩ (.int .i64 tu)) ⟨w.heap.size, 1, none⟩ (.int .i64 se)) ⟨w.heap.size, 2, none⟩ (.int .i64 0)) ⟨w.heap.size, 3, none⟩ (.slice none 0 0)) ⟨w.heap.size, 4, none⟩ (.slice none 0 0)) (w.heap.size) 37 #[.int .i64 tu, .int .i64 se, .int .i64 0, .slice none 0 0, .slice none 0 0] := (((((hZ.set_ 0 (.int .i64 tu)).set_ 1 (.int .i64 se)).set_ 2 (.int .i64 0)).set_ 3 (.slice none 0 0)).set_ 4 (.slice none 0 0))
    replace hF := (((((hF.far' (p := ⟨w.heap.size, 0, none⟩) (by show _ ≠ w.heap.size; omega) (.int .i64 tu)).far' (p := ⟨w.heap.size, 1, none⟩) (by show _ ≠ w.heap.size; omega) (.int .i64 se)).far' (p := ⟨w.heap.size, 2, none⟩) (by show _ ≠ w.heap.size; omega) (.int .i64 0)).far' (p := ⟨w.heap.size, 3, none⟩) (by show _ ≠ w.heap.size; omega) (.slice none 0 0)).far' (p := ⟨w.heap.size, 4, none⟩) (by show _ ≠ w.heap.size; omega) (.slice none 0 0))
    have szW9 : ((World.setCell (World.setCell (World.setCell (World.setCell (World.setCell w2 ⟨w.heap.size, 0, none⟩ (.int .i64 tu)) ⟨w.heap.size, 1, none⟩ (.int .i64 se)) ⟨w.heap.size, 2, none⟩ (.int .i64 0)) ⟨w.heap.size, 3, none⟩ (.slice none 0 0)) ⟨w.heap.size, 4, none⟩ (.slice none 0 0))).heap.size = w2.heap.size := by simp [World.setCell]
    generalize World.setCell (World.setCell (World.setCell (World.setCell (World.setCell w2 ⟨w.heap.size, 0, none⟩ (.int .i64 tu)) ⟨w.heap.size, 1, none⟩ (.int .i64 se)) ⟨w.heap.size, 2, none⟩ (.int .i64 0)) ⟨w.heap.size, 3, none⟩ (.slice none 0 0)) ⟨w.heap.size, 4, none⟩ (.slice none 0 0) = W9 at *
    have z0 := (hZ.cell 0).trans (show _ = some (.int .i64 tu) from rfl)
    have z1 := (hZ.cell 1).trans (show _ = some (.int .i64 se) from rfl)
    have z2 := (hZ.cell 2).trans (show _ = some (.int .i64 0) from rfl)
    have z3 := (hZ.cell 3).trans (show _ = some (.slice none 0 0) from rfl)
    have z4 := (hZ.cell 4).trans (show _ = some (.slice none 0 0) from rfl)
    have f0 := (hF.cell 0).trans (show _ = some (.int .i64 tu) from rfl)
    have f1 := (hF.cell 1).trans (show _ = some (.int .i64 se) from rfl)
    have f2 := (hF.cell 2).trans (show _ = some (.int .i64 0) from rfl)
    have f3 := (hF.cell 3).trans (show _ = some (.slice none 0 0) from rfl)
    have f4 := (hF.cell 4).trans (show _ = some (.slice none 0 0) from rfl)
    refine bodyPost_ret (v := .tuple #[.agg #[.int .i64 tu, .int .i64 se, .int .i64 0, .slice none 0 0, .slice none 0 0], .bool true]) (by simp [results, Try.results64, go_sem, z0, z1, z2, z3, z4]) rfl ?_
    exact ⟨rfl, HB⟩
set_option maxHeartbeats 2000000 in
set_option maxRecDepth 100000 in
theorem sNewFloor_is (tu se : Int) (b : Bool) (hb : nfB tu se = b) (w : World) :
  Calls Try.prog 61 #[.int .i64 tu, .int .i64 se] w fun e w' => e = .returned (nfOut tu se b) ∧ Below w.heap.size w w' := by
  have HV := Lib.hid hb; clear hb
  cases b
  · go_enter Try.func61, Try.ntmps61
    go_upto_region 2 with fail
    have hq1 : Below w.heap.size w (World.alloc (World.alloc w (.cells #[.int .i64 0, .int .i64 0, .int .i64 0, .slice none 0 0, .slice none 0 0] 37)) (.cells #[.int .i64 tu, .int .i64 se, .int .i64 0, .slice none 0 0, .slice none 0 0] 37)) := bl2 w _ _
    have hZ : Blk (World.alloc (World.alloc w (.cells #[.int .i64 0, .int .i64 0, .int .i64 0, .slice none 0 0, .slice none 0 0] 37)) (.cells #[.int .i64 tu, .int .i64 se, .int .i64 0, .slice none 0 0, .slice none 0 0] 37)) (w.heap.size) 37 #[.int .i64 0, .int .i64 0, .int .i64 0, .slice none 0 0, .slice none 0 0] := by repeat (first | exact Blk.new _ _ _ | exact Blk.new2 _ _ _ _ | exact Blk.new3 _ _ _ _ _ | exact Blk.new4 _ _ _ _ _ _ | refine Blk.alloc ?_ _)
    have hF : Blk (World.alloc (World.alloc w (.cells #[.int .i64 0, .int .i64 0, .int .i64 0, .slice none 0 0, .slice none 0 0] 37)) (.cells #[.int .i64 tu, .int .i64 se, .int .i64 0, .slice none 0 0, .slice none 0 0] 37)) (w.heap.size + 1) 37 #[.int .i64 tu, .int .i64 se, .int .i64 0, .slice none 0 0, .slice none 0 0] := by repeat (first | exact Blk.new _ _ _ | exact Blk.new2 _ _ _ _ | exact Blk.new3 _ _ _ _ _ | exact Blk.new4 _ _ _ _ _ _ | refine Blk.alloc ?_ _)
    generalize World.alloc (World.alloc w (.cells #[.int .i64 0, .int .i64 0, .int .i64 0, .slice none 0 0, .slice none 0 0] 37)) (.cells #[.int .i64 tu, .int .i64 se, .int .i64 0, .slice none 0 0, .slice none 0 0] 37) = wX at *
    have HB := hq1
    have z0 := (hZ.cell 0).trans (show _ = some (.int .i64 0) from rfl)
    have z1 := (hZ.cell 1).trans (show _ = some (.int .i64 0) from rfl)
    have z2 := (hZ.cell 2).trans (show _ = some (.int .i64 0) from rfl)
    have z3 := (hZ.cell 3).trans (show _ = some (.slice none 0 0) from rfl)
    have z4 := (hZ.cell 4).trans (show _ = some (.slice none 0 0) from rfl)
    have f0 := (hF.cell 0).trans (show _ = some (.int .i64 tu) from rfl)
    have f1 := (hF.cell 1).trans (show _ = some (.int .i64 se) from rfl)
    have f2 := (hF.cell 2).trans (show _ = some (.int .i64 0) from rfl)
    have f3 := (hF.cell 3).trans (show _ = some (.slice none 0 0) from rfl)
    have f4 := (hF.cell 4).trans (show _ = some (.slice none 0 0) from rfl)
    have hz0 := hZ.lt
    have hf0 := hF.lt
    go_wp2_with fail
    refine (l8Good_is tu se 0 none [] 0 none 0 [] (by simp) (by simp) (by simp) _ HV.out _ rds_nilS rds_nilS).mono ?_
    rintro e w2 ⟨rfl, hb2⟩
    have hq2 : Below wX.heap.size wX w2 := bth (by repeat (first | exact Below.refl _ _ | refine Below.alloc ?_ (by first | exact Nat.le_refl _ | (simp <;> omega)) _ | refine Below.setCell ?_ (by first | exact Nat.le_refl _ | (simp <;> omega)) _)) hb2
    replace HB := bth HB hq2
    replace hZ := hZ.below hq2 hZ.lt
    replace z0 := (hZ.cell 0).trans (show _ = some (.int .i64 0) from rfl)
    replace z1 := (hZ.cell 1).trans (show _ = some (.int .i64 0) from rfl)
    replace z2 := (hZ.cell 2).trans (show _ = some (.int .i64 0) from rfl)
    replace z3 := (hZ.cell 3).trans (show _ = some (.slice none 0 0) from rfl)
    replace z4 := (hZ.cell 4).trans (show _ = some (.slice none 0 0) from rfl)
    replace hF := hF.below hq2 hF.lt
    replace f0 := (hF.cell 0).trans (show _ = some (.int .i64 tu) from rfl)
    replace f1 := (hF.cell 1).trans (show _ = some (.int .i64 se) from rfl)
    replace f2 := (hF.cell 2).trans (show _ = some (.int .i64 0) from rfl)
    replace f3 := (hF.cell 3).trans (show _ = some (.slice none 0 0) from rfl)
    replace f4 := (hF.cell 4).trans (show _ = some (.slice none 0 0) from rfl)
    have fhZ0 := hZ.frozen 0
    have fhZ1 := hZ.frozen 1
    have fhZ2 := hZ.frozen 2
    have fhZ3 := hZ.frozen 3
    have fhZ4 := hZ.frozen 4
    have yhZ := hZ.lt
    have yhF := hF.lt
    go_wp2
    clear z0 z1 z2 z3 z4 f0 f1 f2 f3 f4
    replace HB : Below w.heap.size w (World.setCell (World.setCell (World.setCell (World.setCell (World.setCell w2 ⟨w.heap.size, 0, none⟩ (.int .i64 0)) ⟨w.heap.size, 1, none⟩ (.int .i64 0)) ⟨w.heap.size, 2, none⟩ (.int .i64 0)) ⟨w.heap.size, 3, none⟩ (.slice none 0 0)) ⟨w.heap.size, 4, none⟩ (.slice none 0 0)) := (((((HB.setCell (by show w.heap.size ≤ w.heap.size; omega) (.int .i64 0) (p := ⟨w.heap.size, 0, none⟩)).setCell (by show w.heap.size ≤ w.heap.size; omega) (.int .i64 0) (p := ⟨w.heap.size, 1, none⟩)).setCell (by show w.heap.size ≤ w.heap.size; omega) (.int .i64 0) (p := ⟨w.heap.size, 2, none⟩)).setCell (by show w.heap.size ≤ w.heap.size; omega) (.slice none 0 0) (p := ⟨w.heap.size, 3, none⟩)).setCell (by show w.heap.size ≤ w.heap.size; omega) (.slice none 0 0) (p := ⟨w.heap.size, 4, none⟩))
    replace hZ : Blk (World.setCell (World.setCell (World.setCell (World.setCell (World.setCell w2 ⟨w.heap.size, 0, none⟩ (.int .i64 0)) ⟨w.heap.size, 1, none⟩ (.int .i64 0)) ⟨w.heap.size, 2, none⟩ (.int .i64 0)) ⟨w.heap.size, 3, none⟩ (.slice none 0 0)) ⟨w.heap.size, 4, none⟩ (.slice none 0 0)) (w.heap.size) 37 #[.int .i64 0, .int .i64 0, .int .i64 0, .slice none 0 0, .slice none 0 0] := (((((hZ.set_ 0 (.int .i64 0)).set_ 1 (.int .i64 0)).set_ 2 (.int .i64 0)).set_ 3 (.slice none 0 0)).set_ 4 (.slice none 0 0))
    replace hF := (((((hF.far' (p := ⟨w.heap.size, 0, none⟩) (by show _ ≠ w.heap.size; omega) (.int .i64 0)).far' (p := ⟨w.heap.size, 1, none⟩) (by show _ ≠ w.heap.size; omega) (.int .i64 0)).far' (p := ⟨w.heap.size, 2, none⟩) (by show _ ≠ w.heap.size; omega) (.int .i64 0)).far' (p := ⟨w.heap.size, 3, none⟩) (by show _ ≠ w.heap.size; omega) (.slice none 0 0)).far' (p := ⟨w.heap.size, 4, none⟩) (by show _ ≠ w.heap.size; omega) (.slice none 0 0))
    have szW9 : ((World.setCell (World.setCell (World.setCell (World.setCell (World.setCell w2 ⟨w.heap.size, 0, none⟩ (.int .i64 0)) ⟨w.heap.size, 1, none⟩ (.int .i64 0)) ⟨w.heap.size, 2, none⟩ (.int .i64 0)) ⟨w.heap.size, 3, none⟩ (.slice none 0 0)) ⟨w.heap.size, 4, none⟩ (.slice none 0 0))).heap.size = w2.heap.size := by simp [World.setCell]
    generalize World.setCell (World.setCell (World.setCell (World.setCell (World.setCell w2 ⟨w.heap.size, 0, none⟩ (.int .i64 0)) ⟨w.heap.size, 1, none⟩ (.int .i64 0)) ⟨w.heap.size, 2, none⟩ (.int .i64 0)) ⟨w.heap.size, 3, none⟩ (.slice none 0 0)) ⟨w.heap.size, 4, none⟩ (.slice none 0 0) = W9 at *
    have z0 := (hZ.cell 0).trans (show _ = some (.int .i64 0) from rfl)
    have z1 := (hZ.cell 1).trans (show _ = some (.int .i64 0) from rfl)
    have z2 := (hZ.cell 2).trans (show _ = some (.int .i64 0) from rfl)
    have z3 := (hZ.cell 3).trans (show _ = some (.slice none 0 0) from rfl)
    have z4 := (hZ.cell 4).trans (show _ = some (.slice none 0 0) from rfl)
    have f0 := (hF.cell 0).trans (show _ = some (.int .i64 tu) from rfl)
    have f1 := (hF.cell 1).trans (show _ = some (.int .i64 se) from rfl)
    have f2 := (hF.cell 2).trans (show _ = some (.int .i64 0) from rfl)
    have f3 := (hF.cell 3).trans (show _ = some (.slice none 0 0) from rfl)
    have f4 := (hF.cell 4).trans (show _ = some (.slice none 0 0) from rfl)
    refine bodyPost_ret (v := .tuple #[.agg #[.int .i64 0, .int .i64 0, .int .i64 0, .slice none 0 0, .slice none 0 0], .bool false]) (by simp [results, Try.results61, go_sem, z0, z1, z2, z3, z4]) rfl ?_
    exact ⟨rfl, HB⟩
  · go_enter Try.func61, Try.ntmps61
    go_upto_region 2 with fail
    have hq1 : Below w.heap.size w (World.alloc (World.alloc w (.cells #[.int .i64 0, .int .i64 0, .int .i64 0, .slice none 0 0, .slice none 0 0] 37)) (.cells #[.int .i64 tu, .int .i64 se, .int .i64 0, .slice none 0 0, .slice none 0 0] 37)) := bl2 w _ _
    have hZ : Blk (World.alloc (World.alloc w (.cells #[.int .i64 0, .int .i64 0, .int .i64 0, .slice none 0 0, .slice none 0 0] 37)) (.cells #[.int .i64 tu, .int .i64 se, .int .i64 0, .slice none 0 0, .slice none 0 0] 37)) (w.heap.size) 37 #[.int .i64 0, .int .i64 0, .int .i64 0, .slice none 0 0, .slice none 0 0] := by repeat (first | exact Blk.new _ _ _ | exact Blk.new2 _ _ _ _ | exact Blk.new3 _ _ _ _ _ | exact Blk.new4 _ _ _ _ _ _ | refine Blk.alloc ?_ _)
    have hF : Blk (World.alloc (World.alloc w (.cells #[.int .i64 0, .int .i64 0, .int .i64 0, .slice none 0 0, .slice none 0 0] 37)) (.cells #[.int .i64 tu, .int .i64 se, .int .i64 0, .slice none 0 0, .slice none 0 0] 37)) (w.heap.size + 1) 37 #[.int .i64 tu, .int .i64 se, .int .i64 0, .slice none 0 0, .slice none 0 0] := by repeat (first | exact Blk.new _ _ _ | exact Blk.new2 _ _ _ _ | exact Blk.new3 _ _ _ _ _ | exact Blk.new4 _ _ _ _ _ _ | refine Blk.alloc ?_ _)
    generalize World.alloc (World.alloc w (.cells #[.int .i64 0, .int .i64 0, .int .i64 0, .slice none 0 0, .slice none 0 0] 37)) (.cells #[.int .i64 tu, .int .i64 se, .int .i64 0, .slice none 0 0, .slice none 0 0] 37) = wX at *
    have HB := hq1
    have z0 := (hZ.cell 0).trans (show _ = some (.int .i64 0) from rfl)
    have z1 := (hZ.cell 1).trans (show _ = some (.int .i64 0) from rfl)
    have z2 := (hZ.cell 2).trans (show _ = some (.int .i64 0) from rfl)
    have z3 := (hZ.cell 3).trans (show _ = some (.slice none 0 0) from rfl)
    have z4 := (hZ.cell 4).trans (show _ = some (.slice none 0 0) from rfl)
    have f0 := (hF.cell 0).trans (show _ = some (.int .i64 tu) from rfl)
    have f1 := (hF.cell 1).trans (show _ = some (.int .i64 se) from rfl)
    have f2 := (hF.cell 2).trans (show _ = some (.int .i64 0) from rfl)
    have f3 := (hF.cell 3).trans (show _ = some (.slice none 0 0) from rfl)
    have f4 := (hF.cell 4).trans (show _ = some (.slice none 0 0) from rfl)
    have hz0 := hZ.lt
    have hf0 := hF.lt
    go_wp2_with fail
    refine (l8Good_is tu se 0 none [] 0 none 0 [] (by simp) (by simp) (by simp) _ HV.out _ rds_nilS rds_nilS).mono ?_
    rintro e w2 ⟨rfl, hb2⟩
    have hq2 : Below wX.heap.size wX w2 := bth (by repeat (first | exact Below.refl _ _ | refine Below.alloc ?_ (by first | exact Nat.le_refl _ | (simp <;> omega)) _ | refine Below.setCell ?_ (by first | exact Nat.le_refl _ | (simp <;> omega)) _)) hb2
    replace HB := bth HB hq2
    replace hZ := hZ.below hq2 hZ.lt
    replace z0 := (hZ.cell 0).trans (show _ = some (.int .i64 0) from rfl)
    replace z1 := (hZ.cell 1).trans (show _ = some (.int .i64 0) from rfl)
    replace z2 := (hZ.cell 2).trans (show _ = some (.int .i64 0) from rfl)
    replace z3 := (hZ.cell 3).trans (show _ = some (.slice none 0 0) from rfl)
    replace z4 := (hZ.cell 4).trans (show _ = some (.slice none 0 0) from rfl)
    replace hF := hF.below hq2 hF.lt
    replace f0 := (hF.cell 0).trans (show _ = some (.int .i64 tu) from rfl)
    replace f1 := (hF.cell 1).trans (show _ = some (.int .i64 se) from rfl)
    replace f2 := (hF.cell 2).trans (show _ = some (.int .i64 0) from rfl)
    replace f3 := (hF.cell 3).trans (show _ = some (.slice none 0 0) from rfl)
    replace f4 := (hF.cell 4).trans (show _ = some (.slice none 0 0) from rfl)
    have fhZ0 := hZ.frozen 0
    have fhZ1 := hZ.frozen 1
    have fhZ2 := hZ.frozen 2
    have fhZ3 := hZ.frozen 3
    have fhZ4 := hZ.frozen 4
    have yhZ := hZ.lt
    have yhF := hF.lt
    go_wp2
    clear z0 z1 z2 z3 z4 f0 f1 f2 f3 f4
    replace HB : Below w.heap.size w (World.setCell (World.setCell (World.setCell (World.setCell (World.setCell w2 ⟨w.heap.size, 0, none⟩ (.int .i64 tu)) ⟨w.heap.size, 1, none⟩ (.int .i64 se)) ⟨w.heap.size, 2, none⟩ (.int .i64 0)) ⟨w.heap.size, 3, none⟩ (.slice none 0 0)) ⟨w.heap.size, 4, none⟩ (.slice none 0 0)) := (((((HB.setCell (by show w.heap.size ≤ w.heap.size; omega) (.int .i64 tu) (p := ⟨w.heap.size, 0, none⟩)).setCell (by show w.heap.size ≤ w.heap.size; omega) (.int .i64 se) (p := ⟨w.heap.size, 1, none⟩)).setCell (by show w.heap.size ≤ w.heap.size; omega) (.int .i64 0) (p := ⟨w.heap.size, 2, none⟩)).setCell (by show w.heap.size ≤ w.heap.size; omega) (.slice none 0 0) (p := ⟨w.heap.size, 3, none⟩)).setCell (by show w.heap.size ≤ w.heap.size; omega) (.slice none 0 0) (p := ⟨w.heap.size, 4, none⟩))
    replace hZ : Blk (World.setCell (World.setCell (World.setCell (World.setCell (World.setCell w2 ⟨w.heap.size, 0, none⟩ (.int .i64 tu)) ⟨w.heap.size, 1, none⟩ (.int .i64 se)) ⟨w.heap.size, 2, none⟩ (.int .i64 0)) ⟨w.heap.size, 3, none⟩ (.slice none 0 0)) ⟨w.heap.size, 4, none⟩ (.slice none 0 0)) (w.heap.size) 37 #[.int .i64 tu, .int .i64 se, .int .i64 0, .slice none 0 0, .slice none 0 0] := (((((hZ.set_ 0 (.int .i64 tu)).set_ 1 (.int .i64 se)).set_ 2 (.int .i64 0)).set_ 3 (.slice none 0 0)).set_ 4 (.slice none 0 0))
    replace hF := (((((hF.far' (p := ⟨w.heap.size, 0, none⟩) (by show _ ≠ w.heap.size; omega) (.int .i64 tu)).far' (p := ⟨w.heap.size, 1, none⟩) (by show _ ≠ w.heap.size; omega) (.int .i64 se)).far' (p := ⟨w.heap.size, 2, none⟩) (by show _ ≠ w.heap.size; omega) (.int .i64 0)).far' (p := ⟨w.heap.size, 3, none⟩) (by show _ ≠ w.heap.size; omega) (.slice none 0 0)).far' (p := ⟨w.heap.size, 4, none⟩) (by show _ ≠ w.heap.size; omega) (.slice none 0 0))
    have szW9 : ((World.setCell (World.setCell (World.setCell (World.setCell (World.setCell w2 ⟨w.heap.size, 0, none⟩ (.int .i64 tu)) ⟨w.heap.size, 1, none⟩ (.int .i64 se)) ⟨w.heap.size, 2, none⟩ (.int .i64 0)) ⟨w.heap.size, 3, none⟩ (.slice none 0 0)) ⟨w.heap.size, 4, none⟩ (.slice none 0 0))).heap.size = w2.heap.size := by simp [World.setCell]
    generalize World.setCell (World.setCell (World.setCell (World.setCell (World.setCell w2 ⟨w.heap.size, 0, none⟩ (.int .i64 tu)) ⟨w.heap.size, 1, none⟩ (.int .i64 se)) ⟨w.heap.size, 2, none⟩ (.int .i64 0)) ⟨w.heap.size, 3, none⟩ (.slice none 0 0)) ⟨w.heap.size, 4, none⟩ (.slice none 0 0) = W9 at *
    have z0 := (hZ.cell 0).trans (show _ = some (.int .i64 tu) from rfl)
    have z1 := (hZ.cell 1).trans (show _ = some (.int .i64 se) from rfl)
    have z2 := (hZ.cell 2).trans (show _ = some (.int .i64 0) from rfl)
    have z3 := (hZ.cell 3).trans (show _ = some (.slice none 0 0) from rfl)
    have z4 := (hZ.cell 4).trans (show _ = some (.slice none 0 0) from rfl)
    have f0 := (hF.cell 0).trans (show _ = some (.int .i64 tu) from rfl)
    have f1 := (hF.cell 1).trans (show _ = some (.int .i64 se) from rfl)
    have f2 := (hF.cell 2).trans (show _ = some (.int .i64 0) from rfl)
    have f3 := (hF.cell 3).trans (show _ = some (.slice none 0 0) from rfl)
    have f4 := (hF.cell 4).trans (show _ = some (.slice none 0 0) from rfl)
    refine bodyPost_ret (v := .tuple #[.agg #[.int .i64 tu, .int .i64 se, .int .i64 0, .slice none 0 0, .slice none 0 0], .bool true]) (by simp [results, Try.results61, go_sem, z0, z1, z2, z3, z4]) rfl ?_
    exact ⟨rfl, HB⟩
theorem iNewFloorT_is (tu se : Int) (hb : nfB tu se = true) (w : World) : Calls Try.prog 64 #[.int .i64 tu, .int .i64 se] w fun e w' => e = .returned (.tuple #[.agg #[.int .i64 tu, .int .i64 se, .int .i64 0, .slice none 0 0, .slice none 0 0], .bool true]) ∧ Below w.heap.size w w' := iNewFloor_is tu se true hb w
theorem iNewFloorF_is (tu se : Int) (hb : nfB tu se = false) (w : World) : Calls Try.prog 64 #[.int .i64 tu, .int .i64 se] w fun e w' => e = .returned (.tuple #[.agg #[.int .i64 0, .int .i64 0, .int .i64 0, .slice none 0 0, .slice none 0 0], .bool false]) ∧ Below w.heap.size w w' := iNewFloor_is tu se false hb w
theorem sNewFloorT_is (tu se : Int) (hb : nfB tu se = true) (w : World) : Calls Try.prog 61 #[.int .i64 tu, .int .i64 se] w fun e w' => e = .returned (.tuple #[.agg #[.int .i64 tu, .int .i64 se, .int .i64 0, .slice none 0 0, .slice none 0 0], .bool true]) ∧ Below w.heap.size w w' := sNewFloor_is tu se true hb w
theorem sNewFloorF_is (tu se : Int) (hb : nfB tu se = false) (w : World) : Calls Try.prog 61 #[.int .i64 tu, .int .i64 se] w fun e w' => e = .returned (.tuple #[.agg #[.int .i64 0, .int .i64 0, .int .i64 0, .slice none 0 0, .slice none 0 0], .bool false]) ∧ Below w.heap.size w w' := sNewFloor_is tu se false hb w
end Go.Proofs.Ytkkdegmfmimdgaa
