/- The law of ParseOutcome: the program's answer is the reference's, for every text: the walk. -/
import Derived.Test.YtbnncgahepcfnaaDoorPoS
import Derived.Deep.Cut
namespace Go.Proofs.YtbnncgahepcfnaaDoor
open Go.RowKit Go.G9
set_option maxHeartbeats 4000000 in
set_option maxRecDepth 100000 in
theorem sParseOutcome_is (s : ByteArray) (hs : s.size ≤ 1048576) (w : World) : Calls Tryd.prog 36 #[.string s] w fun e w' => e = .returned (resV (poO s)) ∧ Below w.heap.size w w' := by
  obtain ⟨m, nd, y, n, a, b, hv⟩ := resV_form (poO s)
  have HS := Lib.hid (fun W => hv ▸ l26Parse_is s hs W)
  rw [hv]
  clear hv
  go_enter Tryd.func36, Tryd.ntmps36
  go_upto_region 1 with fail
  have hq1 : Below w.heap.size w (World.alloc w (.cells #[.string ⟨#[]⟩, .int .i64 0, .int .i64 0, .int .i64 0, .int .i64 0] 31)) := bl1 w _
  have hZ : Blk (World.alloc w (.cells #[.string ⟨#[]⟩, .int .i64 0, .int .i64 0, .int .i64 0, .int .i64 0] 31)) (w.heap.size) 31 #[.string ⟨#[]⟩, .int .i64 0, .int .i64 0, .int .i64 0, .int .i64 0] := by repeat (first | exact Blk.new _ _ _ | exact Blk.new2 _ _ _ _ | exact Blk.new3 _ _ _ _ _ | exact Blk.new4 _ _ _ _ _ _ | refine Blk.alloc ?_ _)
  generalize World.alloc w (.cells #[.string ⟨#[]⟩, .int .i64 0, .int .i64 0, .int .i64 0, .int .i64 0] 31) = wX at *
  have HB := hq1
  have z0 := (hZ.cell 0).trans (show _ = some (.string ⟨#[]⟩) from rfl)
  have z1 := (hZ.cell 1).trans (show _ = some (.int .i64 0) from rfl)
  have z2 := (hZ.cell 2).trans (show _ = some (.int .i64 0) from rfl)
  have z3 := (hZ.cell 3).trans (show _ = some (.int .i64 0) from rfl)
  have z4 := (hZ.cell 4).trans (show _ = some (.int .i64 0) from rfl)
  have hz0 := hZ.lt
  go_wp2_with fail
  refine (HS.out _).mono ?_
  rintro e w2 ⟨rfl, hb2⟩
  have hq2 : Below wX.heap.size wX w2 := bth (by repeat (first | exact Below.refl _ _ | refine Below.alloc ?_ (by first | exact Nat.le_refl _ | (simp <;> omega)) _ | refine Below.setCell ?_ (by first | exact Nat.le_refl _ | (simp <;> omega)) _)) hb2
  replace HB := bth HB hq2
  replace hZ := hZ.below hq2 hZ.lt
  replace z0 := (hZ.cell 0).trans (show _ = some (.string ⟨#[]⟩) from rfl)
  replace z1 := (hZ.cell 1).trans (show _ = some (.int .i64 0) from rfl)
  replace z2 := (hZ.cell 2).trans (show _ = some (.int .i64 0) from rfl)
  replace z3 := (hZ.cell 3).trans (show _ = some (.int .i64 0) from rfl)
  replace z4 := (hZ.cell 4).trans (show _ = some (.int .i64 0) from rfl)
  have fhZ0 := hZ.frozen 0
  have fhZ1 := hZ.frozen 1
  have fhZ2 := hZ.frozen 2
  have fhZ3 := hZ.frozen 3
  have fhZ4 := hZ.frozen 4
  have yhZ := hZ.lt
  go_wp2
  clear z0 z1 z2 z3 z4
  replace HB : Below w.heap.size w (World.setCell (World.setCell (World.setCell (World.setCell (World.setCell w2 ⟨w.heap.size, 0, none⟩ (.string m)) ⟨w.heap.size, 1, none⟩ (.int .i64 nd)) ⟨w.heap.size, 2, none⟩ (.int .i64 y)) ⟨w.heap.size, 3, none⟩ (.int .i64 n)) ⟨w.heap.size, 4, none⟩ (.int .i64 a)) := (((((HB.setCell (by show w.heap.size ≤ w.heap.size; omega) (.string m) (p := ⟨w.heap.size, 0, none⟩)).setCell (by show w.heap.size ≤ w.heap.size; omega) (.int .i64 nd) (p := ⟨w.heap.size, 1, none⟩)).setCell (by show w.heap.size ≤ w.heap.size; omega) (.int .i64 y) (p := ⟨w.heap.size, 2, none⟩)).setCell (by show w.heap.size ≤ w.heap.size; omega) (.int .i64 n) (p := ⟨w.heap.size, 3, none⟩)).setCell (by show w.heap.size ≤ w.heap.size; omega) (.int .i64 a) (p := ⟨w.heap.size, 4, none⟩))
  replace hZ : Blk (World.setCell (World.setCell (World.setCell (World.setCell (World.setCell w2 ⟨w.heap.size, 0, none⟩ (.string m)) ⟨w.heap.size, 1, none⟩ (.int .i64 nd)) ⟨w.heap.size, 2, none⟩ (.int .i64 y)) ⟨w.heap.size, 3, none⟩ (.int .i64 n)) ⟨w.heap.size, 4, none⟩ (.int .i64 a)) (w.heap.size) 31 #[.string m, .int .i64 nd, .int .i64 y, .int .i64 n, .int .i64 a] := (((((hZ.set_ 0 (.string m)).set_ 1 (.int .i64 nd)).set_ 2 (.int .i64 y)).set_ 3 (.int .i64 n)).set_ 4 (.int .i64 a))
  have szW9 : ((World.setCell (World.setCell (World.setCell (World.setCell (World.setCell w2 ⟨w.heap.size, 0, none⟩ (.string m)) ⟨w.heap.size, 1, none⟩ (.int .i64 nd)) ⟨w.heap.size, 2, none⟩ (.int .i64 y)) ⟨w.heap.size, 3, none⟩ (.int .i64 n)) ⟨w.heap.size, 4, none⟩ (.int .i64 a))).heap.size = w2.heap.size := by simp [World.setCell]
  generalize World.setCell (World.setCell (World.setCell (World.setCell (World.setCell w2 ⟨w.heap.size, 0, none⟩ (.string m)) ⟨w.heap.size, 1, none⟩ (.int .i64 nd)) ⟨w.heap.size, 2, none⟩ (.int .i64 y)) ⟨w.heap.size, 3, none⟩ (.int .i64 n)) ⟨w.heap.size, 4, none⟩ (.int .i64 a) = W9 at *
  have z0 := (hZ.cell 0).trans (show _ = some (.string m) from rfl)
  have z1 := (hZ.cell 1).trans (show _ = some (.int .i64 nd) from rfl)
  have z2 := (hZ.cell 2).trans (show _ = some (.int .i64 y) from rfl)
  have z3 := (hZ.cell 3).trans (show _ = some (.int .i64 n) from rfl)
  have z4 := (hZ.cell 4).trans (show _ = some (.int .i64 a) from rfl)
  refine bodyPost_ret (v := .tuple #[.agg #[.string m, .int .i64 nd, .int .i64 y, .int .i64 n, .int .i64 a], .bool b]) (by simp [results, Tryd.results36, go_sem, z0, z1, z2, z3, z4]) rfl ?_
  exact ⟨rfl, HB⟩
set_option maxHeartbeats 4000000 in
set_option maxRecDepth 100000 in
theorem law_parseOutcome (s : ByteArray) (hsz : s.size ≤ maxLen) (w : World) (HT : Tab w) (HE : Esy w) (HM : Mxl w) (HP : Phz w) : Calls Tryd.prog 8 #[.string s] w fun e w' => e = .returned (.bool true) ∧ Below w.heap.size w w' := by
  by_cases hs : s.size ≤ 1048576
  case neg =>
    unfold maxLen at hsz
    go_enter Tryd.func8, Tryd.ntmps8
    go_wp2
    go_ret
    exact ⟨rfl, Below.refl _ _⟩
  obtain ⟨m, nd, y, n, a, b, hv⟩ := resV_form (poO s)
  have HS := Lib.hid (fun W => hv ▸ sParseOutcome_is s hs W)
  have HI := Lib.hid (fun W hT hE hM hP => hv ▸ iParseOutcome_is s hs W hT hE hM hP)
  clear hv
  go_enter Tryd.func8, Tryd.ntmps8
  go_wp2_with fail
  refine (HS.out _).mono ?_
  rintro e w1 ⟨rfl, hb1⟩
  have hq1 : Below w.heap.size w w1 := bth (by repeat (first | exact Below.refl _ _ | refine Below.alloc ?_ (by first | exact Nat.le_refl _ | (simp <;> omega)) _ | refine Below.setCell ?_ (by first | exact Nat.le_refl _ | (simp <;> omega)) _)) hb1
  have HB : Below w.heap.size w w1 := hq1
  replace HT := HT.below hq1
  replace HE := HE.below hq1
  replace HM := HM.below hq1
  replace HP := HP.below hq1
  go_wp2_with fail
  refine (HI.out _ (HT.below (by repeat (first | exact Below.refl _ _ | refine Below.alloc ?_ (by first | exact Nat.le_refl _ | (simp <;> omega)) _ | refine Below.setCell ?_ (by first | exact Nat.le_refl _ | (simp <;> omega)) _))) (HE.below (by repeat (first | exact Below.refl _ _ | refine Below.alloc ?_ (by first | exact Nat.le_refl _ | (simp <;> omega)) _ | refine Below.setCell ?_ (by first | exact Nat.le_refl _ | (simp <;> omega)) _))) (HM.below (by repeat (first | exact Below.refl _ _ | refine Below.alloc ?_ (by first | exact Nat.le_refl _ | (simp <;> omega)) _ | refine Below.setCell ?_ (by first | exact Nat.le_refl _ | (simp <;> omega)) _))) (HP.below (by repeat (first | exact Below.refl _ _ | refine Below.alloc ?_ (by first | exact Nat.le_refl _ | (simp <;> omega)) _ | refine Below.setCell ?_ (by first | exact Nat.le_refl _ | (simp <;> omega)) _)))).mono ?_
  rintro e w2 ⟨rfl, hb2⟩
  have hq2 : Below w1.heap.size w1 w2 := bth (by repeat (first | exact Below.refl _ _ | refine Below.alloc ?_ (by first | exact Nat.le_refl _ | (simp <;> omega)) _ | refine Below.setCell ?_ (by first | exact Nat.le_refl _ | (simp <;> omega)) _)) hb2
  replace HB := bth HB hq2
  replace HT := HT.below hq2
  replace HE := HE.below hq2
  replace HM := HM.below hq2
  replace HP := HP.below hq2
  have hW : Blk w2 (w1.heap.size) 31 #[.string m, .int .i64 nd, .int .i64 y, .int .i64 n, .int .i64 a] := Blk.below (by repeat (first | exact Blk.new _ _ _ | exact Blk.new2 _ _ _ _ | exact Blk.new3 _ _ _ _ _ | exact Blk.new4 _ _ _ _ _ _ | refine Blk.alloc ?_ _)) hb2 (by simp <;> omega)
  have x0 := (hW.cell 0).trans (show _ = some (.string m) from rfl)
  have x1 := (hW.cell 1).trans (show _ = some (.int .i64 nd) from rfl)
  have x2 := (hW.cell 2).trans (show _ = some (.int .i64 y) from rfl)
  have x3 := (hW.cell 3).trans (show _ = some (.int .i64 n) from rfl)
  have x4 := (hW.cell 4).trans (show _ = some (.int .i64 a) from rfl)
  have hwl := hW.lt
  go_wp2_with fail
  refine (eqMotionResult_is m nd y n a _).mono ?_
  rintro e w3 ⟨rfl, hb3⟩
  have hq3 : Below w2.heap.size w2 w3 := bth (by repeat (first | exact Below.refl _ _ | refine Below.alloc ?_ (by first | exact Nat.le_refl _ | (simp <;> omega)) _ | refine Below.setCell ?_ (by first | exact Nat.le_refl _ | (simp <;> omega)) _)) hb3
  replace HB := bth HB hq3
  replace HT := HT.below hq3
  replace HE := HE.below hq3
  replace HM := HM.below hq3
  replace HP := HP.below hq3
  replace hW := hW.below hq3 hW.lt
  replace x0 := (hW.cell 0).trans (show _ = some (.string m) from rfl)
  replace x1 := (hW.cell 1).trans (show _ = some (.int .i64 nd) from rfl)
  replace x2 := (hW.cell 2).trans (show _ = some (.int .i64 y) from rfl)
  replace x3 := (hW.cell 3).trans (show _ = some (.int .i64 n) from rfl)
  replace x4 := (hW.cell 4).trans (show _ = some (.int .i64 a) from rfl)
  cases b
  all_goals go_wp2
  all_goals go_ret
  all_goals exact ⟨rfl, HB⟩
end Go.Proofs.YtbnncgahepcfnaaDoor
