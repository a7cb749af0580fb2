/- The law of ParseNotice: the program's answer is the reference's, for every text: the walk. -/
import Derived.Test.YtbnncgahepcfnaaDoorPnS
import Derived.Deep.Cut
namespace Go.Proofs.YtbnncgahepcfnaaDoor
open Go.RowKit Go.G9
set_option maxHeartbeats 4000000 in
set_option maxRecDepth 100000 in
theorem law_parseNotice (s : ByteArray) (hsz : s.size ≤ maxLen) (w : World) (HT : Tab w) (HE : Esy w) (HM : Mxl w) : Calls Tryd.prog 7 #[.string s] w fun e w' => e = .returned (.bool true) ∧ Below w.heap.size w w' := by
  by_cases hs : s.size ≤ 1048576
  case neg =>
    unfold maxLen at hsz
    go_enter Tryd.func7, Tryd.ntmps7
    go_wp2
    go_ret
    exact ⟨rfl, Below.refl _ _⟩
  obtain ⟨a, t, g, d, b, hv⟩ := pnV_form s
  have HS := Lib.hid (fun W => hv ▸ sParseNotice_is s hs W)
  have HI := Lib.hid (fun W hT hE hM => hv ▸ iParseNotice_is s hs W hT hE hM)
  clear hv
  go_enter Tryd.func7, Tryd.ntmps7
  go_wp2_with fail
  refine (HS.out _).mono ?_
  rintro e w1 ⟨rfl, hb1⟩
  have hq1 : Below w.heap.size w w1 := bth (by repeat (first | exact Below.refl _ _ | refine Below.alloc ?_ (by first | exact Nat.le_refl _ | (simp <;> omega)) _ | refine Below.setCell ?_ (by first | exact Nat.le_refl _ | (simp <;> omega)) _)) hb1
  have HB : Below w.heap.size w w1 := hq1
  replace HT := HT.below hq1
  replace HE := HE.below hq1
  replace HM := HM.below hq1
  go_wp2_with fail
  refine (HI.out _ (HT.below (by repeat (first | exact Below.refl _ _ | refine Below.alloc ?_ (by first | exact Nat.le_refl _ | (simp <;> omega)) _ | refine Below.setCell ?_ (by first | exact Nat.le_refl _ | (simp <;> omega)) _))) (HE.below (by repeat (first | exact Below.refl _ _ | refine Below.alloc ?_ (by first | exact Nat.le_refl _ | (simp <;> omega)) _ | refine Below.setCell ?_ (by first | exact Nat.le_refl _ | (simp <;> omega)) _))) (HM.below (by repeat (first | exact Below.refl _ _ | refine Below.alloc ?_ (by first | exact Nat.le_refl _ | (simp <;> omega)) _ | refine Below.setCell ?_ (by first | exact Nat.le_refl _ | (simp <;> omega)) _)))).mono ?_
  rintro e w2 ⟨rfl, hb2⟩
  have hq2 : Below w1.heap.size w1 w2 := bth (by repeat (first | exact Below.refl _ _ | refine Below.alloc ?_ (by first | exact Nat.le_refl _ | (simp <;> omega)) _ | refine Below.setCell ?_ (by first | exact Nat.le_refl _ | (simp <;> omega)) _)) hb2
  replace HB := bth HB hq2
  replace HT := HT.below hq2
  replace HE := HE.below hq2
  replace HM := HM.below hq2
  have hW : Blk w2 (w1.heap.size) 55 #[.int .i64 a, .string t, .int .i64 g, .int .i64 d] := Blk.below (by repeat (first | exact Blk.new _ _ _ | exact Blk.new2 _ _ _ _ | exact Blk.new3 _ _ _ _ _ | exact Blk.new4 _ _ _ _ _ _ | refine Blk.alloc ?_ _)) hb2 (by simp <;> omega)
  have x0 := (hW.cell 0).trans (show _ = some (.int .i64 a) from rfl)
  have x1 := (hW.cell 1).trans (show _ = some (.string t) from rfl)
  have x2 := (hW.cell 2).trans (show _ = some (.int .i64 g) from rfl)
  have x3 := (hW.cell 3).trans (show _ = some (.int .i64 d) from rfl)
  have y := hW.lt
  go_wp2_with fail
  refine (eqNotice_is a g d t _).mono ?_
  rintro e w3 ⟨rfl, hb3⟩
  have hq3 : Below w2.heap.size w2 w3 := bth (by repeat (first | exact Below.refl _ _ | refine Below.alloc ?_ (by first | exact Nat.le_refl _ | (simp <;> omega)) _ | refine Below.setCell ?_ (by first | exact Nat.le_refl _ | (simp <;> omega)) _)) hb3
  replace HB := bth HB hq3
  replace HT := HT.below hq3
  replace HE := HE.below hq3
  replace HM := HM.below hq3
  replace hW := hW.below hq3 hW.lt
  replace x0 := (hW.cell 0).trans (show _ = some (.int .i64 a) from rfl)
  replace x1 := (hW.cell 1).trans (show _ = some (.string t) from rfl)
  replace x2 := (hW.cell 2).trans (show _ = some (.int .i64 g) from rfl)
  replace x3 := (hW.cell 3).trans (show _ = some (.int .i64 d) from rfl)
  cases b
  all_goals go_wp2
  all_goals go_ret
  all_goals exact ⟨rfl, HB⟩
end Go.Proofs.YtbnncgahepcfnaaDoor
