/- Notices drawn by the cursor. -/
import Derived.Test.YtbnncgahepcfnaaGreatDoorNo17
import Derived.Test.YtbnncgahepcfnaaGreatDoorNo16
import Derived.Test.YtbnncgahepcfnaaGreatDoorNo7
import Derived.Test.YtbnncgahepcfnaaGreatDoorNo18
namespace Go.Proofs.YtbnncgahepcfnaaGreatDoor
open Go.RowKit Go.G9
set_option maxHeartbeats 4000000 in
set_option maxRecDepth 100000 in
theorem notice_is (id : Int) (p : Nat) (A : Option Addr) (c : Nat) (cs : List UInt8) (hcs : cs.length ≤ 1048576) (N : Nat) (hN : N ≤ 700000) (w : World) (hC : Cur w p A c cs N) :
  Calls Tryz.prog 58 #[.pointer (some ⟨p, 0, none⟩), .int .i64 id] w fun e w' => ∃ (i : Int) (t : ByteArray) (g d : Int), e = .returned (.agg #[.int .i64 i, .string t, .int .i64 g, .int .i64 d]) ∧ t.size ≤ 12 ∧ Stepped w w' p A c cs (N + 20) := by
  go_enter Tryz.func58, Tryz.ntmps58
  have hp := hC.lt
  have HG := grown_refl w (some p)
  go_upto_region 1 with fail
  have hb1 : Below w.heap.size w (World.alloc w (.cells #[.int .i64 0, .string ⟨#[]⟩, .int .i64 0, .int .i64 0] 42)) := bl1 w _
  have hZ : Blk (World.alloc w (.cells #[.int .i64 0, .string ⟨#[]⟩, .int .i64 0, .int .i64 0] 42)) (w.heap.size) 42 #[.int .i64 0, .string ⟨#[]⟩, .int .i64 0, .int .i64 0] := by repeat (first | exact Blk.new _ _ _ | exact Blk.new2 _ _ _ _ | exact Blk.new3 _ _ _ _ _ | exact Blk.new4 _ _ _ _ _ _ | refine Blk.alloc ?_ _)
  generalize World.alloc w (.cells #[.int .i64 0, .string ⟨#[]⟩, .int .i64 0, .int .i64 0] 42) = w1 at *
  replace hC := hC.later hb1
  replace HG := grown_tr HG (below_grown hb1 (some p))
  have sz1 := hb1.size
  have LhZ := hZ.lt
  have z0 := (hZ.cell 0).trans (show _ = some (.int .i64 0) from rfl)
  have z1 := (hZ.cell 1).trans (show _ = some (.string ⟨#[]⟩) from rfl)
  have z2 := (hZ.cell 2).trans (show _ = some (.int .i64 0) from rfl)
  have z3 := (hZ.cell 3).trans (show _ = some (.int .i64 0) from rfl)
  go_wp2_with fail
  refine (word_is p A c cs hcs N (by omega) _ (hC.later (by repeat (first | exact Below.refl _ _ | refine Below.alloc ?_ (by first | exact Nat.le_refl _ | (simp <;> omega)) _ | refine Below.setCell ?_ (by first | exact Nat.le_refl _ | (simp <;> omega)) _)))).mono ?_
  rintro e w2 ⟨t, rfl, ht, hS2⟩
  clear z0 z1 z2 z3
  have hg2 : w1.grownBy w2 (some p) := grown_tr (below_grown (by repeat (first | exact Below.refl _ _ | refine Below.alloc ?_ (by first | exact Nat.le_refl _ | (simp <;> omega)) _ | refine Below.setCell ?_ (by first | exact Nat.le_refl _ | (simp <;> omega)) _)) _) hS2.2
  replace hC := hS2.1
  have sz2 := hg2.size
  replace HG := grown_tr HG hg2
  replace hZ := hZ.grownB hg2 (by omega)
  have z0 := (hZ.cell 0).trans (show _ = some (.int .i64 0) from rfl)
  have z1 := (hZ.cell 1).trans (show _ = some (.string ⟨#[]⟩) from rfl)
  have z2 := (hZ.cell 2).trans (show _ = some (.int .i64 0) from rfl)
  have z3 := (hZ.cell 3).trans (show _ = some (.int .i64 0) from rfl)
  have hL1 := built_rdsQ w2 [0, 5, 30, 100, 3640, 3650] (by simp [maxLen])
  simp only [List.flatMap_cons, List.flatMap_nil, intC, List.append_nil, List.singleton_append] at hL1
  have HL1 := Lib.hid hL1; clear hL1
  go_wp2_with fail
  refine (among_is (some ⟨w2.heap.size, 0, none⟩) _ [0, 5, 30, 100, 3640, 3650] (by simp) (by simp) p A c cs hcs (N + 2) (by omega) _ (hC.later (by repeat (first | exact Below.refl _ _ | refine Below.alloc ?_ (by first | exact Nat.le_refl _ | (simp <;> omega)) _ | refine Below.setCell ?_ (by first | exact Nat.le_refl _ | (simp <;> omega)) _))) HL1.out (fun ad h _ => by cases h; show w2.heap.size ≠ p; omega)).mono ?_
  rintro e w3 ⟨g, rfl, hq, hS3⟩
  clear z0 z1 z2 z3
  have hg3 : w2.grownBy w3 (some p) := grown_tr (below_grown (by repeat (first | exact Below.refl _ _ | refine Below.alloc ?_ (by first | exact Nat.le_refl _ | (simp <;> omega)) _ | refine Below.setCell ?_ (by first | exact Nat.le_refl _ | (simp <;> omega)) _)) _) hS3.2
  replace hC := hS3.1
  have sz3 := hg3.size
  replace HG := grown_tr HG hg3
  replace hZ := hZ.grownB hg3 (by omega)
  have z0 := (hZ.cell 0).trans (show _ = some (.int .i64 0) from rfl)
  have z1 := (hZ.cell 1).trans (show _ = some (.string ⟨#[]⟩) from rfl)
  have z2 := (hZ.cell 2).trans (show _ = some (.int .i64 0) from rfl)
  have z3 := (hZ.cell 3).trans (show _ = some (.int .i64 0) from rfl)
  clear hq HL1
  have hL1 := built_rdsQ w3 [0, 1, 7, 14, 60] (by simp [maxLen])
  simp only [List.flatMap_cons, List.flatMap_nil, intC, List.append_nil, List.singleton_append] at hL1
  have HL1 := Lib.hid hL1; clear hL1
  go_wp2_with fail
  refine (among_is (some ⟨w3.heap.size, 0, none⟩) _ [0, 1, 7, 14, 60] (by simp) (by simp) p A c cs hcs (N + 2 + 2) (by omega) _ (hC.later (by repeat (first | exact Below.refl _ _ | refine Below.alloc ?_ (by first | exact Nat.le_refl _ | (simp <;> omega)) _ | refine Below.setCell ?_ (by first | exact Nat.le_refl _ | (simp <;> omega)) _))) HL1.out (fun ad h _ => by cases h; show w3.heap.size ≠ p; omega)).mono ?_
  rintro e w4 ⟨d, rfl, hq, hS4⟩
  clear z0 z1 z2 z3
  have hg4 : w3.grownBy w4 (some p) := grown_tr (below_grown (by repeat (first | exact Below.refl _ _ | refine Below.alloc ?_ (by first | exact Nat.le_refl _ | (simp <;> omega)) _ | refine Below.setCell ?_ (by first | exact Nat.le_refl _ | (simp <;> omega)) _)) _) hS4.2
  replace hC := hS4.1
  have sz4 := hg4.size
  replace HG := grown_tr HG hg4
  replace hZ := hZ.grownB hg4 (by omega)
  have z0 := (hZ.cell 0).trans (show _ = some (.int .i64 0) from rfl)
  have z1 := (hZ.cell 1).trans (show _ = some (.string ⟨#[]⟩) from rfl)
  have z2 := (hZ.cell 2).trans (show _ = some (.int .i64 0) from rfl)
  have z3 := (hZ.cell 3).trans (show _ = some (.int .i64 0) from rfl)
  clear hq HL1
  go_upto_region 2 with fail
  have hb5 : Below w4.heap.size w4 (World.alloc w4 (.cells #[.int .i64 id, .string t, .int .i64 g, .int .i64 d] 42)) := bl1 w4 _
  have hL : Blk (World.alloc w4 (.cells #[.int .i64 id, .string t, .int .i64 g, .int .i64 d] 42)) (w4.heap.size) 42 #[.int .i64 id, .string t, .int .i64 g, .int .i64 d] := by repeat (first | exact Blk.new _ _ _ | exact Blk.new2 _ _ _ _ | exact Blk.new3 _ _ _ _ _ | exact Blk.new4 _ _ _ _ _ _ | refine Blk.alloc ?_ _)
  generalize World.alloc w4 (.cells #[.int .i64 id, .string t, .int .i64 g, .int .i64 d] 42) = wL at *
  replace hC := hC.later hb5
  replace HG := grown_tr HG (below_grown hb5 (some p))
  clear z0 z1 z2 z3
  replace hZ := hZ.grownB (below_grown hb5 (some p)) (by omega)
  have z0 := (hZ.cell 0).trans (show _ = some (.int .i64 0) from rfl)
  have z1 := (hZ.cell 1).trans (show _ = some (.string ⟨#[]⟩) from rfl)
  have z2 := (hZ.cell 2).trans (show _ = some (.int .i64 0) from rfl)
  have z3 := (hZ.cell 3).trans (show _ = some (.int .i64 0) from rfl)
  have sz5 := hb5.size
  have LhL := hL.lt
  have l0 := (hL.cell 0).trans (show _ = some (.int .i64 id) from rfl)
  have l1 := (hL.cell 1).trans (show _ = some (.string t) from rfl)
  have l2 := (hL.cell 2).trans (show _ = some (.int .i64 g) from rfl)
  have l3 := (hL.cell 3).trans (show _ = some (.int .i64 d) from rfl)
  go_wp2_with fail
  refine (pick_is 60 p A c cs hcs (N + 2 + 2 + 2) (by omega) (by omega) _ (hC.later (by repeat (first | exact Below.refl _ _ | refine Below.alloc ?_ (by first | exact Nat.le_refl _ | (simp <;> omega)) _ | refine Below.setCell ?_ (by first | exact Nat.le_refl _ | (simp <;> omega)) _)))).mono ?_
  rintro e w6 ⟨r, rfl, ⟨hr0, _, _⟩, hS6⟩
  clear z0 z1 z2 z3
  clear l0 l1 l2 l3
  have hg6 : wL.grownBy w6 (some p) := grown_tr (below_grown (by repeat (first | exact Below.refl _ _ | refine Below.alloc ?_ (by first | exact Nat.le_refl _ | (simp <;> omega)) _ | refine Below.setCell ?_ (by first | exact Nat.le_refl _ | (simp <;> omega)) _)) _) hS6.2
  replace hC := hS6.1
  have sz6 := hg6.size
  replace HG := grown_tr HG hg6
  replace hZ := hZ.grownB hg6 (by omega)
  replace hL := hL.grownB hg6 (by omega)
  have z0 := (hZ.cell 0).trans (show _ = some (.int .i64 0) from rfl)
  have z1 := (hZ.cell 1).trans (show _ = some (.string ⟨#[]⟩) from rfl)
  have z2 := (hZ.cell 2).trans (show _ = some (.int .i64 0) from rfl)
  have z3 := (hZ.cell 3).trans (show _ = some (.int .i64 0) from rfl)
  have l0 := (hL.cell 0).trans (show _ = some (.int .i64 id) from rfl)
  have l1 := (hL.cell 1).trans (show _ = some (.string t) from rfl)
  have l2 := (hL.cell 2).trans (show _ = some (.int .i64 g) from rfl)
  have l3 := (hL.cell 3).trans (show _ = some (.int .i64 d) from rfl)
  rcases (show r = 0 ∨ r = 1 ∨ r = 2 ∨ r = 3 ∨ 3 < r by omega) with rfl | rfl | rfl | rfl | hr3
  · have hL1 := built_rdsQ w6 [0, 99, 100] (by simp [maxLen])
    simp only [List.flatMap_cons, List.flatMap_nil, intC, List.append_nil, List.singleton_append] at hL1
    have HL1 := Lib.hid hL1; clear hL1
    go_wp2_with fail
    refine (among_is (some ⟨w6.heap.size, 0, none⟩) _ [0, 99, 100] (by simp) (by simp) p A c cs hcs (N + 2 + 2 + 2 + 2) (by omega) _ (hC.later (by repeat (first | exact Below.refl _ _ | refine Below.alloc ?_ (by first | exact Nat.le_refl _ | (simp <;> omega)) _ | refine Below.setCell ?_ (by first | exact Nat.le_refl _ | (simp <;> omega)) _))) HL1.out (fun ad h _ => by cases h; show w6.heap.size ≠ p; omega)).mono ?_
    rintro e w7 ⟨x, rfl, hq, hS7⟩
    clear z0 z1 z2 z3
    clear l0 l1 l2 l3
    have hg7 : w6.grownBy w7 (some p) := grown_tr (below_grown (by repeat (first | exact Below.refl _ _ | refine Below.alloc ?_ (by first | exact Nat.le_refl _ | (simp <;> omega)) _ | refine Below.setCell ?_ (by first | exact Nat.le_refl _ | (simp <;> omega)) _)) _) hS7.2
    replace hC := hS7.1
    have sz7 := hg7.size
    replace HG := grown_tr HG hg7
    replace hZ := hZ.grownB hg7 (by omega)
    replace hL := hL.grownB hg7 (by omega)
    have z0 := (hZ.cell 0).trans (show _ = some (.int .i64 0) from rfl)
    have z1 := (hZ.cell 1).trans (show _ = some (.string ⟨#[]⟩) from rfl)
    have z2 := (hZ.cell 2).trans (show _ = some (.int .i64 0) from rfl)
    have z3 := (hZ.cell 3).trans (show _ = some (.int .i64 0) from rfl)
    have l0 := (hL.cell 0).trans (show _ = some (.int .i64 id) from rfl)
    have l1 := (hL.cell 1).trans (show _ = some (.string t) from rfl)
    have l2 := (hL.cell 2).trans (show _ = some (.int .i64 g) from rfl)
    have l3 := (hL.cell 3).trans (show _ = some (.int .i64 d) from rfl)
    clear hq HL1
    have fhL0 := hL.frozen 0
    have yhZ := hZ.lt
    have yhL := hL.lt
    go_upto_region 11 with fail
    clear fhL0 yhZ yhL
    clear z0 z1 z2 z3
    clear l0 l1 l2 l3
    replace HG : w.grownBy (World.setCell w7 ⟨w4.heap.size, 0, none⟩ (.int .i64 x)) (some p) := (grown_store HG (g := w4.heap.size) (by omega) 0 (.int .i64 x))
    replace hC := (hC.store (g := w4.heap.size) (by omega) 0 (.int .i64 x))
    replace hZ := hZ.grownB (grown_set (j := 0) (grown_refl w7 (some (w4.heap.size))) (.int .i64 x)) (by omega)
    replace hL : Blk (World.setCell w7 ⟨w4.heap.size, 0, none⟩ (.int .i64 x)) (w4.heap.size) 42 #[.int .i64 x, .string t, .int .i64 g, .int .i64 d] := (hL.set_ 0 (.int .i64 x))
    generalize World.setCell w7 ⟨w4.heap.size, 0, none⟩ (.int .i64 x) = wS at *
    have z0 := (hZ.cell 0).trans (show _ = some (.int .i64 0) from rfl)
    have z1 := (hZ.cell 1).trans (show _ = some (.string ⟨#[]⟩) from rfl)
    have z2 := (hZ.cell 2).trans (show _ = some (.int .i64 0) from rfl)
    have z3 := (hZ.cell 3).trans (show _ = some (.int .i64 0) from rfl)
    have l0 := (hL.cell 0).trans (show _ = some (.int .i64 x) from rfl)
    have l1 := (hL.cell 1).trans (show _ = some (.string t) from rfl)
    have l2 := (hL.cell 2).trans (show _ = some (.int .i64 g) from rfl)
    have l3 := (hL.cell 3).trans (show _ = some (.int .i64 d) from rfl)
    have fhZ0 := hZ.frozen 0
    have fhZ1 := hZ.frozen 1
    have fhZ2 := hZ.frozen 2
    have fhZ3 := hZ.frozen 3
    have yhZ := hZ.lt
    have yhL := hL.lt
    go_wp2
    clear fhZ0 fhZ1 fhZ2 fhZ3 yhZ yhL
    clear z0 z1 z2 z3
    clear l0 l1 l2 l3
    replace HG : w.grownBy (World.setCell (World.setCell (World.setCell (World.setCell wS ⟨w.heap.size, 0, none⟩ (.int .i64 x)) ⟨w.heap.size, 1, none⟩ (.string t)) ⟨w.heap.size, 2, none⟩ (.int .i64 g)) ⟨w.heap.size, 3, none⟩ (.int .i64 d)) (some p) := (grown_store (grown_store (grown_store (grown_store HG (g := w.heap.size) (by omega) 0 (.int .i64 x)) (g := w.heap.size) (by omega) 1 (.string t)) (g := w.heap.size) (by omega) 2 (.int .i64 g)) (g := w.heap.size) (by omega) 3 (.int .i64 d))
    replace hC := ((((hC.store (g := w.heap.size) (by omega) 0 (.int .i64 x)).store (g := w.heap.size) (by omega) 1 (.string t)).store (g := w.heap.size) (by omega) 2 (.int .i64 g)).store (g := w.heap.size) (by omega) 3 (.int .i64 d))
    replace hZ : Blk (World.setCell (World.setCell (World.setCell (World.setCell wS ⟨w.heap.size, 0, none⟩ (.int .i64 x)) ⟨w.heap.size, 1, none⟩ (.string t)) ⟨w.heap.size, 2, none⟩ (.int .i64 g)) ⟨w.heap.size, 3, none⟩ (.int .i64 d)) (w.heap.size) 42 #[.int .i64 x, .string t, .int .i64 g, .int .i64 d] := ((((hZ.set_ 0 (.int .i64 x)).set_ 1 (.string t)).set_ 2 (.int .i64 g)).set_ 3 (.int .i64 d))
    replace hL := hL.grownB (grown_set (j := 3) (grown_set (j := 2) (grown_set (j := 1) (grown_set (j := 0) (grown_refl wS (some (w.heap.size))) (.int .i64 x)) (.string t)) (.int .i64 g)) (.int .i64 d)) (by omega)
    generalize World.setCell (World.setCell (World.setCell (World.setCell wS ⟨w.heap.size, 0, none⟩ (.int .i64 x)) ⟨w.heap.size, 1, none⟩ (.string t)) ⟨w.heap.size, 2, none⟩ (.int .i64 g)) ⟨w.heap.size, 3, none⟩ (.int .i64 d) = W9 at *
    have z0 := (hZ.cell 0).trans (show _ = some (.int .i64 x) from rfl)
    have z1 := (hZ.cell 1).trans (show _ = some (.string t) from rfl)
    have z2 := (hZ.cell 2).trans (show _ = some (.int .i64 g) from rfl)
    have z3 := (hZ.cell 3).trans (show _ = some (.int .i64 d) from rfl)
    have l0 := (hL.cell 0).trans (show _ = some (.int .i64 x) from rfl)
    have l1 := (hL.cell 1).trans (show _ = some (.string t) from rfl)
    have l2 := (hL.cell 2).trans (show _ = some (.int .i64 g) from rfl)
    have l3 := (hL.cell 3).trans (show _ = some (.int .i64 d) from rfl)
    have hLl := hL.lt
    refine bodyPost_ret (v := .agg #[.int .i64 x, .string t, .int .i64 g, .int .i64 d]) (by simp [results, Tryz.results58, go_sem, z0, z1, z2, z3]) rfl ?_
    exact ⟨x, t, g, d, rfl, by omega, hC.mono (by omega), HG⟩
  · have hL1 := built_rdsQ w6 [-1, 3651] (by simp [maxLen])
    simp only [List.flatMap_cons, List.flatMap_nil, intC, List.append_nil, List.singleton_append] at hL1
    have HL1 := Lib.hid hL1; clear hL1
    go_wp2_with fail
    refine (among_is (some ⟨w6.heap.size, 0, none⟩) _ [-1, 3651] (by simp) (by simp) p A c cs hcs (N + 2 + 2 + 2 + 2) (by omega) _ (hC.later (by repeat (first | exact Below.refl _ _ | refine Below.alloc ?_ (by first | exact Nat.le_refl _ | (simp <;> omega)) _ | refine Below.setCell ?_ (by first | exact Nat.le_refl _ | (simp <;> omega)) _))) HL1.out (fun ad h _ => by cases h; show w6.heap.size ≠ p; omega)).mono ?_
    rintro e w7 ⟨x, rfl, hq, hS7⟩
    clear z0 z1 z2 z3
    clear l0 l1 l2 l3
    have hg7 : w6.grownBy w7 (some p) := grown_tr (below_grown (by repeat (first | exact Below.refl _ _ | refine Below.alloc ?_ (by first | exact Nat.le_refl _ | (simp <;> omega)) _ | refine Below.setCell ?_ (by first | exact Nat.le_refl _ | (simp <;> omega)) _)) _) hS7.2
    replace hC := hS7.1
    have sz7 := hg7.size
    replace HG := grown_tr HG hg7
    replace hZ := hZ.grownB hg7 (by omega)
    replace hL := hL.grownB hg7 (by omega)
    have z0 := (hZ.cell 0).trans (show _ = some (.int .i64 0) from rfl)
    have z1 := (hZ.cell 1).trans (show _ = some (.string ⟨#[]⟩) from rfl)
    have z2 := (hZ.cell 2).trans (show _ = some (.int .i64 0) from rfl)
    have z3 := (hZ.cell 3).trans (show _ = some (.int .i64 0) from rfl)
    have l0 := (hL.cell 0).trans (show _ = some (.int .i64 id) from rfl)
    have l1 := (hL.cell 1).trans (show _ = some (.string t) from rfl)
    have l2 := (hL.cell 2).trans (show _ = some (.int .i64 g) from rfl)
    have l3 := (hL.cell 3).trans (show _ = some (.int .i64 d) from rfl)
    clear hq HL1
    have fhL2 := hL.frozen 2
    have yhZ := hZ.lt
    have yhL := hL.lt
    go_upto_region 11 with fail
    clear fhL2 yhZ yhL
    clear z0 z1 z2 z3
    clear l0 l1 l2 l3
    replace HG : w.grownBy (World.setCell w7 ⟨w4.heap.size, 2, none⟩ (.int .i64 x)) (some p) := (grown_store HG (g := w4.heap.size) (by omega) 2 (.int .i64 x))
    replace hC := (hC.store (g := w4.heap.size) (by omega) 2 (.int .i64 x))
    replace hZ := hZ.grownB (grown_set (j := 2) (grown_refl w7 (some (w4.heap.size))) (.int .i64 x)) (by omega)
    replace hL : Blk (World.setCell w7 ⟨w4.heap.size, 2, none⟩ (.int .i64 x)) (w4.heap.size) 42 #[.int .i64 id, .string t, .int .i64 x, .int .i64 d] := (hL.set_ 2 (.int .i64 x))
    generalize World.setCell w7 ⟨w4.heap.size, 2, none⟩ (.int .i64 x) = wS at *
    have z0 := (hZ.cell 0).trans (show _ = some (.int .i64 0) from rfl)
    have z1 := (hZ.cell 1).trans (show _ = some (.string ⟨#[]⟩) from rfl)
    have z2 := (hZ.cell 2).trans (show _ = some (.int .i64 0) from rfl)
    have z3 := (hZ.cell 3).trans (show _ = some (.int .i64 0) from rfl)
    have l0 := (hL.cell 0).trans (show _ = some (.int .i64 id) from rfl)
    have l1 := (hL.cell 1).trans (show _ = some (.string t) from rfl)
    have l2 := (hL.cell 2).trans (show _ = some (.int .i64 x) from rfl)
    have l3 := (hL.cell 3).trans (show _ = some (.int .i64 d) from rfl)
    have fhZ0 := hZ.frozen 0
    have fhZ1 := hZ.frozen 1
    have fhZ2 := hZ.frozen 2
    have fhZ3 := hZ.frozen 3
    have yhZ := hZ.lt
    have yhL := hL.lt
    go_wp2
    clear fhZ0 fhZ1 fhZ2 fhZ3 yhZ yhL
    clear z0 z1 z2 z3
    clear l0 l1 l2 l3
    replace HG : w.grownBy (World.setCell (World.setCell (World.setCell (World.setCell wS ⟨w.heap.size, 0, none⟩ (.int .i64 id)) ⟨w.heap.size, 1, none⟩ (.string t)) ⟨w.heap.size, 2, none⟩ (.int .i64 x)) ⟨w.heap.size, 3, none⟩ (.int .i64 d)) (some p) := (grown_store (grown_store (grown_store (grown_store HG (g := w.heap.size) (by omega) 0 (.int .i64 id)) (g := w.heap.size) (by omega) 1 (.string t)) (g := w.heap.size) (by omega) 2 (.int .i64 x)) (g := w.heap.size) (by omega) 3 (.int .i64 d))
    replace hC := ((((hC.store (g := w.heap.size) (by omega) 0 (.int .i64 id)).store (g := w.heap.size) (by omega) 1 (.string t)).store (g := w.heap.size) (by omega) 2 (.int .i64 x)).store (g := w.heap.size) (by omega) 3 (.int .i64 d))
    replace hZ : Blk (World.setCell (World.setCell (World.setCell (World.setCell wS ⟨w.heap.size, 0, none⟩ (.int .i64 id)) ⟨w.heap.size, 1, none⟩ (.string t)) ⟨w.heap.size, 2, none⟩ (.int .i64 x)) ⟨w.heap.size, 3, none⟩ (.int .i64 d)) (w.heap.size) 42 #[.int .i64 id, .string t, .int .i64 x, .int .i64 d] := ((((hZ.set_ 0 (.int .i64 id)).set_ 1 (.string t)).set_ 2 (.int .i64 x)).set_ 3 (.int .i64 d))
    replace hL := hL.grownB (grown_set (j := 3) (grown_set (j := 2) (grown_set (j := 1) (grown_set (j := 0) (grown_refl wS (some (w.heap.size))) (.int .i64 id)) (.string t)) (.int .i64 x)) (.int .i64 d)) (by omega)
    generalize World.setCell (World.setCell (World.setCell (World.setCell wS ⟨w.heap.size, 0, none⟩ (.int .i64 id)) ⟨w.heap.size, 1, none⟩ (.string t)) ⟨w.heap.size, 2, none⟩ (.int .i64 x)) ⟨w.heap.size, 3, none⟩ (.int .i64 d) = W9 at *
    have z0 := (hZ.cell 0).trans (show _ = some (.int .i64 id) from rfl)
    have z1 := (hZ.cell 1).trans (show _ = some (.string t) from rfl)
    have z2 := (hZ.cell 2).trans (show _ = some (.int .i64 x) from rfl)
    have z3 := (hZ.cell 3).trans (show _ = some (.int .i64 d) from rfl)
    have l0 := (hL.cell 0).trans (show _ = some (.int .i64 id) from rfl)
    have l1 := (hL.cell 1).trans (show _ = some (.string t) from rfl)
    have l2 := (hL.cell 2).trans (show _ = some (.int .i64 x) from rfl)
    have l3 := (hL.cell 3).trans (show _ = some (.int .i64 d) from rfl)
    have hLl := hL.lt
    refine bodyPost_ret (v := .agg #[.int .i64 id, .string t, .int .i64 x, .int .i64 d]) (by simp [results, Tryz.results58, go_sem, z0, z1, z2, z3]) rfl ?_
    exact ⟨id, t, x, d, rfl, by omega, hC.mono (by omega), HG⟩
  · have hL1 := built_rdsQ w6 [-1, 61] (by simp [maxLen])
    simp only [List.flatMap_cons, List.flatMap_nil, intC, List.append_nil, List.singleton_append] at hL1
    have HL1 := Lib.hid hL1; clear hL1
    go_wp2_with fail
    refine (among_is (some ⟨w6.heap.size, 0, none⟩) _ [-1, 61] (by simp) (by simp) p A c cs hcs (N + 2 + 2 + 2 + 2) (by omega) _ (hC.later (by repeat (first | exact Below.refl _ _ | refine Below.alloc ?_ (by first | exact Nat.le_refl _ | (simp <;> omega)) _ | refine Below.setCell ?_ (by first | exact Nat.le_refl _ | (simp <;> omega)) _))) HL1.out (fun ad h _ => by cases h; show w6.heap.size ≠ p; omega)).mono ?_
    rintro e w7 ⟨x, rfl, hq, hS7⟩
    clear z0 z1 z2 z3
    clear l0 l1 l2 l3
    have hg7 : w6.grownBy w7 (some p) := grown_tr (below_grown (by repeat (first | exact Below.refl _ _ | refine Below.alloc ?_ (by first | exact Nat.le_refl _ | (simp <;> omega)) _ | refine Below.setCell ?_ (by first | exact Nat.le_refl _ | (simp <;> omega)) _)) _) hS7.2
    replace hC := hS7.1
    have sz7 := hg7.size
    replace HG := grown_tr HG hg7
    replace hZ := hZ.grownB hg7 (by omega)
    replace hL := hL.grownB hg7 (by omega)
    have z0 := (hZ.cell 0).trans (show _ = some (.int .i64 0) from rfl)
    have z1 := (hZ.cell 1).trans (show _ = some (.string ⟨#[]⟩) from rfl)
    have z2 := (hZ.cell 2).trans (show _ = some (.int .i64 0) from rfl)
    have z3 := (hZ.cell 3).trans (show _ = some (.int .i64 0) from rfl)
    have l0 := (hL.cell 0).trans (show _ = some (.int .i64 id) from rfl)
    have l1 := (hL.cell 1).trans (show _ = some (.string t) from rfl)
    have l2 := (hL.cell 2).trans (show _ = some (.int .i64 g) from rfl)
    have l3 := (hL.cell 3).trans (show _ = some (.int .i64 d) from rfl)
    clear hq HL1
    have fhL3 := hL.frozen 3
    have yhZ := hZ.lt
    have yhL := hL.lt
    go_upto_region 11 with fail
    clear fhL3 yhZ yhL
    clear z0 z1 z2 z3
    clear l0 l1 l2 l3
    replace HG : w.grownBy (World.setCell w7 ⟨w4.heap.size, 3, none⟩ (.int .i64 x)) (some p) := (grown_store HG (g := w4.heap.size) (by omega) 3 (.int .i64 x))
    replace hC := (hC.store (g := w4.heap.size) (by omega) 3 (.int .i64 x))
    replace hZ := hZ.grownB (grown_set (j := 3) (grown_refl w7 (some (w4.heap.size))) (.int .i64 x)) (by omega)
    replace hL : Blk (World.setCell w7 ⟨w4.heap.size, 3, none⟩ (.int .i64 x)) (w4.heap.size) 42 #[.int .i64 id, .string t, .int .i64 g, .int .i64 x] := (hL.set_ 3 (.int .i64 x))
    generalize World.setCell w7 ⟨w4.heap.size, 3, none⟩ (.int .i64 x) = wS at *
    have z0 := (hZ.cell 0).trans (show _ = some (.int .i64 0) from rfl)
    have z1 := (hZ.cell 1).trans (show _ = some (.string ⟨#[]⟩) from rfl)
    have z2 := (hZ.cell 2).trans (show _ = some (.int .i64 0) from rfl)
    have z3 := (hZ.cell 3).trans (show _ = some (.int .i64 0) from rfl)
    have l0 := (hL.cell 0).trans (show _ = some (.int .i64 id) from rfl)
    have l1 := (hL.cell 1).trans (show _ = some (.string t) from rfl)
    have l2 := (hL.cell 2).trans (show _ = some (.int .i64 g) from rfl)
    have l3 := (hL.cell 3).trans (show _ = some (.int .i64 x) from rfl)
    have fhZ0 := hZ.frozen 0
    have fhZ1 := hZ.frozen 1
    have fhZ2 := hZ.frozen 2
    have fhZ3 := hZ.frozen 3
    have yhZ := hZ.lt
    have yhL := hL.lt
    go_wp2
    clear fhZ0 fhZ1 fhZ2 fhZ3 yhZ yhL
    clear z0 z1 z2 z3
    clear l0 l1 l2 l3
    replace HG : w.grownBy (World.setCell (World.setCell (World.setCell (World.setCell wS ⟨w.heap.size, 0, none⟩ (.int .i64 id)) ⟨w.heap.size, 1, none⟩ (.string t)) ⟨w.heap.size, 2, none⟩ (.int .i64 g)) ⟨w.heap.size, 3, none⟩ (.int .i64 x)) (some p) := (grown_store (grown_store (grown_store (grown_store HG (g := w.heap.size) (by omega) 0 (.int .i64 id)) (g := w.heap.size) (by omega) 1 (.string t)) (g := w.heap.size) (by omega) 2 (.int .i64 g)) (g := w.heap.size) (by omega) 3 (.int .i64 x))
    replace hC := ((((hC.store (g := w.heap.size) (by omega) 0 (.int .i64 id)).store (g := w.heap.size) (by omega) 1 (.string t)).store (g := w.heap.size) (by omega) 2 (.int .i64 g)).store (g := w.heap.size) (by omega) 3 (.int .i64 x))
    replace hZ : Blk (World.setCell (World.setCell (World.setCell (World.setCell wS ⟨w.heap.size, 0, none⟩ (.int .i64 id)) ⟨w.heap.size, 1, none⟩ (.string t)) ⟨w.heap.size, 2, none⟩ (.int .i64 g)) ⟨w.heap.size, 3, none⟩ (.int .i64 x)) (w.heap.size) 42 #[.int .i64 id, .string t, .int .i64 g, .int .i64 x] := ((((hZ.set_ 0 (.int .i64 id)).set_ 1 (.string t)).set_ 2 (.int .i64 g)).set_ 3 (.int .i64 x))
    replace hL := hL.grownB (grown_set (j := 3) (grown_set (j := 2) (grown_set (j := 1) (grown_set (j := 0) (grown_refl wS (some (w.heap.size))) (.int .i64 id)) (.string t)) (.int .i64 g)) (.int .i64 x)) (by omega)
    generalize World.setCell (World.setCell (World.setCell (World.setCell wS ⟨w.heap.size, 0, none⟩ (.int .i64 id)) ⟨w.heap.size, 1, none⟩ (.string t)) ⟨w.heap.size, 2, none⟩ (.int .i64 g)) ⟨w.heap.size, 3, none⟩ (.int .i64 x) = W9 at *
    have z0 := (hZ.cell 0).trans (show _ = some (.int .i64 id) from rfl)
    have z1 := (hZ.cell 1).trans (show _ = some (.string t) from rfl)
    have z2 := (hZ.cell 2).trans (show _ = some (.int .i64 g) from rfl)
    have z3 := (hZ.cell 3).trans (show _ = some (.int .i64 x) from rfl)
    have l0 := (hL.cell 0).trans (show _ = some (.int .i64 id) from rfl)
    have l1 := (hL.cell 1).trans (show _ = some (.string t) from rfl)
    have l2 := (hL.cell 2).trans (show _ = some (.int .i64 g) from rfl)
    have l3 := (hL.cell 3).trans (show _ = some (.int .i64 x) from rfl)
    have hLl := hL.lt
    refine bodyPost_ret (v := .agg #[.int .i64 id, .string t, .int .i64 g, .int .i64 x]) (by simp [results, Tryz.results58, go_sem, z0, z1, z2, z3]) rfl ?_
    exact ⟨id, t, g, x, rfl, by omega, hC.mono (by omega), HG⟩
  · have hL1 := built_rdsO w6 [(⟨#[]⟩ : ByteArray), (⟨#[65]⟩ : ByteArray), (⟨#[97, 98, 99, 100, 101, 102, 103, 104, 105, 106, 107]⟩ : ByteArray)] (by simp [maxLen])
    simp only [List.flatMap_cons, List.flatMap_nil, bC, List.append_nil, List.singleton_append] at hL1
    have HL1 := Lib.hid hL1; clear hL1
    go_wp2_with fail
    refine (of_is (some ⟨w6.heap.size, 0, none⟩) _ [(⟨#[]⟩ : ByteArray), (⟨#[65]⟩ : ByteArray), (⟨#[97, 98, 99, 100, 101, 102, 103, 104, 105, 106, 107]⟩ : ByteArray)] (by simp) (by simp) p A c cs hcs (N + 2 + 2 + 2 + 2) (by omega) _ (hC.later (by repeat (first | exact Below.refl _ _ | refine Below.alloc ?_ (by first | exact Nat.le_refl _ | (simp <;> omega)) _ | refine Below.setCell ?_ (by first | exact Nat.le_refl _ | (simp <;> omega)) _))) HL1.out (fun ad h _ => by cases h; show w6.heap.size ≠ p; omega)).mono ?_
    rintro e w7 ⟨m2, rfl, hq, hS7⟩
    clear z0 z1 z2 z3
    clear l0 l1 l2 l3
    have hg7 : w6.grownBy w7 (some p) := grown_tr (below_grown (by repeat (first | exact Below.refl _ _ | refine Below.alloc ?_ (by first | exact Nat.le_refl _ | (simp <;> omega)) _ | refine Below.setCell ?_ (by first | exact Nat.le_refl _ | (simp <;> omega)) _)) _) hS7.2
    replace hC := hS7.1
    have sz7 := hg7.size
    replace HG := grown_tr HG hg7
    replace hZ := hZ.grownB hg7 (by omega)
    replace hL := hL.grownB hg7 (by omega)
    have z0 := (hZ.cell 0).trans (show _ = some (.int .i64 0) from rfl)
    have z1 := (hZ.cell 1).trans (show _ = some (.string ⟨#[]⟩) from rfl)
    have z2 := (hZ.cell 2).trans (show _ = some (.int .i64 0) from rfl)
    have z3 := (hZ.cell 3).trans (show _ = some (.int .i64 0) from rfl)
    have l0 := (hL.cell 0).trans (show _ = some (.int .i64 id) from rfl)
    have l1 := (hL.cell 1).trans (show _ = some (.string t) from rfl)
    have l2 := (hL.cell 2).trans (show _ = some (.int .i64 g) from rfl)
    have l3 := (hL.cell 3).trans (show _ = some (.int .i64 d) from rfl)
    have hm2 : m2.size ≤ 12 := by
      simp only [List.mem_cons, List.not_mem_nil, or_false] at hq
      rcases hq with h | h | h <;> (subst h; decide)
    clear hq HL1
    have fhL1 := hL.frozen 1
    have yhZ := hZ.lt
    have yhL := hL.lt
    go_upto_region 11 with fail
    clear fhL1 yhZ yhL
    clear z0 z1 z2 z3
    clear l0 l1 l2 l3
    replace HG : w.grownBy (World.setCell w7 ⟨w4.heap.size, 1, none⟩ (.string m2)) (some p) := (grown_store HG (g := w4.heap.size) (by omega) 1 (.string m2))
    replace hC := (hC.store (g := w4.heap.size) (by omega) 1 (.string m2))
    replace hZ := hZ.grownB (grown_set (j := 1) (grown_refl w7 (some (w4.heap.size))) (.string m2)) (by omega)
    replace hL : Blk (World.setCell w7 ⟨w4.heap.size, 1, none⟩ (.string m2)) (w4.heap.size) 42 #[.int .i64 id, .string m2, .int .i64 g, .int .i64 d] := (hL.set_ 1 (.string m2))
    generalize World.setCell w7 ⟨w4.heap.size, 1, none⟩ (.string m2) = wS at *
    have z0 := (hZ.cell 0).trans (show _ = some (.int .i64 0) from rfl)
    have z1 := (hZ.cell 1).trans (show _ = some (.string ⟨#[]⟩) from rfl)
    have z2 := (hZ.cell 2).trans (show _ = some (.int .i64 0) from rfl)
    have z3 := (hZ.cell 3).trans (show _ = some (.int .i64 0) from rfl)
    have l0 := (hL.cell 0).trans (show _ = some (.int .i64 id) from rfl)
    have l1 := (hL.cell 1).trans (show _ = some (.string m2) from rfl)
    have l2 := (hL.cell 2).trans (show _ = some (.int .i64 g) from rfl)
    have l3 := (hL.cell 3).trans (show _ = some (.int .i64 d) from rfl)
    have fhZ0 := hZ.frozen 0
    have fhZ1 := hZ.frozen 1
    have fhZ2 := hZ.frozen 2
    have fhZ3 := hZ.frozen 3
    have yhZ := hZ.lt
    have yhL := hL.lt
    go_wp2
    clear fhZ0 fhZ1 fhZ2 fhZ3 yhZ yhL
    clear z0 z1 z2 z3
    clear l0 l1 l2 l3
    replace HG : w.grownBy (World.setCell (World.setCell (World.setCell (World.setCell wS ⟨w.heap.size, 0, none⟩ (.int .i64 id)) ⟨w.heap.size, 1, none⟩ (.string m2)) ⟨w.heap.size, 2, none⟩ (.int .i64 g)) ⟨w.heap.size, 3, none⟩ (.int .i64 d)) (some p) := (grown_store (grown_store (grown_store (grown_store HG (g := w.heap.size) (by omega) 0 (.int .i64 id)) (g := w.heap.size) (by omega) 1 (.string m2)) (g := w.heap.size) (by omega) 2 (.int .i64 g)) (g := w.heap.size) (by omega) 3 (.int .i64 d))
    replace hC := ((((hC.store (g := w.heap.size) (by omega) 0 (.int .i64 id)).store (g := w.heap.size) (by omega) 1 (.string m2)).store (g := w.heap.size) (by omega) 2 (.int .i64 g)).store (g := w.heap.size) (by omega) 3 (.int .i64 d))
    replace hZ : Blk (World.setCell (World.setCell (World.setCell (World.setCell wS ⟨w.heap.size, 0, none⟩ (.int .i64 id)) ⟨w.heap.size, 1, none⟩ (.string m2)) ⟨w.heap.size, 2, none⟩ (.int .i64 g)) ⟨w.heap.size, 3, none⟩ (.int .i64 d)) (w.heap.size) 42 #[.int .i64 id, .string m2, .int .i64 g, .int .i64 d] := ((((hZ.set_ 0 (.int .i64 id)).set_ 1 (.string m2)).set_ 2 (.int .i64 g)).set_ 3 (.int .i64 d))
    replace hL := hL.grownB (grown_set (j := 3) (grown_set (j := 2) (grown_set (j := 1) (grown_set (j := 0) (grown_refl wS (some (w.heap.size))) (.int .i64 id)) (.string m2)) (.int .i64 g)) (.int .i64 d)) (by omega)
    generalize World.setCell (World.setCell (World.setCell (World.setCell wS ⟨w.heap.size, 0, none⟩ (.int .i64 id)) ⟨w.heap.size, 1, none⟩ (.string m2)) ⟨w.heap.size, 2, none⟩ (.int .i64 g)) ⟨w.heap.size, 3, none⟩ (.int .i64 d) = W9 at *
    have z0 := (hZ.cell 0).trans (show _ = some (.int .i64 id) from rfl)
    have z1 := (hZ.cell 1).trans (show _ = some (.string m2) from rfl)
    have z2 := (hZ.cell 2).trans (show _ = some (.int .i64 g) from rfl)
    have z3 := (hZ.cell 3).trans (show _ = some (.int .i64 d) from rfl)
    have l0 := (hL.cell 0).trans (show _ = some (.int .i64 id) from rfl)
    have l1 := (hL.cell 1).trans (show _ = some (.string m2) from rfl)
    have l2 := (hL.cell 2).trans (show _ = some (.int .i64 g) from rfl)
    have l3 := (hL.cell 3).trans (show _ = some (.int .i64 d) from rfl)
    have hLl := hL.lt
    refine bodyPost_ret (v := .agg #[.int .i64 id, .string m2, .int .i64 g, .int .i64 d]) (by simp [results, Tryz.results58, go_sem, z0, z1, z2, z3]) rfl ?_
    exact ⟨id, m2, g, d, rfl, by omega, hC.mono (by omega), HG⟩
  · have h0 : (r == 0) = false := beq_eq_false_iff_ne.2 (by omega)
    have h1 : (r == 1) = false := beq_eq_false_iff_ne.2 (by omega)
    have h2 : (r == 2) = false := beq_eq_false_iff_ne.2 (by omega)
    have h3 : (r == 3) = false := beq_eq_false_iff_ne.2 (by omega)
    have fhZ0 := hZ.frozen 0
    have fhZ1 := hZ.frozen 1
    have fhZ2 := hZ.frozen 2
    have fhZ3 := hZ.frozen 3
    have yhZ := hZ.lt
    have yhL := hL.lt
    go_wp2
    clear fhZ0 fhZ1 fhZ2 fhZ3 yhZ yhL
    clear z0 z1 z2 z3
    clear l0 l1 l2 l3
    replace HG : w.grownBy (World.setCell (World.setCell (World.setCell (World.setCell w6 ⟨w.heap.size, 0, none⟩ (.int .i64 id)) ⟨w.heap.size, 1, none⟩ (.string t)) ⟨w.heap.size, 2, none⟩ (.int .i64 g)) ⟨w.heap.size, 3, none⟩ (.int .i64 d)) (some p) := (grown_store (grown_store (grown_store (grown_store HG (g := w.heap.size) (by omega) 0 (.int .i64 id)) (g := w.heap.size) (by omega) 1 (.string t)) (g := w.heap.size) (by omega) 2 (.int .i64 g)) (g := w.heap.size) (by omega) 3 (.int .i64 d))
    replace hC := ((((hC.store (g := w.heap.size) (by omega) 0 (.int .i64 id)).store (g := w.heap.size) (by omega) 1 (.string t)).store (g := w.heap.size) (by omega) 2 (.int .i64 g)).store (g := w.heap.size) (by omega) 3 (.int .i64 d))
    replace hZ : Blk (World.setCell (World.setCell (World.setCell (World.setCell w6 ⟨w.heap.size, 0, none⟩ (.int .i64 id)) ⟨w.heap.size, 1, none⟩ (.string t)) ⟨w.heap.size, 2, none⟩ (.int .i64 g)) ⟨w.heap.size, 3, none⟩ (.int .i64 d)) (w.heap.size) 42 #[.int .i64 id, .string t, .int .i64 g, .int .i64 d] := ((((hZ.set_ 0 (.int .i64 id)).set_ 1 (.string t)).set_ 2 (.int .i64 g)).set_ 3 (.int .i64 d))
    replace hL := hL.grownB (grown_set (j := 3) (grown_set (j := 2) (grown_set (j := 1) (grown_set (j := 0) (grown_refl w6 (some (w.heap.size))) (.int .i64 id)) (.string t)) (.int .i64 g)) (.int .i64 d)) (by omega)
    generalize World.setCell (World.setCell (World.setCell (World.setCell w6 ⟨w.heap.size, 0, none⟩ (.int .i64 id)) ⟨w.heap.size, 1, none⟩ (.string t)) ⟨w.heap.size, 2, none⟩ (.int .i64 g)) ⟨w.heap.size, 3, none⟩ (.int .i64 d) = W9 at *
    have z0 := (hZ.cell 0).trans (show _ = some (.int .i64 id) from rfl)
    have z1 := (hZ.cell 1).trans (show _ = some (.string t) from rfl)
    have z2 := (hZ.cell 2).trans (show _ = some (.int .i64 g) from rfl)
    have z3 := (hZ.cell 3).trans (show _ = some (.int .i64 d) from rfl)
    have l0 := (hL.cell 0).trans (show _ = some (.int .i64 id) from rfl)
    have l1 := (hL.cell 1).trans (show _ = some (.string t) from rfl)
    have l2 := (hL.cell 2).trans (show _ = some (.int .i64 g) from rfl)
    have l3 := (hL.cell 3).trans (show _ = some (.int .i64 d) from rfl)
    have hLl := hL.lt
    refine bodyPost_ret (v := .agg #[.int .i64 id, .string t, .int .i64 g, .int .i64 d]) (by simp [results, Tryz.results58, go_sem, z0, z1, z2, z3]) rfl ?_
    exact ⟨id, t, g, d, rfl, by omega, hC.mono (by omega), HG⟩
theorem ntc_len (x : Ntc) : (Ntc.cells x).length = 4 := rfl
theorem ntc_one (x : Ntc) : ∀ u ∈ Ntc.cells x, u.oneCell' = true := by
  intro u hu
  simp only [Ntc.cells, List.mem_cons, List.not_mem_nil, or_false] at hu
  rcases hu with rfl | rfl | rfl | rfl <;> rfl
theorem rds_oneN (w : World) (i : Int) (t : ByteArray) (g d : Int) (ht : t.size ≤ maxLen) (e : TypeId) : Rds 4 Ntc.cells (w.alloc (.cells #[.int .i64 i, .string t, .int .i64 g, .int .i64 d] e)) (some ⟨w.heap.size, 0, none⟩) [(⟨i, t, g, d, ht⟩ : Ntc)] := by
  have h := (OwnV.built (B := w.heap.size) (f := Ntc.cells) w [(⟨i, t, g, d, ht⟩ : Ntc)] e (Nat.le_refl _) (by simp [maxLen]) ntc_len).rds (hf := ntc_len)
  simpa [Ntc.cells] using h
theorem info_NtcP : (Tryz.prog.info? 42).map (fun i => (i.zero, i.size, i.bytes)) = some (some (.agg #[.int .i64 0, .string ⟨#[]⟩, .int .i64 0, .int .i64 0]), 4, 40) := by kernel_rfl
set_option maxHeartbeats 4000000 in
set_option maxRecDepth 100000 in
theorem notices_is (p : Nat) (A : Option Addr) (c : Nat) (cs : List UInt8) (hcs : cs.length ≤ 1048576) (N : Nat) (hN : N ≤ 500000) (w : World) (hC : Cur w p A c cs N) :
  Calls Tryz.prog 75 #[.pointer (some ⟨p, 0, none⟩)] w fun e w' => ∃ (xs : List Ntc) (Y : Option Addr) (yc : Nat), e = .returned (.slice Y xs.length yc) ∧ xs.length ≤ 14 ∧ OwnV w.heap.size 42 4 Ntc.cells w' (.slice Y xs.length yc) xs ∧ Stepped w w' p A c cs (N + 400) := by
  obtain ⟨i0, hi, hz0, hz1, hz2⟩ := info_parts info_NtcP
  go_enter Tryz.func75, Tryz.ntmps75
  have hp := hC.lt
  have HG := grown_refl w (some p)
  have hO0 : OwnV w.heap.size 42 4 Ntc.cells (w.alloc (.cells #[] 42)) (.slice (some ⟨w.heap.size, 0, none⟩) 0 0) [] := OwnV.made w (Nat.le_refl _) _
  go_wp2_with fail
  refine (pick_is 7 p A c cs hcs N (by omega) (by omega) _ (hC.later (by repeat (first | exact Below.refl _ _ | refine Below.alloc ?_ (by first | exact Nat.le_refl _ | (simp <;> omega)) _ | refine Below.setCell ?_ (by first | exact Nat.le_refl _ | (simp <;> omega)) _)))).mono ?_
  rintro e w1 ⟨r, rfl, ⟨hr0, _, hr1⟩, hS1⟩
  have hg1 : w.grownBy w1 (some p) := grown_tr (below_grown (by repeat (first | exact Below.refl _ _ | refine Below.alloc ?_ (by first | exact Nat.le_refl _ | (simp <;> omega)) _ | refine Below.setCell ?_ (by first | exact Nat.le_refl _ | (simp <;> omega)) _)) _) hS1.2
  replace hC := hS1.1
  have sz1 := hg1.size
  replace HG := grown_tr HG hg1
  have hr2 := hr1 (by omega)
  replace hO0 := hO0.kept hS1.2 (fun k hk e => by have := (hO0.lt k hk).1; have := Option.some.inj e; omega)
  clear hr1
  obtain ⟨m0, rfl⟩ : ∃ m : Nat, r = m := ⟨r.toNat, by omega⟩
  go_wp2
  go_loopw [3, 4, 5] (fun y iv i wr => ∃ (m : Nat) (idv : Int) (xs : List Ntc), i = .int .i64 (m : Int) ∧ iv = .int .i64 idv ∧ xs.length + m ≤ 6 ∧ -(10 * (7 - (m : Int))) ≤ idv ∧ idv ≤ 10 * (7 - (m : Int)) ∧ OwnV w.heap.size 42 4 Ntc.cells wr y xs ∧ Cur wr p A c cs (N + 2 + 24 * (6 - m)) ∧ w.grownBy wr (some p)) (fun _ _ i _ => (intOf i).toNat)
  case atStart => exact ⟨m0, 0, [], rfl, rfl, by first | omega | (simp; omega), by omega, by omega, hO0, hC.mono (by omega), HG⟩
  case round =>
    clear hC hO0 HG
    obtain ⟨m, idv, xs, rfl, rfl, hm, hi0, hi1, hO, hC, HG⟩ := hrel
    by_cases hlt : 0 < m
    · have hmm : (m : Int) - 1 = ((m - 1 : Nat) : Int) := by omega
      go_wp2_with fail
      refine (pick_is 3 p A c cs hcs (N + 2 + 24 * (6 - m)) (by omega) (by omega) _ (hC.later (by repeat (first | exact Below.refl _ _ | refine Below.alloc ?_ (by first | exact Nat.le_refl _ | (simp <;> omega)) _ | refine Below.setCell ?_ (by first | exact Nat.le_refl _ | (simp <;> omega)) _)))).mono ?_
      rintro e w2 ⟨q1, rfl, ⟨hq0, _, hq1⟩, hS2⟩
      have hg2 : wr.grownBy w2 (some p) := grown_tr (below_grown (by repeat (first | exact Below.refl _ _ | refine Below.alloc ?_ (by first | exact Nat.le_refl _ | (simp <;> omega)) _ | refine Below.setCell ?_ (by first | exact Nat.le_refl _ | (simp <;> omega)) _)) _) hS2.2
      replace hC := hS2.1
      have sz2 := hg2.size
      replace HG := grown_tr HG hg2
      have hq2 := hq1 (by omega)
      clear hq1
      replace hO := hO.kept hS2.2 (fun k hk e => by have := (hO.lt k hk).1; have := Option.some.inj e; omega)
      go_wp2_with fail
      refine (pick_is 60 p A c cs hcs (N + 2 + 24 * (6 - m) + 2) (by omega) (by omega) _ (hC.later (by repeat (first | exact Below.refl _ _ | refine Below.alloc ?_ (by first | exact Nat.le_refl _ | (simp <;> omega)) _ | refine Below.setCell ?_ (by first | exact Nat.le_refl _ | (simp <;> omega)) _)))).mono ?_
      rintro e w3 ⟨q3, rfl, ⟨hq3, _, hq4⟩, hS3⟩
      have hg3 : w2.grownBy w3 (some p) := grown_tr (below_grown (by repeat (first | exact Below.refl _ _ | refine Below.alloc ?_ (by first | exact Nat.le_refl _ | (simp <;> omega)) _ | refine Below.setCell ?_ (by first | exact Nat.le_refl _ | (simp <;> omega)) _)) _) hS3.2
      replace hC := hS3.1
      have sz3 := hg3.size
      replace HG := grown_tr HG hg3
      have hq5 := hq4 (by omega)
      clear hq4
      replace hO := hO.kept hS3.2 (fun k hk e => by have := (hO.lt k hk).1; have := Option.some.inj e; omega)
      have hd0 : 0 ≤ q3 / 59 ∧ q3 / 59 ≤ 1 := by omega
      go_wp2_with fail
      refine (notice_is (idv + 1 + q1 - q3 / 59) p A c cs hcs (N + 2 + 24 * (6 - m) + 2 + 2) (by omega) _ (hC.later (by repeat (first | exact Below.refl _ _ | refine Below.alloc ?_ (by first | exact Nat.le_refl _ | (simp <;> omega)) _ | refine Below.setCell ?_ (by first | exact Nat.le_refl _ | (simp <;> omega)) _)))).mono ?_
      rintro e w4 ⟨ni, nt, ng, nd, rfl, hnt, hS4⟩
      have hg4 : w3.grownBy w4 (some p) := grown_tr (below_grown (by repeat (first | exact Below.refl _ _ | refine Below.alloc ?_ (by first | exact Nat.le_refl _ | (simp <;> omega)) _ | refine Below.setCell ?_ (by first | exact Nat.le_refl _ | (simp <;> omega)) _)) _) hS4.2
      replace hC := hS4.1
      have sz4 := hg4.size
      replace HG := grown_tr HG hg4
      replace hO := hO.kept hS4.2 (fun k hk e => by have := (hO.lt k hk).1; have := Option.some.inj e; omega)
      have hml : nt.size ≤ maxLen := by unfold maxLen; omega
      go_wp2_with ((at_builtin; refine wpList_app1 rfl _ _ 47 rfl w.heap.size 42 i0 _ 4 40 Tryz.underlying47 hi hz0 hz1 hz2 rfl (by decide) Ntc.cells ntc_len ntc_one _ xs rfl (hO.alloc _) ⟨w4.heap.size, 0, none⟩ 1 ⟨ni, nt, ng, nd, hml⟩ rfl (rds_oneN _ _ _ _ _ _ _) (by unfold maxLen; omega) (by omega) (by have := HG.size; simp; omega) ?_; intro v4 w4 hO4 hg4 ha4))
      have hC4 := (hC.later (bl1 _ _)).row hg4 (fun k hk => by have := (hO.lt k hk).1; omega)
      have HG4 := grown_row2 (grown_tr HG (below_grown (bl1 _ _) _)) hg4 (fun k hk => (hO.lt k hk).1)
      go_roundw
      case rel => exact ⟨m - 1, _, _, by rw [← hmm], rfl, by simp; omega, by omega, by omega, hO4, hC4.mono (by omega), HG4⟩
      case measure => simp [intOf]; omega
    · obtain rfl : m = 0 := by omega
      go_wp2_with fail
      refine (one_is 24 p A c cs hcs (N + 2 + 24 * (6 - 0)) (by omega) (by omega) _ (hC.later (by repeat (first | exact Below.refl _ _ | refine Below.alloc ?_ (by first | exact Nat.le_refl _ | (simp <;> omega)) _ | refine Below.setCell ?_ (by first | exact Nat.le_refl _ | (simp <;> omega)) _)))).mono ?_
      rintro e w5 ⟨b, rfl, hS5⟩
      have hg5 : wr.grownBy w5 (some p) := grown_tr (below_grown (by repeat (first | exact Below.refl _ _ | refine Below.alloc ?_ (by first | exact Nat.le_refl _ | (simp <;> omega)) _ | refine Below.setCell ?_ (by first | exact Nat.le_refl _ | (simp <;> omega)) _)) _) hS5.2
      replace hC := hS5.1
      have sz5 := hg5.size
      replace HG := grown_tr HG hg5
      replace hO := hO.kept hS5.2 (fun k hk e => by have := (hO.lt k hk).1; have := Option.some.inj e; omega)
      cases b
      · obtain ⟨Y, yc, rfl, _, _, _⟩ := hO.form ntc_len
        go_wp2
        go_ret
        exact ⟨xs, Y, yc, rfl, by omega, hO, hC.mono (by omega), HG⟩
      · go_wp2
        go_loopw [3, 4] (fun y iv wq => ∃ (idv : Int) (xs : List Ntc), iv = .int .i64 idv ∧ -100 ≤ idv ∧ idv ≤ 100 + xs.length ∧ xs.length ≤ 11 ∧ OwnV w.heap.size 42 4 Ntc.cells wq y xs ∧ Cur wq p A c cs (N + 150 + 2 * xs.length) ∧ w.grownBy wq (some p)) (fun y _ _ => 20 - lenOf y)
        case atStart => exact ⟨idv, xs, rfl, by omega, by omega, by omega, hO, hC.mono (by omega), HG⟩
        case round =>
          clear hC hO HG hm hi0 hi1
          obtain ⟨idv, xs, rfl, hi0, hi1, hm, hO, hC, HG⟩ := hrel
          obtain ⟨Y, yc, rfl, _, _, _⟩ := hO.form ntc_len
          go_wp2_with fail
          refine (pick_is 2 p A c cs hcs (N + 150 + 2 * xs.length) (by omega) (by omega) _ (hC.later (by repeat (first | exact Below.refl _ _ | refine Below.alloc ?_ (by first | exact Nat.le_refl _ | (simp <;> omega)) _ | refine Below.setCell ?_ (by first | exact Nat.le_refl _ | (simp <;> omega)) _)))).mono ?_
          rintro e w6 ⟨r, rfl, ⟨hr0, _, hr1⟩, hS6⟩
          have hg6 : wr.grownBy w6 (some p) := grown_tr (below_grown (by repeat (first | exact Below.refl _ _ | refine Below.alloc ?_ (by first | exact Nat.le_refl _ | (simp <;> omega)) _ | refine Below.setCell ?_ (by first | exact Nat.le_refl _ | (simp <;> omega)) _)) _) hS6.2
          replace hC := hS6.1
          have sz6 := hg6.size
          replace HG := grown_tr HG hg6
          have hr2 := hr1 (by omega)
          clear hr1
          replace hO := hO.kept hS6.2 (fun k hk e => by have := (hO.lt k hk).1; have := Option.some.inj e; omega)
          by_cases hlt : (xs.length : Int) < 10 + r
          · have hml : ((⟨#[120]⟩ : ByteArray) : ByteArray).size ≤ maxLen := by decide
            go_wp2_with ((at_builtin; refine wpList_app1 rfl _ _ 47 rfl w.heap.size 42 i0 _ 4 40 Tryz.underlying47 hi hz0 hz1 hz2 rfl (by decide) Ntc.cells ntc_len ntc_one _ xs rfl (hO.alloc _) ⟨w6.heap.size, 0, none⟩ 1 ⟨idv + 1, (⟨#[120]⟩ : ByteArray), 0, 0, hml⟩ rfl (rds_oneN _ _ _ _ _ _ _) (by unfold maxLen; omega) (by omega) (by have := HG.size; simp; omega) ?_; intro v4 w4 hO4 hg4 ha4))
            have hC4 := (hC.later (bl1 _ _)).row hg4 (fun k hk => by have := (hO.lt k hk).1; omega)
            have HG4 := grown_row2 (grown_tr HG (below_grown (bl1 _ _) _)) hg4 (fun k hk => (hO.lt k hk).1)
            obtain ⟨Y4, yc4, rfl, _, _, _⟩ := hO4.form ntc_len
            go_roundw
            case rel => exact ⟨_, _, rfl, by omega, by simp; omega, by simp; omega, hO4, hC4.mono (by simp; omega), HG4⟩
            case measure => simp [lenOf]; omega
          · go_wp2
            go_ret
            exact ⟨xs, Y, yc, rfl, by omega, hO, hC.mono (by omega), HG⟩
end Go.Proofs.YtbnncgahepcfnaaGreatDoor
