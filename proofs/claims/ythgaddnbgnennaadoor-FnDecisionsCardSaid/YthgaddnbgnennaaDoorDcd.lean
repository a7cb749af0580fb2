/- The draws of FnDecisions and impl.IsAdopted. -/
import Derived.Test.YthgaddnbgnennaaDoorMay
import Derived.Test.YthgaddnbgnennaaDoorDec3
import Derived.Test.YthgaddnbgnennaaDoorRes
namespace Go.Proofs.YthgaddnbgnennaaDoor
open Go.RowKit Go.G9
set_option maxHeartbeats 4000000 in
set_option maxRecDepth 100000 in
theorem drawIsValidDecided_is (A : Option Addr) (c : Nat) (cs : List UInt8) (hcs : cs.length ≤ 1048576) (w : World) (hR : Rds 1 u8C w A cs) :
  Calls Tryd.prog 42 #[.slice A cs.length c] w fun e w' => ∃ (d : Dec) (Y N' : Option Addr) (yc nc : Nat), e = .returned (.agg #[.int .i64 d.id, .int .i64 d.day, .int .i64 d.need, .slice Y d.yes.length yc, .slice N' d.no.length nc, .bool d.done]) ∧
    d.yes.length ≤ 40 ∧ d.no.length ≤ 40 ∧ Seg w.heap.size w'.heap.size w' Y yc d.yes ∧ Seg w.heap.size w'.heap.size w' N' nc d.no ∧ Below w.heap.size w w' := by
  go_enter Tryd.func42, Tryd.ntmps42
  go_upto_region 2 with fail
  have hlt : ∀ ad, A = some ad → 0 < cs.length → ad.block < w.heap.size := fun ad h h0 => by
    obtain ⟨b, off, h1, h2, _⟩ := hR h0
    rw [h1] at h; cases h; exact h2
  have hZ := (Blk.new w 35 #[.int .i64 0, .int .i64 0, .int .i64 0, .slice none 0 0, .slice none 0 0, .bool false]).alloc (.cells #[.slice A cs.length c, .int .i64 0, .int .u64 0] 68)
  have hP := Blk.new2 w (.cells #[.int .i64 0, .int .i64 0, .int .i64 0, .slice none 0 0, .slice none 0 0, .bool false] 35) 68 #[.slice A cs.length c, .int .i64 0, .int .u64 0]
  have HB : Below w.heap.size w ((w.alloc (.cells #[.int .i64 0, .int .i64 0, .int .i64 0, .slice none 0 0, .slice none 0 0, .bool false] 35)).alloc (.cells #[.slice A cs.length c, .int .i64 0, .int .u64 0] 68)) := bl2 w _ _
  generalize ((w.alloc (.cells #[.int .i64 0, .int .i64 0, .int .i64 0, .slice none 0 0, .slice none 0 0, .bool false] 35)).alloc (.cells #[.slice A cs.length c, .int .i64 0, .int .u64 0] 68)) = wA at *
  have hC : Cur wA (w.heap.size + 1) A c cs 0 := ⟨⟨0, 0, hP, by decide, by decide⟩, hR.below HB, fun ad h h0 => by have := hlt ad h h0; omega⟩
  have hPl := hP.lt
  obtain ⟨p, hpe⟩ : ∃ p, p = w.heap.size + 1 := ⟨_, rfl⟩
  rw [← hpe] at hC hPl
  obtain ⟨n0, hn0⟩ : ∃ n : Nat, n ≤ 0 := ⟨0, Nat.le_refl _⟩
  replace hC : Cur wA p A c cs n0 := hC.mono (Nat.zero_le _)
  simp only [← hpe]
  have hp := hC.lt
  have HG := grown_refl w (some p)
  replace HG : w.grownBy wA (some p) := below_grown HB _
  have szw : w.heap.size ≤ wA.heap.size := HB.size
  have hwp : w.heap.size < p := by omega
  clear hR hlt hP HB hpe
  have z0 := (hZ.cell 0).trans (show _ = some (.int .i64 0) from rfl)
  have z1 := (hZ.cell 1).trans (show _ = some (.int .i64 0) from rfl)
  have z2 := (hZ.cell 2).trans (show _ = some (.int .i64 0) from rfl)
  have z3 := (hZ.cell 3).trans (show _ = some (.slice none 0 0) from rfl)
  have z4 := (hZ.cell 4).trans (show _ = some (.slice none 0 0) from rfl)
  have z5 := (hZ.cell 5).trans (show _ = some (.bool false) from rfl)
  go_wp2_with fail
  refine (decided_is p A c cs hcs n0 (by omega) _ (hC.later (by repeat (first | exact Below.refl _ _ | refine Below.alloc ?_ (by first | exact Nat.le_refl _ | (simp <;> omega)) _ | refine Below.setCell ?_ (by first | exact Nat.le_refl _ | (simp <;> omega)) _)))).mono ?_
  rintro e w1 ⟨d, Y, N', yc, nc, rfl, hly, hln, _, hYs, hNs, hS1⟩
  clear z0 z1 z2 z3 z4 z5
  have hg1 : wA.grownBy w1 (some p) := grown_tr (below_grown (by repeat (first | exact Below.refl _ _ | refine Below.alloc ?_ (by first | exact Nat.le_refl _ | (simp <;> omega)) _ | refine Below.setCell ?_ (by first | exact Nat.le_refl _ | (simp <;> omega)) _)) _) hS1.2
  replace hC := hS1.1
  have sz1 := hg1.size
  replace HG := grown_tr HG hg1
  replace hZ := hZ.grownB hg1 (by omega)
  have z0 := (hZ.cell 0).trans (show _ = some (.int .i64 0) from rfl)
  have z1 := (hZ.cell 1).trans (show _ = some (.int .i64 0) from rfl)
  have z2 := (hZ.cell 2).trans (show _ = some (.int .i64 0) from rfl)
  have z3 := (hZ.cell 3).trans (show _ = some (.slice none 0 0) from rfl)
  have z4 := (hZ.cell 4).trans (show _ = some (.slice none 0 0) from rfl)
  have z5 := (hZ.cell 5).trans (show _ = some (.bool false) from rfl)
  have fhZ0 := hZ.frozen 0
  have fhZ1 := hZ.frozen 1
  have fhZ2 := hZ.frozen 2
  have fhZ3 := hZ.frozen 3
  have fhZ4 := hZ.frozen 4
  have fhZ5 := hZ.frozen 5
  have yhZ := hZ.lt
  go_wp2
  clear fhZ0 fhZ1 fhZ2 fhZ3 fhZ4 fhZ5 z0 z1 z2 z3 z4 z5
  have HG2 : w.grownBy (World.setCell (World.setCell (World.setCell (World.setCell (World.setCell (World.setCell w1 ⟨w.heap.size, 0, none⟩ (.int .i64 d.id)) ⟨w.heap.size, 1, none⟩ (.int .i64 d.day)) ⟨w.heap.size, 2, none⟩ (.int .i64 d.need)) ⟨w.heap.size, 3, none⟩ (.slice Y d.yes.length yc)) ⟨w.heap.size, 4, none⟩ (.slice N' d.no.length nc)) ⟨w.heap.size, 5, none⟩ (.bool d.done)) (some p) := (grown_store (grown_store (grown_store (grown_store (grown_store (grown_store HG (g := w.heap.size) (Nat.le_refl _) 0 (.int .i64 d.id)) (g := w.heap.size) (Nat.le_refl _) 1 (.int .i64 d.day)) (g := w.heap.size) (Nat.le_refl _) 2 (.int .i64 d.need)) (g := w.heap.size) (Nat.le_refl _) 3 (.slice Y d.yes.length yc)) (g := w.heap.size) (Nat.le_refl _) 4 (.slice N' d.no.length nc)) (g := w.heap.size) (Nat.le_refl _) 5 (.bool d.done))
  have hgs := (grown_set (j := 5) (grown_set (j := 4) (grown_set (j := 3) (grown_set (j := 2) (grown_set (j := 1) (grown_set (j := 0) (grown_refl w1 (some w.heap.size)) (.int .i64 d.id)) (.int .i64 d.day)) (.int .i64 d.need)) (.slice Y d.yes.length yc)) (.slice N' d.no.length nc)) (.bool d.done))
  have hZ2 : Blk (World.setCell (World.setCell (World.setCell (World.setCell (World.setCell (World.setCell w1 ⟨w.heap.size, 0, none⟩ (.int .i64 d.id)) ⟨w.heap.size, 1, none⟩ (.int .i64 d.day)) ⟨w.heap.size, 2, none⟩ (.int .i64 d.need)) ⟨w.heap.size, 3, none⟩ (.slice Y d.yes.length yc)) ⟨w.heap.size, 4, none⟩ (.slice N' d.no.length nc)) ⟨w.heap.size, 5, none⟩ (.bool d.done)) w.heap.size 35 #[.int .i64 d.id, .int .i64 d.day, .int .i64 d.need, .slice Y d.yes.length yc, .slice N' d.no.length nc, .bool d.done] := ((((((hZ.set_ 0 (.int .i64 d.id)).set_ 1 (.int .i64 d.day)).set_ 2 (.int .i64 d.need)).set_ 3 (.slice Y d.yes.length yc)).set_ 4 (.slice N' d.no.length nc)).set_ 5 (.bool d.done))
  replace hYs := hYs.kept hgs (fun k hk => by have h2 := Option.some.inj hk; omega)
  replace hNs := hNs.kept hgs (fun k hk => by have h2 := Option.some.inj hk; omega)
  have hszz := hgs.size
  clear hZ HG hgs hC
  generalize (World.setCell (World.setCell (World.setCell (World.setCell (World.setCell (World.setCell w1 ⟨w.heap.size, 0, none⟩ (.int .i64 d.id)) ⟨w.heap.size, 1, none⟩ (.int .i64 d.day)) ⟨w.heap.size, 2, none⟩ (.int .i64 d.need)) ⟨w.heap.size, 3, none⟩ (.slice Y d.yes.length yc)) ⟨w.heap.size, 4, none⟩ (.slice N' d.no.length nc)) ⟨w.heap.size, 5, none⟩ (.bool d.done)) = W9 at *
  have z0 := (hZ2.cell 0).trans (show _ = some (.int .i64 d.id) from rfl)
  have z1 := (hZ2.cell 1).trans (show _ = some (.int .i64 d.day) from rfl)
  have z2 := (hZ2.cell 2).trans (show _ = some (.int .i64 d.need) from rfl)
  have z3 := (hZ2.cell 3).trans (show _ = some (.slice Y d.yes.length yc) from rfl)
  have z4 := (hZ2.cell 4).trans (show _ = some (.slice N' d.no.length nc) from rfl)
  have z5 := (hZ2.cell 5).trans (show _ = some (.bool d.done) from rfl)
  refine bodyPost_ret (v := .agg #[.int .i64 d.id, .int .i64 d.day, .int .i64 d.need, .slice Y d.yes.length yc, .slice N' d.no.length nc, .bool d.done]) (by simp [results, Tryd.results42, go_sem, z0, z1, z2, z3, z4, z5]) rfl ?_
  exact ⟨d, Y, N', yc, nc, rfl, hly, hln, hYs.wide (by omega) (by omega), hNs.wide (by omega) (by omega), grown_below HG2 (Nat.le_refl _) (fun k hk => by cases hk; omega)⟩
set_option maxHeartbeats 4000000 in
set_option maxRecDepth 100000 in
theorem drawSw_is (A : Option Addr) (c : Nat) (cs : List UInt8) (hcs : cs.length ≤ 1048576) (w : World) (hR : Rds 1 u8C w A cs) :
  Calls Tryd.prog 16 #[.slice A cs.length c] w fun e w' => ∃ (d : Dec) (Y N' : Option Addr) (yc nc : Nat), e = .returned (.agg #[.int .i64 d.id, .int .i64 d.day, .int .i64 d.need, .slice Y d.yes.length yc, .slice N' d.no.length nc, .bool d.done]) ∧
    d.yes.length ≤ 40 ∧ d.no.length ≤ 40 ∧ Seg w.heap.size w'.heap.size w' Y yc d.yes ∧ Seg w.heap.size w'.heap.size w' N' nc d.no ∧ Below w.heap.size w w' := by
  go_enter Tryd.func16, Tryd.ntmps16
  go_upto_region 1 with fail
  have hq1 : Below w.heap.size w (World.alloc w (.cells #[.int .i64 0, .int .i64 0, .int .i64 0, .slice none 0 0, .slice none 0 0, .bool false] 35)) := bl1 w _
  have hZ : Blk (World.alloc w (.cells #[.int .i64 0, .int .i64 0, .int .i64 0, .slice none 0 0, .slice none 0 0, .bool false] 35)) (w.heap.size) 35 #[.int .i64 0, .int .i64 0, .int .i64 0, .slice none 0 0, .slice none 0 0, .bool false] := by repeat (first | exact Blk.new _ _ _ | exact Blk.new2 _ _ _ _ | exact Blk.new3 _ _ _ _ _ | exact Blk.new4 _ _ _ _ _ _ | refine Blk.alloc ?_ _)
  replace hR := hR.below hq1
  generalize World.alloc w (.cells #[.int .i64 0, .int .i64 0, .int .i64 0, .slice none 0 0, .slice none 0 0, .bool false] 35) = wZ at *
  have HB := hq1
  have z0 := (hZ.cell 0).trans (show _ = some (.int .i64 0) from rfl)
  have z1 := (hZ.cell 1).trans (show _ = some (.int .i64 0) from rfl)
  have z2 := (hZ.cell 2).trans (show _ = some (.int .i64 0) from rfl)
  have z3 := (hZ.cell 3).trans (show _ = some (.slice none 0 0) from rfl)
  have z4 := (hZ.cell 4).trans (show _ = some (.slice none 0 0) from rfl)
  have z5 := (hZ.cell 5).trans (show _ = some (.bool false) from rfl)
  have hz0 := hZ.lt
  go_wp2_with fail
  refine (drawIsValidDecided_is A c cs hcs _ (hR.below (by repeat (first | exact Below.refl _ _ | refine Below.alloc ?_ (by first | exact Nat.le_refl _ | (simp <;> omega)) _ | refine Below.setCell ?_ (by first | exact Nat.le_refl _ | (simp <;> omega)) _)))).mono ?_
  rintro e w2 ⟨d, Y, N', yc, nc, rfl, hly, hln, hYs, hNs, hb2⟩
  have hq2 : Below wZ.heap.size wZ w2 := bth (by repeat (first | exact Below.refl _ _ | refine Below.alloc ?_ (by first | exact Nat.le_refl _ | (simp <;> omega)) _ | refine Below.setCell ?_ (by first | exact Nat.le_refl _ | (simp <;> omega)) _)) hb2
  replace HB := bth HB hq2
  replace hR := hR.below hq2
  replace hZ := hZ.below hq2 hZ.lt
  replace z0 := (hZ.cell 0).trans (show _ = some (.int .i64 0) from rfl)
  replace z1 := (hZ.cell 1).trans (show _ = some (.int .i64 0) from rfl)
  replace z2 := (hZ.cell 2).trans (show _ = some (.int .i64 0) from rfl)
  replace z3 := (hZ.cell 3).trans (show _ = some (.slice none 0 0) from rfl)
  replace z4 := (hZ.cell 4).trans (show _ = some (.slice none 0 0) from rfl)
  replace z5 := (hZ.cell 5).trans (show _ = some (.bool false) from rfl)
  have fhZ0 := hZ.frozen 0
  have fhZ1 := hZ.frozen 1
  have fhZ2 := hZ.frozen 2
  have fhZ3 := hZ.frozen 3
  have fhZ4 := hZ.frozen 4
  have fhZ5 := hZ.frozen 5
  have yhZ := hZ.lt
  go_wp2
  have hgs := putW_grown w.heap.size w2 (.int .i64 d.id) (.int .i64 d.day) (.int .i64 d.need) (.slice Y d.yes.length yc) (.slice N' d.no.length nc) (.bool d.done)
  replace hYs := hYs.kept hgs (fun k hk => by have h2 := Option.some.inj hk; omega)
  replace hNs := hNs.kept hgs (fun k hk => by have h2 := Option.some.inj hk; omega)
  have hszz := hgs.size
  clear hgs
  clear z0 z1 z2 z3 z4 z5
  replace HB : Below w.heap.size w (World.setCell (World.setCell (World.setCell (World.setCell (World.setCell (World.setCell w2 ⟨w.heap.size, 0, none⟩ (.int .i64 d.id)) ⟨w.heap.size, 1, none⟩ (.int .i64 d.day)) ⟨w.heap.size, 2, none⟩ (.int .i64 d.need)) ⟨w.heap.size, 3, none⟩ (.slice Y d.yes.length yc)) ⟨w.heap.size, 4, none⟩ (.slice N' d.no.length nc)) ⟨w.heap.size, 5, none⟩ (.bool d.done)) := ((((((HB.setCell (by show w.heap.size ≤ w.heap.size; omega) (.int .i64 d.id) (p := ⟨w.heap.size, 0, none⟩)).setCell (by show w.heap.size ≤ w.heap.size; omega) (.int .i64 d.day) (p := ⟨w.heap.size, 1, none⟩)).setCell (by show w.heap.size ≤ w.heap.size; omega) (.int .i64 d.need) (p := ⟨w.heap.size, 2, none⟩)).setCell (by show w.heap.size ≤ w.heap.size; omega) (.slice Y d.yes.length yc) (p := ⟨w.heap.size, 3, none⟩)).setCell (by show w.heap.size ≤ w.heap.size; omega) (.slice N' d.no.length nc) (p := ⟨w.heap.size, 4, none⟩)).setCell (by show w.heap.size ≤ w.heap.size; omega) (.bool d.done) (p := ⟨w.heap.size, 5, none⟩))
  replace hZ : Blk (World.setCell (World.setCell (World.setCell (World.setCell (World.setCell (World.setCell w2 ⟨w.heap.size, 0, none⟩ (.int .i64 d.id)) ⟨w.heap.size, 1, none⟩ (.int .i64 d.day)) ⟨w.heap.size, 2, none⟩ (.int .i64 d.need)) ⟨w.heap.size, 3, none⟩ (.slice Y d.yes.length yc)) ⟨w.heap.size, 4, none⟩ (.slice N' d.no.length nc)) ⟨w.heap.size, 5, none⟩ (.bool d.done)) (w.heap.size) 35 #[.int .i64 d.id, .int .i64 d.day, .int .i64 d.need, .slice Y d.yes.length yc, .slice N' d.no.length nc, .bool d.done] := ((((((hZ.set_ 0 (.int .i64 d.id)).set_ 1 (.int .i64 d.day)).set_ 2 (.int .i64 d.need)).set_ 3 (.slice Y d.yes.length yc)).set_ 4 (.slice N' d.no.length nc)).set_ 5 (.bool d.done))
  generalize World.setCell (World.setCell (World.setCell (World.setCell (World.setCell (World.setCell w2 ⟨w.heap.size, 0, none⟩ (.int .i64 d.id)) ⟨w.heap.size, 1, none⟩ (.int .i64 d.day)) ⟨w.heap.size, 2, none⟩ (.int .i64 d.need)) ⟨w.heap.size, 3, none⟩ (.slice Y d.yes.length yc)) ⟨w.heap.size, 4, none⟩ (.slice N' d.no.length nc)) ⟨w.heap.size, 5, none⟩ (.bool d.done) = W9 at *
  have z0 := (hZ.cell 0).trans (show _ = some (.int .i64 d.id) from rfl)
  have z1 := (hZ.cell 1).trans (show _ = some (.int .i64 d.day) from rfl)
  have z2 := (hZ.cell 2).trans (show _ = some (.int .i64 d.need) from rfl)
  have z3 := (hZ.cell 3).trans (show _ = some (.slice Y d.yes.length yc) from rfl)
  have z4 := (hZ.cell 4).trans (show _ = some (.slice N' d.no.length nc) from rfl)
  have z5 := (hZ.cell 5).trans (show _ = some (.bool d.done) from rfl)
  refine bodyPost_ret (v := .agg #[.int .i64 d.id, .int .i64 d.day, .int .i64 d.need, .slice Y d.yes.length yc, .slice N' d.no.length nc, .bool d.done]) (by simp [results, Tryd.results16, go_sem, z0, z1, z2, z3, z4, z5]) rfl ?_
  exact ⟨d, Y, N', yc, nc, rfl, hly, hln, hYs.wide (by omega) (by omega), hNs.wide (by omega) (by omega), HB⟩
set_option maxHeartbeats 4000000 in
set_option maxRecDepth 100000 in
theorem drawDt_is (A : Option Addr) (c : Nat) (cs : List UInt8) (hcs : cs.length ≤ 1048576) (w : World) (hR : Rds 1 u8C w A cs) :
  Calls Tryd.prog 29 #[.slice A cs.length c] w fun e w' => ∃ (d : Dec) (Y N' : Option Addr) (yc nc : Nat), e = .returned (.agg #[.int .i64 d.id, .int .i64 d.day, .int .i64 d.need, .slice Y d.yes.length yc, .slice N' d.no.length nc, .bool d.done]) ∧
    d.yes.length ≤ 40 ∧ d.no.length ≤ 40 ∧ Seg w.heap.size w'.heap.size w' Y yc d.yes ∧ Seg w.heap.size w'.heap.size w' N' nc d.no ∧ Below w.heap.size w w' := by
  go_enter Tryd.func29, Tryd.ntmps29
  go_upto_region 1 with fail
  have hq1 : Below w.heap.size w (World.alloc w (.cells #[.int .i64 0, .int .i64 0, .int .i64 0, .slice none 0 0, .slice none 0 0, .bool false] 35)) := bl1 w _
  have hZ : Blk (World.alloc w (.cells #[.int .i64 0, .int .i64 0, .int .i64 0, .slice none 0 0, .slice none 0 0, .bool false] 35)) (w.heap.size) 35 #[.int .i64 0, .int .i64 0, .int .i64 0, .slice none 0 0, .slice none 0 0, .bool false] := by repeat (first | exact Blk.new _ _ _ | exact Blk.new2 _ _ _ _ | exact Blk.new3 _ _ _ _ _ | exact Blk.new4 _ _ _ _ _ _ | refine Blk.alloc ?_ _)
  replace hR := hR.below hq1
  generalize World.alloc w (.cells #[.int .i64 0, .int .i64 0, .int .i64 0, .slice none 0 0, .slice none 0 0, .bool false] 35) = wZ at *
  have HB := hq1
  have z0 := (hZ.cell 0).trans (show _ = some (.int .i64 0) from rfl)
  have z1 := (hZ.cell 1).trans (show _ = some (.int .i64 0) from rfl)
  have z2 := (hZ.cell 2).trans (show _ = some (.int .i64 0) from rfl)
  have z3 := (hZ.cell 3).trans (show _ = some (.slice none 0 0) from rfl)
  have z4 := (hZ.cell 4).trans (show _ = some (.slice none 0 0) from rfl)
  have z5 := (hZ.cell 5).trans (show _ = some (.bool false) from rfl)
  have hz0 := hZ.lt
  go_wp2_with fail
  refine (drawIsValidDecided_is A c cs hcs _ (hR.below (by repeat (first | exact Below.refl _ _ | refine Below.alloc ?_ (by first | exact Nat.le_refl _ | (simp <;> omega)) _ | refine Below.setCell ?_ (by first | exact Nat.le_refl _ | (simp <;> omega)) _)))).mono ?_
  rintro e w2 ⟨d, Y, N', yc, nc, rfl, hly, hln, hYs, hNs, hb2⟩
  have hq2 : Below wZ.heap.size wZ w2 := bth (by repeat (first | exact Below.refl _ _ | refine Below.alloc ?_ (by first | exact Nat.le_refl _ | (simp <;> omega)) _ | refine Below.setCell ?_ (by first | exact Nat.le_refl _ | (simp <;> omega)) _)) hb2
  replace HB := bth HB hq2
  replace hR := hR.below hq2
  replace hZ := hZ.below hq2 hZ.lt
  replace z0 := (hZ.cell 0).trans (show _ = some (.int .i64 0) from rfl)
  replace z1 := (hZ.cell 1).trans (show _ = some (.int .i64 0) from rfl)
  replace z2 := (hZ.cell 2).trans (show _ = some (.int .i64 0) from rfl)
  replace z3 := (hZ.cell 3).trans (show _ = some (.slice none 0 0) from rfl)
  replace z4 := (hZ.cell 4).trans (show _ = some (.slice none 0 0) from rfl)
  replace z5 := (hZ.cell 5).trans (show _ = some (.bool false) from rfl)
  have fhZ0 := hZ.frozen 0
  have fhZ1 := hZ.frozen 1
  have fhZ2 := hZ.frozen 2
  have fhZ3 := hZ.frozen 3
  have fhZ4 := hZ.frozen 4
  have fhZ5 := hZ.frozen 5
  have yhZ := hZ.lt
  go_wp2
  have hgs := putW_grown w.heap.size w2 (.int .i64 d.id) (.int .i64 d.day) (.int .i64 d.need) (.slice Y d.yes.length yc) (.slice N' d.no.length nc) (.bool d.done)
  replace hYs := hYs.kept hgs (fun k hk => by have h2 := Option.some.inj hk; omega)
  replace hNs := hNs.kept hgs (fun k hk => by have h2 := Option.some.inj hk; omega)
  have hszz := hgs.size
  clear hgs
  clear z0 z1 z2 z3 z4 z5
  replace HB : Below w.heap.size w (World.setCell (World.setCell (World.setCell (World.setCell (World.setCell (World.setCell w2 ⟨w.heap.size, 0, none⟩ (.int .i64 d.id)) ⟨w.heap.size, 1, none⟩ (.int .i64 d.day)) ⟨w.heap.size, 2, none⟩ (.int .i64 d.need)) ⟨w.heap.size, 3, none⟩ (.slice Y d.yes.length yc)) ⟨w.heap.size, 4, none⟩ (.slice N' d.no.length nc)) ⟨w.heap.size, 5, none⟩ (.bool d.done)) := ((((((HB.setCell (by show w.heap.size ≤ w.heap.size; omega) (.int .i64 d.id) (p := ⟨w.heap.size, 0, none⟩)).setCell (by show w.heap.size ≤ w.heap.size; omega) (.int .i64 d.day) (p := ⟨w.heap.size, 1, none⟩)).setCell (by show w.heap.size ≤ w.heap.size; omega) (.int .i64 d.need) (p := ⟨w.heap.size, 2, none⟩)).setCell (by show w.heap.size ≤ w.heap.size; omega) (.slice Y d.yes.length yc) (p := ⟨w.heap.size, 3, none⟩)).setCell (by show w.heap.size ≤ w.heap.size; omega) (.slice N' d.no.length nc) (p := ⟨w.heap.size, 4, none⟩)).setCell (by show w.heap.size ≤ w.heap.size; omega) (.bool d.done) (p := ⟨w.heap.size, 5, none⟩))
  replace hZ : Blk (World.setCell (World.setCell (World.setCell (World.setCell (World.setCell (World.setCell w2 ⟨w.heap.size, 0, none⟩ (.int .i64 d.id)) ⟨w.heap.size, 1, none⟩ (.int .i64 d.day)) ⟨w.heap.size, 2, none⟩ (.int .i64 d.need)) ⟨w.heap.size, 3, none⟩ (.slice Y d.yes.length yc)) ⟨w.heap.size, 4, none⟩ (.slice N' d.no.length nc)) ⟨w.heap.size, 5, none⟩ (.bool d.done)) (w.heap.size) 35 #[.int .i64 d.id, .int .i64 d.day, .int .i64 d.need, .slice Y d.yes.length yc, .slice N' d.no.length nc, .bool d.done] := ((((((hZ.set_ 0 (.int .i64 d.id)).set_ 1 (.int .i64 d.day)).set_ 2 (.int .i64 d.need)).set_ 3 (.slice Y d.yes.length yc)).set_ 4 (.slice N' d.no.length nc)).set_ 5 (.bool d.done))
  generalize World.setCell (World.setCell (World.setCell (World.setCell (World.setCell (World.setCell w2 ⟨w.heap.size, 0, none⟩ (.int .i64 d.id)) ⟨w.heap.size, 1, none⟩ (.int .i64 d.day)) ⟨w.heap.size, 2, none⟩ (.int .i64 d.need)) ⟨w.heap.size, 3, none⟩ (.slice Y d.yes.length yc)) ⟨w.heap.size, 4, none⟩ (.slice N' d.no.length nc)) ⟨w.heap.size, 5, none⟩ (.bool d.done) = W9 at *
  have z0 := (hZ.cell 0).trans (show _ = some (.int .i64 d.id) from rfl)
  have z1 := (hZ.cell 1).trans (show _ = some (.int .i64 d.day) from rfl)
  have z2 := (hZ.cell 2).trans (show _ = some (.int .i64 d.need) from rfl)
  have z3 := (hZ.cell 3).trans (show _ = some (.slice Y d.yes.length yc) from rfl)
  have z4 := (hZ.cell 4).trans (show _ = some (.slice N' d.no.length nc) from rfl)
  have z5 := (hZ.cell 5).trans (show _ = some (.bool d.done) from rfl)
  refine bodyPost_ret (v := .agg #[.int .i64 d.id, .int .i64 d.day, .int .i64 d.need, .slice Y d.yes.length yc, .slice N' d.no.length nc, .bool d.done]) (by simp [results, Tryd.results29, go_sem, z0, z1, z2, z3, z4, z5]) rfl ?_
  exact ⟨d, Y, N', yc, nc, rfl, hly, hln, hYs.wide (by omega) (by omega), hNs.wide (by omega) (by omega), HB⟩
theorem isAdoptedT_is (need y n : Int) (hd : inB need 1 3 = true) (h0 : 0 ≤ y) (h1 : y ≤ 1000) (h2 : 0 ≤ n) (h3 : n ≤ 1000) (v : Bool) (hv : adoB need y n = v) (w : World) : Calls Tryd.prog 25 #[.int .i64 need, .agg #[.int .i64 y, .int .i64 n, .int .i64 0]] w fun e w' => e = .returned (.tuple #[.bool v, .bool true]) ∧ Below w.heap.size w w' := by
  have HV := Lib.hid hv; clear hv
  go_enter Tryd.func25, Tryd.ntmps25
  go_upto_region 1 with fail
  have hq1 : Below w.heap.size w (World.alloc w (.cells #[.int .i64 y, .int .i64 n, .int .i64 0] 52)) := bl1 w _
  have hX : Blk (World.alloc w (.cells #[.int .i64 y, .int .i64 n, .int .i64 0] 52)) (w.heap.size) 52 #[.int .i64 y, .int .i64 n, .int .i64 0] := by repeat (first | exact Blk.new _ _ _ | exact Blk.new2 _ _ _ _ | exact Blk.new3 _ _ _ _ _ | exact Blk.new4 _ _ _ _ _ _ | refine Blk.alloc ?_ _)
  generalize World.alloc w (.cells #[.int .i64 y, .int .i64 n, .int .i64 0] 52) = wX at *
  have HB := hq1
  have x0 := (hX.cell 0).trans (show _ = some (.int .i64 y) from rfl)
  have x1 := (hX.cell 1).trans (show _ = some (.int .i64 n) from rfl)
  have x2 := (hX.cell 2).trans (show _ = some (.int .i64 0) from rfl)
  go_wp2_with fail
  refine (isNeed_is need _ hd _).mono ?_
  rintro e w0 ⟨rfl, h0⟩
  rw [h0]
  clear h0 w0
  go_wp2_with fail
  refine (isValidTally_is y n 0 true (by simp [tallyB, inB]; omega) _).mono ?_
  rintro e w2 ⟨rfl, hb2⟩
  have hq2 : Below wX.heap.size wX w2 := bth (by repeat (first | exact Below.refl _ _ | refine Below.alloc ?_ (by first | exact Nat.le_refl _ | (simp <;> omega)) _ | refine Below.setCell ?_ (by first | exact Nat.le_refl _ | (simp <;> omega)) _)) hb2
  replace HB := bth HB hq2
  replace hX := hX.below hq2 hX.lt
  replace x0 := (hX.cell 0).trans (show _ = some (.int .i64 y) from rfl)
  replace x1 := (hX.cell 1).trans (show _ = some (.int .i64 n) from rfl)
  replace x2 := (hX.cell 2).trans (show _ = some (.int .i64 0) from rfl)
  go_wp2_with fail
  refine (isAdopted_is need y n (by omega) (by omega) (by omega) (by omega) v HV.out _).mono ?_
  rintro e w0 ⟨rfl, h0⟩
  rw [h0]
  clear h0 w0
  go_wp2
  go_ret2
  exact ⟨rfl, (bth HB (by repeat (first | exact Below.refl _ _ | refine Below.alloc ?_ (by first | exact Nat.le_refl _ | (simp <;> omega)) _ | refine Below.setCell ?_ (by first | exact Nat.le_refl _ | (simp <;> omega)) _)))⟩
end Go.Proofs.YthgaddnbgnennaaDoor
