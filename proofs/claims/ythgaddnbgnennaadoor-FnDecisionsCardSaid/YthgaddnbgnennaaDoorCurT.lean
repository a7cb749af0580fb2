/- A decided question drawn by the cursor. -/
import Derived.Test.YthgaddnbgnennaaDoorTwo
import Derived.Test.YthgaddnbgnennaaDoorDec
namespace Go.Proofs.YthgaddnbgnennaaDoor
open Go.RowKit Go.G9
set_option maxHeartbeats 4000000 in
set_option maxRecDepth 100000 in
theorem decided_is (p : Nat) (A : Option Addr) (c : Nat) (cs : List UInt8) (hcs : cs.length ≤ 1048576) (N : Nat) (hN : N ≤ 700000) (w : World) (hC : Cur w p A c cs N) :
  Calls Tryd.prog 53 #[.pointer (some ⟨p, 0, none⟩)] w fun e w' => ∃ (d : Dec) (Y N' : Option Addr) (yc nc : Nat), e = .returned (.agg #[.int .i64 d.id, .int .i64 d.day, .int .i64 d.need, .slice Y d.yes.length yc, .slice N' d.no.length nc, .bool d.done]) ∧ d.yes.length ≤ 40 ∧ d.no.length ≤ 40 ∧ ((-10 ≤ d.id ∧ d.id ≤ 4000) ∧ (-10 ≤ d.day ∧ d.day ≤ 4000) ∧ (-10 ≤ d.need ∧ d.need ≤ 4000)) ∧ Seg w.heap.size w'.heap.size w' Y yc d.yes ∧ Seg w.heap.size w'.heap.size w' N' nc d.no ∧ Stepped w w' p A c cs (N + 200) := by
  go_enter Tryd.func53, Tryd.ntmps53
  have hp := hC.lt
  have HG := grown_refl w (some p)
  go_upto_region 1 with fail
  have hb1 : Below w.heap.size w (World.alloc w (.cells #[.int .i64 0, .int .i64 0, .int .i64 0, .slice none 0 0, .slice none 0 0, .bool false] 35)) := bl1 w _
  have hZ : Blk (World.alloc w (.cells #[.int .i64 0, .int .i64 0, .int .i64 0, .slice none 0 0, .slice none 0 0, .bool false] 35)) (w.heap.size) 35 #[.int .i64 0, .int .i64 0, .int .i64 0, .slice none 0 0, .slice none 0 0, .bool false] := by repeat (first | exact Blk.new _ _ _ | exact Blk.new2 _ _ _ _ | exact Blk.new3 _ _ _ _ _ | exact Blk.new4 _ _ _ _ _ _ | refine Blk.alloc ?_ _)
  generalize World.alloc w (.cells #[.int .i64 0, .int .i64 0, .int .i64 0, .slice none 0 0, .slice none 0 0, .bool false] 35) = w1 at *
  replace hC := hC.later hb1
  replace HG := grown_tr HG (below_grown hb1 (some p))
  have sz1 := hb1.size
  have LhZ := hZ.lt
  have z0 := (hZ.cell 0).trans (show _ = some (.int .i64 0) from rfl)
  have z1 := (hZ.cell 1).trans (show _ = some (.int .i64 0) from rfl)
  have z2 := (hZ.cell 2).trans (show _ = some (.int .i64 0) from rfl)
  have z3 := (hZ.cell 3).trans (show _ = some (.slice none 0 0) from rfl)
  have z4 := (hZ.cell 4).trans (show _ = some (.slice none 0 0) from rfl)
  have z5 := (hZ.cell 5).trans (show _ = some (.bool false) from rfl)
  go_wp2_with fail
  refine (twoSides_is p A c cs hcs N (by omega) _ (hC.later (by repeat (first | exact Below.refl _ _ | refine Below.alloc ?_ (by first | exact Nat.le_refl _ | (simp <;> omega)) _ | refine Below.setCell ?_ (by first | exact Nat.le_refl _ | (simp <;> omega)) _)))).mono ?_
  rintro e w2 ⟨ys, ns, Y, yc, N', nc, rfl, hly, hln, hYs, hNs, hS2⟩
  clear z0 z1 z2 z3 z4 z5
  have hg2 : w1.grownBy w2 (some p) := grown_tr (below_grown (by repeat (first | exact Below.refl _ _ | refine Below.alloc ?_ (by first | exact Nat.le_refl _ | (simp <;> omega)) _ | refine Below.setCell ?_ (by first | exact Nat.le_refl _ | (simp <;> omega)) _)) _) hS2.2
  replace hC := hS2.1
  have sz2 := hg2.size
  replace HG := grown_tr HG hg2
  replace hZ := hZ.grownB hg2 (by omega)
  have z0 := (hZ.cell 0).trans (show _ = some (.int .i64 0) from rfl)
  have z1 := (hZ.cell 1).trans (show _ = some (.int .i64 0) from rfl)
  have z2 := (hZ.cell 2).trans (show _ = some (.int .i64 0) from rfl)
  have z3 := (hZ.cell 3).trans (show _ = some (.slice none 0 0) from rfl)
  have z4 := (hZ.cell 4).trans (show _ = some (.slice none 0 0) from rfl)
  have z5 := (hZ.cell 5).trans (show _ = some (.bool false) from rfl)
  go_wp2_with fail
  refine (pick_is 9 p A c cs hcs (N + 100) (by omega) (by omega) _ (hC.later (by repeat (first | exact Below.refl _ _ | refine Below.alloc ?_ (by first | exact Nat.le_refl _ | (simp <;> omega)) _ | refine Below.setCell ?_ (by first | exact Nat.le_refl _ | (simp <;> omega)) _)))).mono ?_
  rintro e w3 ⟨r1, rfl, ⟨hi0, _, hi1⟩, hS3⟩
  clear z0 z1 z2 z3 z4 z5
  have hg3 : w2.grownBy w3 (some p) := grown_tr (below_grown (by repeat (first | exact Below.refl _ _ | refine Below.alloc ?_ (by first | exact Nat.le_refl _ | (simp <;> omega)) _ | refine Below.setCell ?_ (by first | exact Nat.le_refl _ | (simp <;> omega)) _)) _) hS3.2
  replace hC := hS3.1
  have sz3 := hg3.size
  replace HG := grown_tr HG hg3
  replace hZ := hZ.grownB hg3 (by omega)
  replace hYs := hYs.kept hg3 (fun k hk => by have h2 := Option.some.inj hk; omega)
  replace hNs := hNs.kept hg3 (fun k hk => by have h2 := Option.some.inj hk; omega)
  have z0 := (hZ.cell 0).trans (show _ = some (.int .i64 0) from rfl)
  have z1 := (hZ.cell 1).trans (show _ = some (.int .i64 0) from rfl)
  have z2 := (hZ.cell 2).trans (show _ = some (.int .i64 0) from rfl)
  have z3 := (hZ.cell 3).trans (show _ = some (.slice none 0 0) from rfl)
  have z4 := (hZ.cell 4).trans (show _ = some (.slice none 0 0) from rfl)
  have z5 := (hZ.cell 5).trans (show _ = some (.bool false) from rfl)
  have hi2 := hi1 (by omega)
  clear hi1
  have hL1 := built_rdsV w3 [0, 5, 30, 3650] (by simp [maxLen])
  simp only [List.flatMap_cons, List.flatMap_nil, intC, List.append_nil, List.singleton_append] at hL1
  have HL1 := Lib.hid hL1; clear hL1
  go_wp2_with fail
  refine (among_is (some ⟨w3.heap.size, 0, none⟩) _ [0, 5, 30, 3650] (by simp) (by simp) p A c cs hcs (N + 100 + 2) (by omega) _ (hC.later (by repeat (first | exact Below.refl _ _ | refine Below.alloc ?_ (by first | exact Nat.le_refl _ | (simp <;> omega)) _ | refine Below.setCell ?_ (by first | exact Nat.le_refl _ | (simp <;> omega)) _))) HL1.out (fun ad h _ => by cases h; show w3.heap.size ≠ p; omega)).mono ?_
  rintro e w4 ⟨dy, rfl, hdy, hS4⟩
  clear z0 z1 z2 z3 z4 z5
  have hg4 : w3.grownBy w4 (some p) := grown_tr (below_grown (by repeat (first | exact Below.refl _ _ | refine Below.alloc ?_ (by first | exact Nat.le_refl _ | (simp <;> omega)) _ | refine Below.setCell ?_ (by first | exact Nat.le_refl _ | (simp <;> omega)) _)) _) hS4.2
  replace hC := hS4.1
  have sz4 := hg4.size
  replace HG := grown_tr HG hg4
  replace hZ := hZ.grownB hg4 (by omega)
  replace hYs := hYs.kept hg4 (fun k hk => by have h2 := Option.some.inj hk; omega)
  replace hNs := hNs.kept hg4 (fun k hk => by have h2 := Option.some.inj hk; omega)
  have z0 := (hZ.cell 0).trans (show _ = some (.int .i64 0) from rfl)
  have z1 := (hZ.cell 1).trans (show _ = some (.int .i64 0) from rfl)
  have z2 := (hZ.cell 2).trans (show _ = some (.int .i64 0) from rfl)
  have z3 := (hZ.cell 3).trans (show _ = some (.slice none 0 0) from rfl)
  have z4 := (hZ.cell 4).trans (show _ = some (.slice none 0 0) from rfl)
  have z5 := (hZ.cell 5).trans (show _ = some (.bool false) from rfl)
  have hdyb : -10 ≤ dy ∧ dy ≤ 4000 := by
    simp only [List.mem_cons, List.not_mem_nil, or_false] at hdy
    omega
  clear hdy HL1
  go_wp2_with fail
  refine (pick_is 3 p A c cs hcs (N + 100 + 2 + 2) (by omega) (by omega) _ (hC.later (by repeat (first | exact Below.refl _ _ | refine Below.alloc ?_ (by first | exact Nat.le_refl _ | (simp <;> omega)) _ | refine Below.setCell ?_ (by first | exact Nat.le_refl _ | (simp <;> omega)) _)))).mono ?_
  rintro e w5 ⟨r2, rfl, ⟨hj0, _, hj1⟩, hS5⟩
  clear z0 z1 z2 z3 z4 z5
  have hg5 : w4.grownBy w5 (some p) := grown_tr (below_grown (by repeat (first | exact Below.refl _ _ | refine Below.alloc ?_ (by first | exact Nat.le_refl _ | (simp <;> omega)) _ | refine Below.setCell ?_ (by first | exact Nat.le_refl _ | (simp <;> omega)) _)) _) hS5.2
  replace hC := hS5.1
  have sz5 := hg5.size
  replace HG := grown_tr HG hg5
  replace hZ := hZ.grownB hg5 (by omega)
  replace hYs := hYs.kept hg5 (fun k hk => by have h2 := Option.some.inj hk; omega)
  replace hNs := hNs.kept hg5 (fun k hk => by have h2 := Option.some.inj hk; omega)
  have z0 := (hZ.cell 0).trans (show _ = some (.int .i64 0) from rfl)
  have z1 := (hZ.cell 1).trans (show _ = some (.int .i64 0) from rfl)
  have z2 := (hZ.cell 2).trans (show _ = some (.int .i64 0) from rfl)
  have z3 := (hZ.cell 3).trans (show _ = some (.slice none 0 0) from rfl)
  have z4 := (hZ.cell 4).trans (show _ = some (.slice none 0 0) from rfl)
  have z5 := (hZ.cell 5).trans (show _ = some (.bool false) from rfl)
  have hj2 := hj1 (by omega)
  clear hj1
  go_wp2_with fail
  refine (one_is 4 p A c cs hcs (N + 100 + 2 + 2 + 2) (by omega) (by omega) _ (hC.later (by repeat (first | exact Below.refl _ _ | refine Below.alloc ?_ (by first | exact Nat.le_refl _ | (simp <;> omega)) _ | refine Below.setCell ?_ (by first | exact Nat.le_refl _ | (simp <;> omega)) _)))).mono ?_
  rintro e w6 ⟨dn, rfl, hS6⟩
  clear z0 z1 z2 z3 z4 z5
  have hg6 : w5.grownBy w6 (some p) := grown_tr (below_grown (by repeat (first | exact Below.refl _ _ | refine Below.alloc ?_ (by first | exact Nat.le_refl _ | (simp <;> omega)) _ | refine Below.setCell ?_ (by first | exact Nat.le_refl _ | (simp <;> omega)) _)) _) hS6.2
  replace hC := hS6.1
  have sz6 := hg6.size
  replace HG := grown_tr HG hg6
  replace hZ := hZ.grownB hg6 (by omega)
  replace hYs := hYs.kept hg6 (fun k hk => by have h2 := Option.some.inj hk; omega)
  replace hNs := hNs.kept hg6 (fun k hk => by have h2 := Option.some.inj hk; omega)
  have z0 := (hZ.cell 0).trans (show _ = some (.int .i64 0) from rfl)
  have z1 := (hZ.cell 1).trans (show _ = some (.int .i64 0) from rfl)
  have z2 := (hZ.cell 2).trans (show _ = some (.int .i64 0) from rfl)
  have z3 := (hZ.cell 3).trans (show _ = some (.slice none 0 0) from rfl)
  have z4 := (hZ.cell 4).trans (show _ = some (.slice none 0 0) from rfl)
  have z5 := (hZ.cell 5).trans (show _ = some (.bool false) from rfl)
  go_upto_region 3 with fail
  have hb7 : Below w6.heap.size w6 (World.alloc w6 (.cells #[.int .i64 (1 + r1), .int .i64 dy, .int .i64 (1 + r2), .slice Y ys.length yc, .slice N' ns.length nc, .bool dn] 35)) := bl1 w6 _
  have hL : Blk (World.alloc w6 (.cells #[.int .i64 (1 + r1), .int .i64 dy, .int .i64 (1 + r2), .slice Y ys.length yc, .slice N' ns.length nc, .bool dn] 35)) (w6.heap.size) 35 #[.int .i64 (1 + r1), .int .i64 dy, .int .i64 (1 + r2), .slice Y ys.length yc, .slice N' ns.length nc, .bool dn] := by repeat (first | exact Blk.new _ _ _ | exact Blk.new2 _ _ _ _ | exact Blk.new3 _ _ _ _ _ | exact Blk.new4 _ _ _ _ _ _ | refine Blk.alloc ?_ _)
  generalize World.alloc w6 (.cells #[.int .i64 (1 + r1), .int .i64 dy, .int .i64 (1 + r2), .slice Y ys.length yc, .slice N' ns.length nc, .bool dn] 35) = wL at *
  replace hC := hC.later hb7
  replace HG := grown_tr HG (below_grown hb7 (some p))
  clear z0 z1 z2 z3 z4 z5
  replace hZ := hZ.grownB (below_grown hb7 (some p)) (by omega)
  have z0 := (hZ.cell 0).trans (show _ = some (.int .i64 0) from rfl)
  have z1 := (hZ.cell 1).trans (show _ = some (.int .i64 0) from rfl)
  have z2 := (hZ.cell 2).trans (show _ = some (.int .i64 0) from rfl)
  have z3 := (hZ.cell 3).trans (show _ = some (.slice none 0 0) from rfl)
  have z4 := (hZ.cell 4).trans (show _ = some (.slice none 0 0) from rfl)
  have z5 := (hZ.cell 5).trans (show _ = some (.bool false) from rfl)
  replace hYs := hYs.kept (below_grown hb7 (some p)) (fun k hk => by have h2 := Option.some.inj hk; omega)
  replace hNs := hNs.kept (below_grown hb7 (some p)) (fun k hk => by have h2 := Option.some.inj hk; omega)
  have sz7 := hb7.size
  have LhL := hL.lt
  have l0 := (hL.cell 0).trans (show _ = some (.int .i64 (1 + r1)) from rfl)
  have l1 := (hL.cell 1).trans (show _ = some (.int .i64 dy) from rfl)
  have l2 := (hL.cell 2).trans (show _ = some (.int .i64 (1 + r2)) from rfl)
  have l3 := (hL.cell 3).trans (show _ = some (.slice Y ys.length yc) from rfl)
  have l4 := (hL.cell 4).trans (show _ = some (.slice N' ns.length nc) from rfl)
  have l5 := (hL.cell 5).trans (show _ = some (.bool dn) from rfl)
  go_wp2_with fail
  refine (pick_is 60 p A c cs hcs (N + 100 + 2 + 2 + 2 + 2) (by omega) (by omega) _ (hC.later (by repeat (first | exact Below.refl _ _ | refine Below.alloc ?_ (by first | exact Nat.le_refl _ | (simp <;> omega)) _ | refine Below.setCell ?_ (by first | exact Nat.le_refl _ | (simp <;> omega)) _)))).mono ?_
  rintro e w8 ⟨r, rfl, ⟨hr0, _, _⟩, hS8⟩
  clear z0 z1 z2 z3 z4 z5
  clear l0 l1 l2 l3 l4 l5
  have hg8 : wL.grownBy w8 (some p) := grown_tr (below_grown (by repeat (first | exact Below.refl _ _ | refine Below.alloc ?_ (by first | exact Nat.le_refl _ | (simp <;> omega)) _ | refine Below.setCell ?_ (by first | exact Nat.le_refl _ | (simp <;> omega)) _)) _) hS8.2
  replace hC := hS8.1
  have sz8 := hg8.size
  replace HG := grown_tr HG hg8
  replace hZ := hZ.grownB hg8 (by omega)
  replace hL := hL.grownB hg8 (by omega)
  replace hYs := hYs.kept hg8 (fun k hk => by have h2 := Option.some.inj hk; omega)
  replace hNs := hNs.kept hg8 (fun k hk => by have h2 := Option.some.inj hk; omega)
  have z0 := (hZ.cell 0).trans (show _ = some (.int .i64 0) from rfl)
  have z1 := (hZ.cell 1).trans (show _ = some (.int .i64 0) from rfl)
  have z2 := (hZ.cell 2).trans (show _ = some (.int .i64 0) from rfl)
  have z3 := (hZ.cell 3).trans (show _ = some (.slice none 0 0) from rfl)
  have z4 := (hZ.cell 4).trans (show _ = some (.slice none 0 0) from rfl)
  have z5 := (hZ.cell 5).trans (show _ = some (.bool false) from rfl)
  have l0 := (hL.cell 0).trans (show _ = some (.int .i64 (1 + r1)) from rfl)
  have l1 := (hL.cell 1).trans (show _ = some (.int .i64 dy) from rfl)
  have l2 := (hL.cell 2).trans (show _ = some (.int .i64 (1 + r2)) from rfl)
  have l3 := (hL.cell 3).trans (show _ = some (.slice Y ys.length yc) from rfl)
  have l4 := (hL.cell 4).trans (show _ = some (.slice N' ns.length nc) from rfl)
  have l5 := (hL.cell 5).trans (show _ = some (.bool dn) from rfl)
  rcases (show r = 0 ∨ r = 1 ∨ r = 2 ∨ 2 < r by omega) with rfl | rfl | rfl | hr3
  · have hL2 := built_rdsV w8 [0, 99, 100] (by simp [maxLen])
    simp only [List.flatMap_cons, List.flatMap_nil, intC, List.append_nil, List.singleton_append] at hL2
    have HL2 := Lib.hid hL2; clear hL2
    go_wp2_with fail
    refine (among_is (some ⟨w8.heap.size, 0, none⟩) _ [0, 99, 100] (by simp) (by simp) p A c cs hcs (N + 100 + 2 + 2 + 2 + 2 + 2) (by omega) _ (hC.later (by repeat (first | exact Below.refl _ _ | refine Below.alloc ?_ (by first | exact Nat.le_refl _ | (simp <;> omega)) _ | refine Below.setCell ?_ (by first | exact Nat.le_refl _ | (simp <;> omega)) _))) HL2.out (fun ad h _ => by cases h; show w8.heap.size ≠ p; omega)).mono ?_
    rintro e w9 ⟨x, rfl, hx, hS9⟩
    clear z0 z1 z2 z3 z4 z5
    clear l0 l1 l2 l3 l4 l5
    have hg9 : w8.grownBy w9 (some p) := grown_tr (below_grown (by repeat (first | exact Below.refl _ _ | refine Below.alloc ?_ (by first | exact Nat.le_refl _ | (simp <;> omega)) _ | refine Below.setCell ?_ (by first | exact Nat.le_refl _ | (simp <;> omega)) _)) _) hS9.2
    replace hC := hS9.1
    have sz9 := hg9.size
    replace HG := grown_tr HG hg9
    replace hZ := hZ.grownB hg9 (by omega)
    replace hL := hL.grownB hg9 (by omega)
    replace hYs := hYs.kept hg9 (fun k hk => by have h2 := Option.some.inj hk; omega)
    replace hNs := hNs.kept hg9 (fun k hk => by have h2 := Option.some.inj hk; omega)
    have z0 := (hZ.cell 0).trans (show _ = some (.int .i64 0) from rfl)
    have z1 := (hZ.cell 1).trans (show _ = some (.int .i64 0) from rfl)
    have z2 := (hZ.cell 2).trans (show _ = some (.int .i64 0) from rfl)
    have z3 := (hZ.cell 3).trans (show _ = some (.slice none 0 0) from rfl)
    have z4 := (hZ.cell 4).trans (show _ = some (.slice none 0 0) from rfl)
    have z5 := (hZ.cell 5).trans (show _ = some (.bool false) from rfl)
    have l0 := (hL.cell 0).trans (show _ = some (.int .i64 (1 + r1)) from rfl)
    have l1 := (hL.cell 1).trans (show _ = some (.int .i64 dy) from rfl)
    have l2 := (hL.cell 2).trans (show _ = some (.int .i64 (1 + r2)) from rfl)
    have l3 := (hL.cell 3).trans (show _ = some (.slice Y ys.length yc) from rfl)
    have l4 := (hL.cell 4).trans (show _ = some (.slice N' ns.length nc) from rfl)
    have l5 := (hL.cell 5).trans (show _ = some (.bool dn) from rfl)
    have fhL0 := hL.frozen 0
    have yhZ := hZ.lt
    have yhL := hL.lt
    go_upto_region 10 with fail
    clear fhL0 yhZ yhL
    clear z0 z1 z2 z3 z4 z5
    clear l0 l1 l2 l3 l4 l5
    replace HG : w.grownBy (World.setCell w9 ⟨w6.heap.size, 0, none⟩ (.int .i64 x)) (some p) := (grown_store HG (g := w6.heap.size) (by omega) 0 (.int .i64 x))
    replace hC := (hC.store (g := w6.heap.size) (by omega) 0 (.int .i64 x))
    replace hZ := hZ.grownB (grown_set (j := 0) (grown_refl w9 (some (w6.heap.size))) (.int .i64 x)) (by omega)
    replace hL : Blk (World.setCell w9 ⟨w6.heap.size, 0, none⟩ (.int .i64 x)) (w6.heap.size) 35 #[.int .i64 x, .int .i64 dy, .int .i64 (1 + r2), .slice Y ys.length yc, .slice N' ns.length nc, .bool dn] := (hL.set_ 0 (.int .i64 x))
    replace hYs := hYs.kept (grown_set (j := 0) (grown_refl w9 (some (w6.heap.size))) (.int .i64 x)) (fun k hk => by have h2 := Option.some.inj hk; omega)
    replace hNs := hNs.kept (grown_set (j := 0) (grown_refl w9 (some (w6.heap.size))) (.int .i64 x)) (fun k hk => by have h2 := Option.some.inj hk; omega)
    generalize World.setCell w9 ⟨w6.heap.size, 0, none⟩ (.int .i64 x) = wS at *
    have z0 := (hZ.cell 0).trans (show _ = some (.int .i64 0) from rfl)
    have z1 := (hZ.cell 1).trans (show _ = some (.int .i64 0) from rfl)
    have z2 := (hZ.cell 2).trans (show _ = some (.int .i64 0) from rfl)
    have z3 := (hZ.cell 3).trans (show _ = some (.slice none 0 0) from rfl)
    have z4 := (hZ.cell 4).trans (show _ = some (.slice none 0 0) from rfl)
    have z5 := (hZ.cell 5).trans (show _ = some (.bool false) from rfl)
    have l0 := (hL.cell 0).trans (show _ = some (.int .i64 x) from rfl)
    have l1 := (hL.cell 1).trans (show _ = some (.int .i64 dy) from rfl)
    have l2 := (hL.cell 2).trans (show _ = some (.int .i64 (1 + r2)) from rfl)
    have l3 := (hL.cell 3).trans (show _ = some (.slice Y ys.length yc) from rfl)
    have l4 := (hL.cell 4).trans (show _ = some (.slice N' ns.length nc) from rfl)
    have l5 := (hL.cell 5).trans (show _ = some (.bool dn) from rfl)
    have fhZ0 := hZ.frozen 0
    have fhZ1 := hZ.frozen 1
    have fhZ2 := hZ.frozen 2
    have fhZ3 := hZ.frozen 3
    have fhZ4 := hZ.frozen 4
    have fhZ5 := hZ.frozen 5
    have yhZ := hZ.lt
    have yhL := hL.lt
    go_wp2
    clear fhZ0 fhZ1 fhZ2 fhZ3 fhZ4 fhZ5 yhZ yhL
    clear z0 z1 z2 z3 z4 z5
    clear l0 l1 l2 l3 l4 l5
    replace HG : w.grownBy (World.setCell (World.setCell (World.setCell (World.setCell (World.setCell (World.setCell wS ⟨w.heap.size, 0, none⟩ (.int .i64 x)) ⟨w.heap.size, 1, none⟩ (.int .i64 dy)) ⟨w.heap.size, 2, none⟩ (.int .i64 (1 + r2))) ⟨w.heap.size, 3, none⟩ (.slice Y ys.length yc)) ⟨w.heap.size, 4, none⟩ (.slice N' ns.length nc)) ⟨w.heap.size, 5, none⟩ (.bool dn)) (some p) := (grown_store (grown_store (grown_store (grown_store (grown_store (grown_store HG (g := w.heap.size) (by omega) 0 (.int .i64 x)) (g := w.heap.size) (by omega) 1 (.int .i64 dy)) (g := w.heap.size) (by omega) 2 (.int .i64 (1 + r2))) (g := w.heap.size) (by omega) 3 (.slice Y ys.length yc)) (g := w.heap.size) (by omega) 4 (.slice N' ns.length nc)) (g := w.heap.size) (by omega) 5 (.bool dn))
    replace hC := ((((((hC.store (g := w.heap.size) (by omega) 0 (.int .i64 x)).store (g := w.heap.size) (by omega) 1 (.int .i64 dy)).store (g := w.heap.size) (by omega) 2 (.int .i64 (1 + r2))).store (g := w.heap.size) (by omega) 3 (.slice Y ys.length yc)).store (g := w.heap.size) (by omega) 4 (.slice N' ns.length nc)).store (g := w.heap.size) (by omega) 5 (.bool dn))
    replace hZ : Blk (World.setCell (World.setCell (World.setCell (World.setCell (World.setCell (World.setCell wS ⟨w.heap.size, 0, none⟩ (.int .i64 x)) ⟨w.heap.size, 1, none⟩ (.int .i64 dy)) ⟨w.heap.size, 2, none⟩ (.int .i64 (1 + r2))) ⟨w.heap.size, 3, none⟩ (.slice Y ys.length yc)) ⟨w.heap.size, 4, none⟩ (.slice N' ns.length nc)) ⟨w.heap.size, 5, none⟩ (.bool dn)) (w.heap.size) 35 #[.int .i64 x, .int .i64 dy, .int .i64 (1 + r2), .slice Y ys.length yc, .slice N' ns.length nc, .bool dn] := ((((((hZ.set_ 0 (.int .i64 x)).set_ 1 (.int .i64 dy)).set_ 2 (.int .i64 (1 + r2))).set_ 3 (.slice Y ys.length yc)).set_ 4 (.slice N' ns.length nc)).set_ 5 (.bool dn))
    replace hL := hL.grownB (grown_set (j := 5) (grown_set (j := 4) (grown_set (j := 3) (grown_set (j := 2) (grown_set (j := 1) (grown_set (j := 0) (grown_refl wS (some (w.heap.size))) (.int .i64 x)) (.int .i64 dy)) (.int .i64 (1 + r2))) (.slice Y ys.length yc)) (.slice N' ns.length nc)) (.bool dn)) (by omega)
    replace hYs := hYs.kept (grown_set (j := 5) (grown_set (j := 4) (grown_set (j := 3) (grown_set (j := 2) (grown_set (j := 1) (grown_set (j := 0) (grown_refl wS (some (w.heap.size))) (.int .i64 x)) (.int .i64 dy)) (.int .i64 (1 + r2))) (.slice Y ys.length yc)) (.slice N' ns.length nc)) (.bool dn)) (fun k hk => by have h2 := Option.some.inj hk; omega)
    replace hNs := hNs.kept (grown_set (j := 5) (grown_set (j := 4) (grown_set (j := 3) (grown_set (j := 2) (grown_set (j := 1) (grown_set (j := 0) (grown_refl wS (some (w.heap.size))) (.int .i64 x)) (.int .i64 dy)) (.int .i64 (1 + r2))) (.slice Y ys.length yc)) (.slice N' ns.length nc)) (.bool dn)) (fun k hk => by have h2 := Option.some.inj hk; omega)
    generalize World.setCell (World.setCell (World.setCell (World.setCell (World.setCell (World.setCell wS ⟨w.heap.size, 0, none⟩ (.int .i64 x)) ⟨w.heap.size, 1, none⟩ (.int .i64 dy)) ⟨w.heap.size, 2, none⟩ (.int .i64 (1 + r2))) ⟨w.heap.size, 3, none⟩ (.slice Y ys.length yc)) ⟨w.heap.size, 4, none⟩ (.slice N' ns.length nc)) ⟨w.heap.size, 5, none⟩ (.bool dn) = W9 at *
    have z0 := (hZ.cell 0).trans (show _ = some (.int .i64 x) from rfl)
    have z1 := (hZ.cell 1).trans (show _ = some (.int .i64 dy) from rfl)
    have z2 := (hZ.cell 2).trans (show _ = some (.int .i64 (1 + r2)) from rfl)
    have z3 := (hZ.cell 3).trans (show _ = some (.slice Y ys.length yc) from rfl)
    have z4 := (hZ.cell 4).trans (show _ = some (.slice N' ns.length nc) from rfl)
    have z5 := (hZ.cell 5).trans (show _ = some (.bool dn) from rfl)
    have l0 := (hL.cell 0).trans (show _ = some (.int .i64 x) from rfl)
    have l1 := (hL.cell 1).trans (show _ = some (.int .i64 dy) from rfl)
    have l2 := (hL.cell 2).trans (show _ = some (.int .i64 (1 + r2)) from rfl)
    have l3 := (hL.cell 3).trans (show _ = some (.slice Y ys.length yc) from rfl)
    have l4 := (hL.cell 4).trans (show _ = some (.slice N' ns.length nc) from rfl)
    have l5 := (hL.cell 5).trans (show _ = some (.bool dn) from rfl)
    have hLl := hL.lt
    refine bodyPost_ret (v := .agg #[.int .i64 x, .int .i64 dy, .int .i64 (1 + r2), .slice Y ys.length yc, .slice N' ns.length nc, .bool dn]) (by simp [results, Tryd.results53, go_sem, z0, z1, z2, z3, z4, z5]) rfl ?_
    exact ⟨⟨x, dy, (1 + r2), ys, ns, dn⟩, Y, N', yc, nc, rfl, hly, hln, ⟨by simp only [List.mem_cons, List.not_mem_nil, or_false] at hx; show -10 ≤ x ∧ x ≤ 4000; omega, by show -10 ≤ dy ∧ dy ≤ 4000; omega, by show -10 ≤ (1 + r2) ∧ (1 + r2) ≤ 4000; omega⟩, hYs.wide (by omega) (by omega), hNs.wide (by omega) (by omega), hC.mono (by omega), HG⟩
  · have hL2 := built_rdsV w8 [-1, 3651] (by simp [maxLen])
    simp only [List.flatMap_cons, List.flatMap_nil, intC, List.append_nil, List.singleton_append] at hL2
    have HL2 := Lib.hid hL2; clear hL2
    go_wp2_with fail
    refine (among_is (some ⟨w8.heap.size, 0, none⟩) _ [-1, 3651] (by simp) (by simp) p A c cs hcs (N + 100 + 2 + 2 + 2 + 2 + 2) (by omega) _ (hC.later (by repeat (first | exact Below.refl _ _ | refine Below.alloc ?_ (by first | exact Nat.le_refl _ | (simp <;> omega)) _ | refine Below.setCell ?_ (by first | exact Nat.le_refl _ | (simp <;> omega)) _))) HL2.out (fun ad h _ => by cases h; show w8.heap.size ≠ p; omega)).mono ?_
    rintro e w9 ⟨x, rfl, hx, hS9⟩
    clear z0 z1 z2 z3 z4 z5
    clear l0 l1 l2 l3 l4 l5
    have hg9 : w8.grownBy w9 (some p) := grown_tr (below_grown (by repeat (first | exact Below.refl _ _ | refine Below.alloc ?_ (by first | exact Nat.le_refl _ | (simp <;> omega)) _ | refine Below.setCell ?_ (by first | exact Nat.le_refl _ | (simp <;> omega)) _)) _) hS9.2
    replace hC := hS9.1
    have sz9 := hg9.size
    replace HG := grown_tr HG hg9
    replace hZ := hZ.grownB hg9 (by omega)
    replace hL := hL.grownB hg9 (by omega)
    replace hYs := hYs.kept hg9 (fun k hk => by have h2 := Option.some.inj hk; omega)
    replace hNs := hNs.kept hg9 (fun k hk => by have h2 := Option.some.inj hk; omega)
    have z0 := (hZ.cell 0).trans (show _ = some (.int .i64 0) from rfl)
    have z1 := (hZ.cell 1).trans (show _ = some (.int .i64 0) from rfl)
    have z2 := (hZ.cell 2).trans (show _ = some (.int .i64 0) from rfl)
    have z3 := (hZ.cell 3).trans (show _ = some (.slice none 0 0) from rfl)
    have z4 := (hZ.cell 4).trans (show _ = some (.slice none 0 0) from rfl)
    have z5 := (hZ.cell 5).trans (show _ = some (.bool false) from rfl)
    have l0 := (hL.cell 0).trans (show _ = some (.int .i64 (1 + r1)) from rfl)
    have l1 := (hL.cell 1).trans (show _ = some (.int .i64 dy) from rfl)
    have l2 := (hL.cell 2).trans (show _ = some (.int .i64 (1 + r2)) from rfl)
    have l3 := (hL.cell 3).trans (show _ = some (.slice Y ys.length yc) from rfl)
    have l4 := (hL.cell 4).trans (show _ = some (.slice N' ns.length nc) from rfl)
    have l5 := (hL.cell 5).trans (show _ = some (.bool dn) from rfl)
    have fhL1 := hL.frozen 1
    have yhZ := hZ.lt
    have yhL := hL.lt
    go_upto_region 10 with fail
    clear fhL1 yhZ yhL
    clear z0 z1 z2 z3 z4 z5
    clear l0 l1 l2 l3 l4 l5
    replace HG : w.grownBy (World.setCell w9 ⟨w6.heap.size, 1, none⟩ (.int .i64 x)) (some p) := (grown_store HG (g := w6.heap.size) (by omega) 1 (.int .i64 x))
    replace hC := (hC.store (g := w6.heap.size) (by omega) 1 (.int .i64 x))
    replace hZ := hZ.grownB (grown_set (j := 1) (grown_refl w9 (some (w6.heap.size))) (.int .i64 x)) (by omega)
    replace hL : Blk (World.setCell w9 ⟨w6.heap.size, 1, none⟩ (.int .i64 x)) (w6.heap.size) 35 #[.int .i64 (1 + r1), .int .i64 x, .int .i64 (1 + r2), .slice Y ys.length yc, .slice N' ns.length nc, .bool dn] := (hL.set_ 1 (.int .i64 x))
    replace hYs := hYs.kept (grown_set (j := 1) (grown_refl w9 (some (w6.heap.size))) (.int .i64 x)) (fun k hk => by have h2 := Option.some.inj hk; omega)
    replace hNs := hNs.kept (grown_set (j := 1) (grown_refl w9 (some (w6.heap.size))) (.int .i64 x)) (fun k hk => by have h2 := Option.some.inj hk; omega)
    generalize World.setCell w9 ⟨w6.heap.size, 1, none⟩ (.int .i64 x) = wS at *
    have z0 := (hZ.cell 0).trans (show _ = some (.int .i64 0) from rfl)
    have z1 := (hZ.cell 1).trans (show _ = some (.int .i64 0) from rfl)
    have z2 := (hZ.cell 2).trans (show _ = some (.int .i64 0) from rfl)
    have z3 := (hZ.cell 3).trans (show _ = some (.slice none 0 0) from rfl)
    have z4 := (hZ.cell 4).trans (show _ = some (.slice none 0 0) from rfl)
    have z5 := (hZ.cell 5).trans (show _ = some (.bool false) from rfl)
    have l0 := (hL.cell 0).trans (show _ = some (.int .i64 (1 + r1)) from rfl)
    have l1 := (hL.cell 1).trans (show _ = some (.int .i64 x) from rfl)
    have l2 := (hL.cell 2).trans (show _ = some (.int .i64 (1 + r2)) from rfl)
    have l3 := (hL.cell 3).trans (show _ = some (.slice Y ys.length yc) from rfl)
    have l4 := (hL.cell 4).trans (show _ = some (.slice N' ns.length nc) from rfl)
    have l5 := (hL.cell 5).trans (show _ = some (.bool dn) from rfl)
    have fhZ0 := hZ.frozen 0
    have fhZ1 := hZ.frozen 1
    have fhZ2 := hZ.frozen 2
    have fhZ3 := hZ.frozen 3
    have fhZ4 := hZ.frozen 4
    have fhZ5 := hZ.frozen 5
    have yhZ := hZ.lt
    have yhL := hL.lt
    go_wp2
    clear fhZ0 fhZ1 fhZ2 fhZ3 fhZ4 fhZ5 yhZ yhL
    clear z0 z1 z2 z3 z4 z5
    clear l0 l1 l2 l3 l4 l5
    replace HG : w.grownBy (World.setCell (World.setCell (World.setCell (World.setCell (World.setCell (World.setCell wS ⟨w.heap.size, 0, none⟩ (.int .i64 (1 + r1))) ⟨w.heap.size, 1, none⟩ (.int .i64 x)) ⟨w.heap.size, 2, none⟩ (.int .i64 (1 + r2))) ⟨w.heap.size, 3, none⟩ (.slice Y ys.length yc)) ⟨w.heap.size, 4, none⟩ (.slice N' ns.length nc)) ⟨w.heap.size, 5, none⟩ (.bool dn)) (some p) := (grown_store (grown_store (grown_store (grown_store (grown_store (grown_store HG (g := w.heap.size) (by omega) 0 (.int .i64 (1 + r1))) (g := w.heap.size) (by omega) 1 (.int .i64 x)) (g := w.heap.size) (by omega) 2 (.int .i64 (1 + r2))) (g := w.heap.size) (by omega) 3 (.slice Y ys.length yc)) (g := w.heap.size) (by omega) 4 (.slice N' ns.length nc)) (g := w.heap.size) (by omega) 5 (.bool dn))
    replace hC := ((((((hC.store (g := w.heap.size) (by omega) 0 (.int .i64 (1 + r1))).store (g := w.heap.size) (by omega) 1 (.int .i64 x)).store (g := w.heap.size) (by omega) 2 (.int .i64 (1 + r2))).store (g := w.heap.size) (by omega) 3 (.slice Y ys.length yc)).store (g := w.heap.size) (by omega) 4 (.slice N' ns.length nc)).store (g := w.heap.size) (by omega) 5 (.bool dn))
    replace hZ : Blk (World.setCell (World.setCell (World.setCell (World.setCell (World.setCell (World.setCell wS ⟨w.heap.size, 0, none⟩ (.int .i64 (1 + r1))) ⟨w.heap.size, 1, none⟩ (.int .i64 x)) ⟨w.heap.size, 2, none⟩ (.int .i64 (1 + r2))) ⟨w.heap.size, 3, none⟩ (.slice Y ys.length yc)) ⟨w.heap.size, 4, none⟩ (.slice N' ns.length nc)) ⟨w.heap.size, 5, none⟩ (.bool dn)) (w.heap.size) 35 #[.int .i64 (1 + r1), .int .i64 x, .int .i64 (1 + r2), .slice Y ys.length yc, .slice N' ns.length nc, .bool dn] := ((((((hZ.set_ 0 (.int .i64 (1 + r1))).set_ 1 (.int .i64 x)).set_ 2 (.int .i64 (1 + r2))).set_ 3 (.slice Y ys.length yc)).set_ 4 (.slice N' ns.length nc)).set_ 5 (.bool dn))
    replace hL := hL.grownB (grown_set (j := 5) (grown_set (j := 4) (grown_set (j := 3) (grown_set (j := 2) (grown_set (j := 1) (grown_set (j := 0) (grown_refl wS (some (w.heap.size))) (.int .i64 (1 + r1))) (.int .i64 x)) (.int .i64 (1 + r2))) (.slice Y ys.length yc)) (.slice N' ns.length nc)) (.bool dn)) (by omega)
    replace hYs := hYs.kept (grown_set (j := 5) (grown_set (j := 4) (grown_set (j := 3) (grown_set (j := 2) (grown_set (j := 1) (grown_set (j := 0) (grown_refl wS (some (w.heap.size))) (.int .i64 (1 + r1))) (.int .i64 x)) (.int .i64 (1 + r2))) (.slice Y ys.length yc)) (.slice N' ns.length nc)) (.bool dn)) (fun k hk => by have h2 := Option.some.inj hk; omega)
    replace hNs := hNs.kept (grown_set (j := 5) (grown_set (j := 4) (grown_set (j := 3) (grown_set (j := 2) (grown_set (j := 1) (grown_set (j := 0) (grown_refl wS (some (w.heap.size))) (.int .i64 (1 + r1))) (.int .i64 x)) (.int .i64 (1 + r2))) (.slice Y ys.length yc)) (.slice N' ns.length nc)) (.bool dn)) (fun k hk => by have h2 := Option.some.inj hk; omega)
    generalize World.setCell (World.setCell (World.setCell (World.setCell (World.setCell (World.setCell wS ⟨w.heap.size, 0, none⟩ (.int .i64 (1 + r1))) ⟨w.heap.size, 1, none⟩ (.int .i64 x)) ⟨w.heap.size, 2, none⟩ (.int .i64 (1 + r2))) ⟨w.heap.size, 3, none⟩ (.slice Y ys.length yc)) ⟨w.heap.size, 4, none⟩ (.slice N' ns.length nc)) ⟨w.heap.size, 5, none⟩ (.bool dn) = W9 at *
    have z0 := (hZ.cell 0).trans (show _ = some (.int .i64 (1 + r1)) from rfl)
    have z1 := (hZ.cell 1).trans (show _ = some (.int .i64 x) from rfl)
    have z2 := (hZ.cell 2).trans (show _ = some (.int .i64 (1 + r2)) from rfl)
    have z3 := (hZ.cell 3).trans (show _ = some (.slice Y ys.length yc) from rfl)
    have z4 := (hZ.cell 4).trans (show _ = some (.slice N' ns.length nc) from rfl)
    have z5 := (hZ.cell 5).trans (show _ = some (.bool dn) from rfl)
    have l0 := (hL.cell 0).trans (show _ = some (.int .i64 (1 + r1)) from rfl)
    have l1 := (hL.cell 1).trans (show _ = some (.int .i64 x) from rfl)
    have l2 := (hL.cell 2).trans (show _ = some (.int .i64 (1 + r2)) from rfl)
    have l3 := (hL.cell 3).trans (show _ = some (.slice Y ys.length yc) from rfl)
    have l4 := (hL.cell 4).trans (show _ = some (.slice N' ns.length nc) from rfl)
    have l5 := (hL.cell 5).trans (show _ = some (.bool dn) from rfl)
    have hLl := hL.lt
    refine bodyPost_ret (v := .agg #[.int .i64 (1 + r1), .int .i64 x, .int .i64 (1 + r2), .slice Y ys.length yc, .slice N' ns.length nc, .bool dn]) (by simp [results, Tryd.results53, go_sem, z0, z1, z2, z3, z4, z5]) rfl ?_
    exact ⟨⟨(1 + r1), x, (1 + r2), ys, ns, dn⟩, Y, N', yc, nc, rfl, hly, hln, ⟨by show -10 ≤ (1 + r1) ∧ (1 + r1) ≤ 4000; omega, by simp only [List.mem_cons, List.not_mem_nil, or_false] at hx; show -10 ≤ x ∧ x ≤ 4000; omega, by show -10 ≤ (1 + r2) ∧ (1 + r2) ≤ 4000; omega⟩, hYs.wide (by omega) (by omega), hNs.wide (by omega) (by omega), hC.mono (by omega), HG⟩
  · have hL2 := built_rdsV w8 [0, 4] (by simp [maxLen])
    simp only [List.flatMap_cons, List.flatMap_nil, intC, List.append_nil, List.singleton_append] at hL2
    have HL2 := Lib.hid hL2; clear hL2
    go_wp2_with fail
    refine (among_is (some ⟨w8.heap.size, 0, none⟩) _ [0, 4] (by simp) (by simp) p A c cs hcs (N + 100 + 2 + 2 + 2 + 2 + 2) (by omega) _ (hC.later (by repeat (first | exact Below.refl _ _ | refine Below.alloc ?_ (by first | exact Nat.le_refl _ | (simp <;> omega)) _ | refine Below.setCell ?_ (by first | exact Nat.le_refl _ | (simp <;> omega)) _))) HL2.out (fun ad h _ => by cases h; show w8.heap.size ≠ p; omega)).mono ?_
    rintro e w9 ⟨x, rfl, hx, hS9⟩
    clear z0 z1 z2 z3 z4 z5
    clear l0 l1 l2 l3 l4 l5
    have hg9 : w8.grownBy w9 (some p) := grown_tr (below_grown (by repeat (first | exact Below.refl _ _ | refine Below.alloc ?_ (by first | exact Nat.le_refl _ | (simp <;> omega)) _ | refine Below.setCell ?_ (by first | exact Nat.le_refl _ | (simp <;> omega)) _)) _) hS9.2
    replace hC := hS9.1
    have sz9 := hg9.size
    replace HG := grown_tr HG hg9
    replace hZ := hZ.grownB hg9 (by omega)
    replace hL := hL.grownB hg9 (by omega)
    replace hYs := hYs.kept hg9 (fun k hk => by have h2 := Option.some.inj hk; omega)
    replace hNs := hNs.kept hg9 (fun k hk => by have h2 := Option.some.inj hk; omega)
    have z0 := (hZ.cell 0).trans (show _ = some (.int .i64 0) from rfl)
    have z1 := (hZ.cell 1).trans (show _ = some (.int .i64 0) from rfl)
    have z2 := (hZ.cell 2).trans (show _ = some (.int .i64 0) from rfl)
    have z3 := (hZ.cell 3).trans (show _ = some (.slice none 0 0) from rfl)
    have z4 := (hZ.cell 4).trans (show _ = some (.slice none 0 0) from rfl)
    have z5 := (hZ.cell 5).trans (show _ = some (.bool false) from rfl)
    have l0 := (hL.cell 0).trans (show _ = some (.int .i64 (1 + r1)) from rfl)
    have l1 := (hL.cell 1).trans (show _ = some (.int .i64 dy) from rfl)
    have l2 := (hL.cell 2).trans (show _ = some (.int .i64 (1 + r2)) from rfl)
    have l3 := (hL.cell 3).trans (show _ = some (.slice Y ys.length yc) from rfl)
    have l4 := (hL.cell 4).trans (show _ = some (.slice N' ns.length nc) from rfl)
    have l5 := (hL.cell 5).trans (show _ = some (.bool dn) from rfl)
    have fhL2 := hL.frozen 2
    have yhZ := hZ.lt
    have yhL := hL.lt
    go_upto_region 10 with fail
    clear fhL2 yhZ yhL
    clear z0 z1 z2 z3 z4 z5
    clear l0 l1 l2 l3 l4 l5
    replace HG : w.grownBy (World.setCell w9 ⟨w6.heap.size, 2, none⟩ (.int .i64 x)) (some p) := (grown_store HG (g := w6.heap.size) (by omega) 2 (.int .i64 x))
    replace hC := (hC.store (g := w6.heap.size) (by omega) 2 (.int .i64 x))
    replace hZ := hZ.grownB (grown_set (j := 2) (grown_refl w9 (some (w6.heap.size))) (.int .i64 x)) (by omega)
    replace hL : Blk (World.setCell w9 ⟨w6.heap.size, 2, none⟩ (.int .i64 x)) (w6.heap.size) 35 #[.int .i64 (1 + r1), .int .i64 dy, .int .i64 x, .slice Y ys.length yc, .slice N' ns.length nc, .bool dn] := (hL.set_ 2 (.int .i64 x))
    replace hYs := hYs.kept (grown_set (j := 2) (grown_refl w9 (some (w6.heap.size))) (.int .i64 x)) (fun k hk => by have h2 := Option.some.inj hk; omega)
    replace hNs := hNs.kept (grown_set (j := 2) (grown_refl w9 (some (w6.heap.size))) (.int .i64 x)) (fun k hk => by have h2 := Option.some.inj hk; omega)
    generalize World.setCell w9 ⟨w6.heap.size, 2, none⟩ (.int .i64 x) = wS at *
    have z0 := (hZ.cell 0).trans (show _ = some (.int .i64 0) from rfl)
    have z1 := (hZ.cell 1).trans (show _ = some (.int .i64 0) from rfl)
    have z2 := (hZ.cell 2).trans (show _ = some (.int .i64 0) from rfl)
    have z3 := (hZ.cell 3).trans (show _ = some (.slice none 0 0) from rfl)
    have z4 := (hZ.cell 4).trans (show _ = some (.slice none 0 0) from rfl)
    have z5 := (hZ.cell 5).trans (show _ = some (.bool false) from rfl)
    have l0 := (hL.cell 0).trans (show _ = some (.int .i64 (1 + r1)) from rfl)
    have l1 := (hL.cell 1).trans (show _ = some (.int .i64 dy) from rfl)
    have l2 := (hL.cell 2).trans (show _ = some (.int .i64 x) from rfl)
    have l3 := (hL.cell 3).trans (show _ = some (.slice Y ys.length yc) from rfl)
    have l4 := (hL.cell 4).trans (show _ = some (.slice N' ns.length nc) from rfl)
    have l5 := (hL.cell 5).trans (show _ = some (.bool dn) from rfl)
    have fhZ0 := hZ.frozen 0
    have fhZ1 := hZ.frozen 1
    have fhZ2 := hZ.frozen 2
    have fhZ3 := hZ.frozen 3
    have fhZ4 := hZ.frozen 4
    have fhZ5 := hZ.frozen 5
    have yhZ := hZ.lt
    have yhL := hL.lt
    go_wp2
    clear fhZ0 fhZ1 fhZ2 fhZ3 fhZ4 fhZ5 yhZ yhL
    clear z0 z1 z2 z3 z4 z5
    clear l0 l1 l2 l3 l4 l5
    replace HG : w.grownBy (World.setCell (World.setCell (World.setCell (World.setCell (World.setCell (World.setCell wS ⟨w.heap.size, 0, none⟩ (.int .i64 (1 + r1))) ⟨w.heap.size, 1, none⟩ (.int .i64 dy)) ⟨w.heap.size, 2, none⟩ (.int .i64 x)) ⟨w.heap.size, 3, none⟩ (.slice Y ys.length yc)) ⟨w.heap.size, 4, none⟩ (.slice N' ns.length nc)) ⟨w.heap.size, 5, none⟩ (.bool dn)) (some p) := (grown_store (grown_store (grown_store (grown_store (grown_store (grown_store HG (g := w.heap.size) (by omega) 0 (.int .i64 (1 + r1))) (g := w.heap.size) (by omega) 1 (.int .i64 dy)) (g := w.heap.size) (by omega) 2 (.int .i64 x)) (g := w.heap.size) (by omega) 3 (.slice Y ys.length yc)) (g := w.heap.size) (by omega) 4 (.slice N' ns.length nc)) (g := w.heap.size) (by omega) 5 (.bool dn))
    replace hC := ((((((hC.store (g := w.heap.size) (by omega) 0 (.int .i64 (1 + r1))).store (g := w.heap.size) (by omega) 1 (.int .i64 dy)).store (g := w.heap.size) (by omega) 2 (.int .i64 x)).store (g := w.heap.size) (by omega) 3 (.slice Y ys.length yc)).store (g := w.heap.size) (by omega) 4 (.slice N' ns.length nc)).store (g := w.heap.size) (by omega) 5 (.bool dn))
    replace hZ : Blk (World.setCell (World.setCell (World.setCell (World.setCell (World.setCell (World.setCell wS ⟨w.heap.size, 0, none⟩ (.int .i64 (1 + r1))) ⟨w.heap.size, 1, none⟩ (.int .i64 dy)) ⟨w.heap.size, 2, none⟩ (.int .i64 x)) ⟨w.heap.size, 3, none⟩ (.slice Y ys.length yc)) ⟨w.heap.size, 4, none⟩ (.slice N' ns.length nc)) ⟨w.heap.size, 5, none⟩ (.bool dn)) (w.heap.size) 35 #[.int .i64 (1 + r1), .int .i64 dy, .int .i64 x, .slice Y ys.length yc, .slice N' ns.length nc, .bool dn] := ((((((hZ.set_ 0 (.int .i64 (1 + r1))).set_ 1 (.int .i64 dy)).set_ 2 (.int .i64 x)).set_ 3 (.slice Y ys.length yc)).set_ 4 (.slice N' ns.length nc)).set_ 5 (.bool dn))
    replace hL := hL.grownB (grown_set (j := 5) (grown_set (j := 4) (grown_set (j := 3) (grown_set (j := 2) (grown_set (j := 1) (grown_set (j := 0) (grown_refl wS (some (w.heap.size))) (.int .i64 (1 + r1))) (.int .i64 dy)) (.int .i64 x)) (.slice Y ys.length yc)) (.slice N' ns.length nc)) (.bool dn)) (by omega)
    replace hYs := hYs.kept (grown_set (j := 5) (grown_set (j := 4) (grown_set (j := 3) (grown_set (j := 2) (grown_set (j := 1) (grown_set (j := 0) (grown_refl wS (some (w.heap.size))) (.int .i64 (1 + r1))) (.int .i64 dy)) (.int .i64 x)) (.slice Y ys.length yc)) (.slice N' ns.length nc)) (.bool dn)) (fun k hk => by have h2 := Option.some.inj hk; omega)
    replace hNs := hNs.kept (grown_set (j := 5) (grown_set (j := 4) (grown_set (j := 3) (grown_set (j := 2) (grown_set (j := 1) (grown_set (j := 0) (grown_refl wS (some (w.heap.size))) (.int .i64 (1 + r1))) (.int .i64 dy)) (.int .i64 x)) (.slice Y ys.length yc)) (.slice N' ns.length nc)) (.bool dn)) (fun k hk => by have h2 := Option.some.inj hk; omega)
    generalize World.setCell (World.setCell (World.setCell (World.setCell (World.setCell (World.setCell wS ⟨w.heap.size, 0, none⟩ (.int .i64 (1 + r1))) ⟨w.heap.size, 1, none⟩ (.int .i64 dy)) ⟨w.heap.size, 2, none⟩ (.int .i64 x)) ⟨w.heap.size, 3, none⟩ (.slice Y ys.length yc)) ⟨w.heap.size, 4, none⟩ (.slice N' ns.length nc)) ⟨w.heap.size, 5, none⟩ (.bool dn) = W9 at *
    have z0 := (hZ.cell 0).trans (show _ = some (.int .i64 (1 + r1)) from rfl)
    have z1 := (hZ.cell 1).trans (show _ = some (.int .i64 dy) from rfl)
    have z2 := (hZ.cell 2).trans (show _ = some (.int .i64 x) from rfl)
    have z3 := (hZ.cell 3).trans (show _ = some (.slice Y ys.length yc) from rfl)
    have z4 := (hZ.cell 4).trans (show _ = some (.slice N' ns.length nc) from rfl)
    have z5 := (hZ.cell 5).trans (show _ = some (.bool dn) from rfl)
    have l0 := (hL.cell 0).trans (show _ = some (.int .i64 (1 + r1)) from rfl)
    have l1 := (hL.cell 1).trans (show _ = some (.int .i64 dy) from rfl)
    have l2 := (hL.cell 2).trans (show _ = some (.int .i64 x) from rfl)
    have l3 := (hL.cell 3).trans (show _ = some (.slice Y ys.length yc) from rfl)
    have l4 := (hL.cell 4).trans (show _ = some (.slice N' ns.length nc) from rfl)
    have l5 := (hL.cell 5).trans (show _ = some (.bool dn) from rfl)
    have hLl := hL.lt
    refine bodyPost_ret (v := .agg #[.int .i64 (1 + r1), .int .i64 dy, .int .i64 x, .slice Y ys.length yc, .slice N' ns.length nc, .bool dn]) (by simp [results, Tryd.results53, go_sem, z0, z1, z2, z3, z4, z5]) rfl ?_
    exact ⟨⟨(1 + r1), dy, x, ys, ns, dn⟩, Y, N', yc, nc, rfl, hly, hln, ⟨by show -10 ≤ (1 + r1) ∧ (1 + r1) ≤ 4000; omega, by show -10 ≤ dy ∧ dy ≤ 4000; omega, by simp only [List.mem_cons, List.not_mem_nil, or_false] at hx; show -10 ≤ x ∧ x ≤ 4000; omega⟩, hYs.wide (by omega) (by omega), hNs.wide (by omega) (by omega), hC.mono (by omega), HG⟩
  · have h0 : (r == 0) = false := beq_eq_false_iff_ne.2 (by omega)
    have h1 : (r == 1) = false := beq_eq_false_iff_ne.2 (by omega)
    have h2 : (r == 2) = false := beq_eq_false_iff_ne.2 (by omega)
    have fhZ0 := hZ.frozen 0
    have fhZ1 := hZ.frozen 1
    have fhZ2 := hZ.frozen 2
    have fhZ3 := hZ.frozen 3
    have fhZ4 := hZ.frozen 4
    have fhZ5 := hZ.frozen 5
    have yhZ := hZ.lt
    have yhL := hL.lt
    go_wp2
    clear fhZ0 fhZ1 fhZ2 fhZ3 fhZ4 fhZ5 yhZ yhL
    clear z0 z1 z2 z3 z4 z5
    clear l0 l1 l2 l3 l4 l5
    replace HG : w.grownBy (World.setCell (World.setCell (World.setCell (World.setCell (World.setCell (World.setCell w8 ⟨w.heap.size, 0, none⟩ (.int .i64 (1 + r1))) ⟨w.heap.size, 1, none⟩ (.int .i64 dy)) ⟨w.heap.size, 2, none⟩ (.int .i64 (1 + r2))) ⟨w.heap.size, 3, none⟩ (.slice Y ys.length yc)) ⟨w.heap.size, 4, none⟩ (.slice N' ns.length nc)) ⟨w.heap.size, 5, none⟩ (.bool dn)) (some p) := (grown_store (grown_store (grown_store (grown_store (grown_store (grown_store HG (g := w.heap.size) (by omega) 0 (.int .i64 (1 + r1))) (g := w.heap.size) (by omega) 1 (.int .i64 dy)) (g := w.heap.size) (by omega) 2 (.int .i64 (1 + r2))) (g := w.heap.size) (by omega) 3 (.slice Y ys.length yc)) (g := w.heap.size) (by omega) 4 (.slice N' ns.length nc)) (g := w.heap.size) (by omega) 5 (.bool dn))
    replace hC := ((((((hC.store (g := w.heap.size) (by omega) 0 (.int .i64 (1 + r1))).store (g := w.heap.size) (by omega) 1 (.int .i64 dy)).store (g := w.heap.size) (by omega) 2 (.int .i64 (1 + r2))).store (g := w.heap.size) (by omega) 3 (.slice Y ys.length yc)).store (g := w.heap.size) (by omega) 4 (.slice N' ns.length nc)).store (g := w.heap.size) (by omega) 5 (.bool dn))
    replace hZ : Blk (World.setCell (World.setCell (World.setCell (World.setCell (World.setCell (World.setCell w8 ⟨w.heap.size, 0, none⟩ (.int .i64 (1 + r1))) ⟨w.heap.size, 1, none⟩ (.int .i64 dy)) ⟨w.heap.size, 2, none⟩ (.int .i64 (1 + r2))) ⟨w.heap.size, 3, none⟩ (.slice Y ys.length yc)) ⟨w.heap.size, 4, none⟩ (.slice N' ns.length nc)) ⟨w.heap.size, 5, none⟩ (.bool dn)) (w.heap.size) 35 #[.int .i64 (1 + r1), .int .i64 dy, .int .i64 (1 + r2), .slice Y ys.length yc, .slice N' ns.length nc, .bool dn] := ((((((hZ.set_ 0 (.int .i64 (1 + r1))).set_ 1 (.int .i64 dy)).set_ 2 (.int .i64 (1 + r2))).set_ 3 (.slice Y ys.length yc)).set_ 4 (.slice N' ns.length nc)).set_ 5 (.bool dn))
    replace hL := hL.grownB (grown_set (j := 5) (grown_set (j := 4) (grown_set (j := 3) (grown_set (j := 2) (grown_set (j := 1) (grown_set (j := 0) (grown_refl w8 (some (w.heap.size))) (.int .i64 (1 + r1))) (.int .i64 dy)) (.int .i64 (1 + r2))) (.slice Y ys.length yc)) (.slice N' ns.length nc)) (.bool dn)) (by omega)
    replace hYs := hYs.kept (grown_set (j := 5) (grown_set (j := 4) (grown_set (j := 3) (grown_set (j := 2) (grown_set (j := 1) (grown_set (j := 0) (grown_refl w8 (some (w.heap.size))) (.int .i64 (1 + r1))) (.int .i64 dy)) (.int .i64 (1 + r2))) (.slice Y ys.length yc)) (.slice N' ns.length nc)) (.bool dn)) (fun k hk => by have h2 := Option.some.inj hk; omega)
    replace hNs := hNs.kept (grown_set (j := 5) (grown_set (j := 4) (grown_set (j := 3) (grown_set (j := 2) (grown_set (j := 1) (grown_set (j := 0) (grown_refl w8 (some (w.heap.size))) (.int .i64 (1 + r1))) (.int .i64 dy)) (.int .i64 (1 + r2))) (.slice Y ys.length yc)) (.slice N' ns.length nc)) (.bool dn)) (fun k hk => by have h2 := Option.some.inj hk; omega)
    generalize World.setCell (World.setCell (World.setCell (World.setCell (World.setCell (World.setCell w8 ⟨w.heap.size, 0, none⟩ (.int .i64 (1 + r1))) ⟨w.heap.size, 1, none⟩ (.int .i64 dy)) ⟨w.heap.size, 2, none⟩ (.int .i64 (1 + r2))) ⟨w.heap.size, 3, none⟩ (.slice Y ys.length yc)) ⟨w.heap.size, 4, none⟩ (.slice N' ns.length nc)) ⟨w.heap.size, 5, none⟩ (.bool dn) = W9 at *
    have z0 := (hZ.cell 0).trans (show _ = some (.int .i64 (1 + r1)) from rfl)
    have z1 := (hZ.cell 1).trans (show _ = some (.int .i64 dy) from rfl)
    have z2 := (hZ.cell 2).trans (show _ = some (.int .i64 (1 + r2)) from rfl)
    have z3 := (hZ.cell 3).trans (show _ = some (.slice Y ys.length yc) from rfl)
    have z4 := (hZ.cell 4).trans (show _ = some (.slice N' ns.length nc) from rfl)
    have z5 := (hZ.cell 5).trans (show _ = some (.bool dn) from rfl)
    have l0 := (hL.cell 0).trans (show _ = some (.int .i64 (1 + r1)) from rfl)
    have l1 := (hL.cell 1).trans (show _ = some (.int .i64 dy) from rfl)
    have l2 := (hL.cell 2).trans (show _ = some (.int .i64 (1 + r2)) from rfl)
    have l3 := (hL.cell 3).trans (show _ = some (.slice Y ys.length yc) from rfl)
    have l4 := (hL.cell 4).trans (show _ = some (.slice N' ns.length nc) from rfl)
    have l5 := (hL.cell 5).trans (show _ = some (.bool dn) from rfl)
    have hLl := hL.lt
    refine bodyPost_ret (v := .agg #[.int .i64 (1 + r1), .int .i64 dy, .int .i64 (1 + r2), .slice Y ys.length yc, .slice N' ns.length nc, .bool dn]) (by simp [results, Tryd.results53, go_sem, z0, z1, z2, z3, z4, z5]) rfl ?_
    exact ⟨⟨(1 + r1), dy, (1 + r2), ys, ns, dn⟩, Y, N', yc, nc, rfl, hly, hln, ⟨by show -10 ≤ (1 + r1) ∧ (1 + r1) ≤ 4000; omega, by show -10 ≤ dy ∧ dy ≤ 4000; omega, by show -10 ≤ (1 + r2) ∧ (1 + r2) ≤ 4000; omega⟩, hYs.wide (by omega) (by omega), hNs.wide (by omega) (by omega), hC.mono (by omega), HG⟩
end Go.Proofs.YthgaddnbgnennaaDoor
