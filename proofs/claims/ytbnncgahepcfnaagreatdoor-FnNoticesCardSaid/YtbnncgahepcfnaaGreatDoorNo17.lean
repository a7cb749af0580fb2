/- The cursor's draws of reports: a word. -/
import Derived.Test.YtbnncgahepcfnaaGreatDoorNo12
import Derived.Test.YtbnncgahepcfnaaGreatDoorNo7
namespace Go.Proofs.YtbnncgahepcfnaaGreatDoor
open Go.RowKit Go.G9
theorem built_rdsO (w : World) (xs : List ByteArray) (hm : xs.length ≤ maxLen) : Rds 1 bC (w.alloc (.cells (xs.flatMap bC).toArray 9)) (some ⟨w.heap.size, 0, none⟩) xs := (OwnV.ofBlk (B := w.heap.size) (cap := xs.length) (Blk.new w 9 _) (Nat.le_refl _) (Nat.le_refl _) hm (by simp [flat_len bC_len]) (fun i x hx j u hu => by simpa using flat_get bC_len xs i x hx j u hu) bC_len).rds (hf := bC_len)
set_option maxHeartbeats 2000000 in
theorem word_is (p : Nat) (A : Option Addr) (c : Nat) (cs : List UInt8) (hcs : cs.length ≤ 1048576) (N : Nat) (hN : N ≤ 800000) (w : World) (hC : Cur w p A c cs N) :
  Calls Tryz.prog 81 #[.pointer (some ⟨p, 0, none⟩)] w fun e w' => ∃ s : ByteArray, e = .returned (.string s) ∧ s.size ≤ 7 ∧ Stepped w w' p A c cs (N + 2) := by
  go_enter Tryz.func81, Tryz.ntmps81
  have hp := hC.lt
  have HG := grown_refl w (some p)
  have hL := built_rdsO w [(⟨#[109, 97, 105, 110]⟩ : ByteArray), (⟨#[116, 97, 98, 108, 101]⟩ : ByteArray), (⟨#[97, 100, 106, 111, 117, 114, 110]⟩ : ByteArray), (⟨#[97, 109, 101, 110, 100]⟩ : ByteArray), (⟨#[114, 101, 99, 101, 115, 115]⟩ : ByteArray), (⟨#[114, 101, 102, 101, 114]⟩ : ByteArray), (⟨#[108, 105, 109, 105, 116]⟩ : ByteArray), (⟨#[99, 97, 108, 108]⟩ : ByteArray), (⟨#[97]⟩ : ByteArray), (⟨#[98, 121, 108, 97, 119, 115]⟩ : ByteArray)] (by simp [maxLen])
  have HL := Lib.hid hL; clear hL
  go_wp2_with fail
  refine (of_is (some ⟨w.heap.size, 0, none⟩) _ [(⟨#[109, 97, 105, 110]⟩ : ByteArray), (⟨#[116, 97, 98, 108, 101]⟩ : ByteArray), (⟨#[97, 100, 106, 111, 117, 114, 110]⟩ : ByteArray), (⟨#[97, 109, 101, 110, 100]⟩ : ByteArray), (⟨#[114, 101, 99, 101, 115, 115]⟩ : ByteArray), (⟨#[114, 101, 102, 101, 114]⟩ : ByteArray), (⟨#[108, 105, 109, 105, 116]⟩ : ByteArray), (⟨#[99, 97, 108, 108]⟩ : ByteArray), (⟨#[97]⟩ : ByteArray), (⟨#[98, 121, 108, 97, 119, 115]⟩ : ByteArray)] (by simp) (by simp) p A c cs hcs N (by omega) _ (hC.later (by repeat (first | exact Below.refl _ _ | refine Below.alloc ?_ (by first | exact Nat.le_refl _ | (simp <;> omega)) _ | refine Below.setCell ?_ (by first | exact Nat.le_refl _ | (simp <;> omega)) _))) HL.out (fun ad h _ => by cases h; show w.heap.size ≠ p; omega)).mono ?_
  rintro e w1 ⟨s, rfl, hs, hS1⟩
  have hg1 : w.grownBy w1 (some p) := grown_tr (below_grown (by repeat (first | exact Below.refl _ _ | refine Below.alloc ?_ (by first | exact Nat.le_refl _ | (simp <;> omega)) _ | refine Below.setCell ?_ (by first | exact Nat.le_refl _ | (simp <;> omega)) _)) _) hS1.2
  replace hC := hS1.1
  have sz1 := hg1.size
  replace HG := grown_tr HG hg1
  go_wp2
  go_ret
  have hsz : s.size ≤ 7 := by
    simp only [List.mem_cons, List.not_mem_nil, or_false] at hs
    rcases hs with h | h | h | h | h | h | h | h | h | h <;> (subst h; decide)
  exact ⟨s, rfl, hsz, hC, HG⟩
theorem built_rdsQ (w : World) (xs : List Int) (hm : xs.length ≤ maxLen) : Rds 1 intC (w.alloc (.cells (xs.flatMap intC).toArray 3)) (some ⟨w.heap.size, 0, none⟩) xs := (OwnV.ofBlk (B := w.heap.size) (cap := xs.length) (Blk.new w 3 _) (Nat.le_refl _) (Nat.le_refl _) hm (by simp [flat_len intC_len]) (fun i x hx j u hu => by simpa using flat_get intC_len xs i x hx j u hu) intC_len).rds (hf := intC_len)
set_option maxHeartbeats 4000000 in
set_option maxRecDepth 100000 in
theorem outcome_is (p : Nat) (A : Option Addr) (c : Nat) (cs : List UInt8) (hcs : cs.length ≤ 1048576) (N : Nat) (hN : N ≤ 700000) (w : World) (hC : Cur w p A c cs N) :
  Calls Tryz.prog 39 #[.pointer (some ⟨p, 0, none⟩)] w fun e w' => ∃ (m : ByteArray) (nd y n ab : Int), e = .returned (.agg #[.string m, .int .i64 nd, .int .i64 y, .int .i64 n, .int .i64 ab]) ∧ m.size ≤ 12 ∧ (-1 ≤ nd ∧ nd ≤ 1001) ∧ (-1 ≤ y ∧ y ≤ 1001) ∧ (-1 ≤ n ∧ n ≤ 1001) ∧ (-1 ≤ ab ∧ ab ≤ 1001) ∧ Stepped w w' p A c cs (N + 20) := by
  go_enter Tryz.func39, Tryz.ntmps39
  have hp := hC.lt
  have HG := grown_refl w (some p)
  go_upto_region 1 with fail
  have hb1 : Below w.heap.size w (World.alloc w (.cells #[.string ⟨#[]⟩, .int .i64 0, .int .i64 0, .int .i64 0, .int .i64 0] 27)) := bl1 w _
  have hZ : Blk (World.alloc w (.cells #[.string ⟨#[]⟩, .int .i64 0, .int .i64 0, .int .i64 0, .int .i64 0] 27)) (w.heap.size) 27 #[.string ⟨#[]⟩, .int .i64 0, .int .i64 0, .int .i64 0, .int .i64 0] := by repeat (first | exact Blk.new _ _ _ | exact Blk.new2 _ _ _ _ | exact Blk.new3 _ _ _ _ _ | exact Blk.new4 _ _ _ _ _ _ | refine Blk.alloc ?_ _)
  generalize World.alloc w (.cells #[.string ⟨#[]⟩, .int .i64 0, .int .i64 0, .int .i64 0, .int .i64 0] 27) = w1 at *
  replace hC := hC.later hb1
  replace HG := grown_tr HG (below_grown hb1 (some p))
  have sz1 := hb1.size
  have LhZ := hZ.lt
  have z0 := (hZ.cell 0).trans (show _ = some (.string ⟨#[]⟩) from rfl)
  have z1 := (hZ.cell 1).trans (show _ = some (.int .i64 0) from rfl)
  have z2 := (hZ.cell 2).trans (show _ = some (.int .i64 0) from rfl)
  have z3 := (hZ.cell 3).trans (show _ = some (.int .i64 0) from rfl)
  have z4 := (hZ.cell 4).trans (show _ = some (.int .i64 0) from rfl)
  go_wp2_with fail
  refine (word_is p A c cs hcs N (by omega) _ (hC.later (by repeat (first | exact Below.refl _ _ | refine Below.alloc ?_ (by first | exact Nat.le_refl _ | (simp <;> omega)) _ | refine Below.setCell ?_ (by first | exact Nat.le_refl _ | (simp <;> omega)) _)))).mono ?_
  rintro e w2 ⟨m, rfl, hm, hS2⟩
  clear z0 z1 z2 z3 z4
  have hg2 : w1.grownBy w2 (some p) := grown_tr (below_grown (by repeat (first | exact Below.refl _ _ | refine Below.alloc ?_ (by first | exact Nat.le_refl _ | (simp <;> omega)) _ | refine Below.setCell ?_ (by first | exact Nat.le_refl _ | (simp <;> omega)) _)) _) hS2.2
  replace hC := hS2.1
  have sz2 := hg2.size
  replace HG := grown_tr HG hg2
  replace hZ := hZ.grownB hg2 (by omega)
  have z0 := (hZ.cell 0).trans (show _ = some (.string ⟨#[]⟩) from rfl)
  have z1 := (hZ.cell 1).trans (show _ = some (.int .i64 0) from rfl)
  have z2 := (hZ.cell 2).trans (show _ = some (.int .i64 0) from rfl)
  have z3 := (hZ.cell 3).trans (show _ = some (.int .i64 0) from rfl)
  have z4 := (hZ.cell 4).trans (show _ = some (.int .i64 0) from rfl)
  go_wp2_with fail
  refine (pick_is 3 p A c cs hcs (N + 2) (by omega) (by omega) _ (hC.later (by repeat (first | exact Below.refl _ _ | refine Below.alloc ?_ (by first | exact Nat.le_refl _ | (simp <;> omega)) _ | refine Below.setCell ?_ (by first | exact Nat.le_refl _ | (simp <;> omega)) _)))).mono ?_
  rintro e w3 ⟨r1, rfl, ⟨hi0, _, hi1⟩, hS3⟩
  clear z0 z1 z2 z3 z4
  have hg3 : w2.grownBy w3 (some p) := grown_tr (below_grown (by repeat (first | exact Below.refl _ _ | refine Below.alloc ?_ (by first | exact Nat.le_refl _ | (simp <;> omega)) _ | refine Below.setCell ?_ (by first | exact Nat.le_refl _ | (simp <;> omega)) _)) _) hS3.2
  replace hC := hS3.1
  have sz3 := hg3.size
  replace HG := grown_tr HG hg3
  replace hZ := hZ.grownB hg3 (by omega)
  have z0 := (hZ.cell 0).trans (show _ = some (.string ⟨#[]⟩) from rfl)
  have z1 := (hZ.cell 1).trans (show _ = some (.int .i64 0) from rfl)
  have z2 := (hZ.cell 2).trans (show _ = some (.int .i64 0) from rfl)
  have z3 := (hZ.cell 3).trans (show _ = some (.int .i64 0) from rfl)
  have z4 := (hZ.cell 4).trans (show _ = some (.int .i64 0) from rfl)
  have hi2 := hi1 (by omega)
  clear hi1
  have hL1 := built_rdsQ w3 [0, 3, 7, 12, 1000] (by simp [maxLen])
  simp only [List.flatMap_cons, List.flatMap_nil, intC, List.append_nil, List.singleton_append] at hL1
  have HL1 := Lib.hid hL1; clear hL1
  go_wp2_with fail
  refine (among_is (some ⟨w3.heap.size, 0, none⟩) _ [0, 3, 7, 12, 1000] (by simp) (by simp) p A c cs hcs (N + 2 + 2) (by omega) _ (hC.later (by repeat (first | exact Below.refl _ _ | refine Below.alloc ?_ (by first | exact Nat.le_refl _ | (simp <;> omega)) _ | refine Below.setCell ?_ (by first | exact Nat.le_refl _ | (simp <;> omega)) _))) HL1.out (fun ad h _ => by cases h; show w3.heap.size ≠ p; omega)).mono ?_
  rintro e w4 ⟨y, rfl, hq, hS4⟩
  clear z0 z1 z2 z3 z4
  have hg4 : w3.grownBy w4 (some p) := grown_tr (below_grown (by repeat (first | exact Below.refl _ _ | refine Below.alloc ?_ (by first | exact Nat.le_refl _ | (simp <;> omega)) _ | refine Below.setCell ?_ (by first | exact Nat.le_refl _ | (simp <;> omega)) _)) _) hS4.2
  replace hC := hS4.1
  have sz4 := hg4.size
  replace HG := grown_tr HG hg4
  replace hZ := hZ.grownB hg4 (by omega)
  have z0 := (hZ.cell 0).trans (show _ = some (.string ⟨#[]⟩) from rfl)
  have z1 := (hZ.cell 1).trans (show _ = some (.int .i64 0) from rfl)
  have z2 := (hZ.cell 2).trans (show _ = some (.int .i64 0) from rfl)
  have z3 := (hZ.cell 3).trans (show _ = some (.int .i64 0) from rfl)
  have z4 := (hZ.cell 4).trans (show _ = some (.int .i64 0) from rfl)
  have hby : -1 ≤ y ∧ y ≤ 1001 := by
    simp only [List.mem_cons, List.not_mem_nil, or_false] at hq
    omega
  clear hq HL1
  have hL1 := built_rdsQ w4 [0, 0, 3, 6, 1000] (by simp [maxLen])
  simp only [List.flatMap_cons, List.flatMap_nil, intC, List.append_nil, List.singleton_append] at hL1
  have HL1 := Lib.hid hL1; clear hL1
  go_wp2_with fail
  refine (among_is (some ⟨w4.heap.size, 0, none⟩) _ [0, 0, 3, 6, 1000] (by simp) (by simp) p A c cs hcs (N + 2 + 2 + 2) (by omega) _ (hC.later (by repeat (first | exact Below.refl _ _ | refine Below.alloc ?_ (by first | exact Nat.le_refl _ | (simp <;> omega)) _ | refine Below.setCell ?_ (by first | exact Nat.le_refl _ | (simp <;> omega)) _))) HL1.out (fun ad h _ => by cases h; show w4.heap.size ≠ p; omega)).mono ?_
  rintro e w5 ⟨n, rfl, hq, hS5⟩
  clear z0 z1 z2 z3 z4
  have hg5 : w4.grownBy w5 (some p) := grown_tr (below_grown (by repeat (first | exact Below.refl _ _ | refine Below.alloc ?_ (by first | exact Nat.le_refl _ | (simp <;> omega)) _ | refine Below.setCell ?_ (by first | exact Nat.le_refl _ | (simp <;> omega)) _)) _) hS5.2
  replace hC := hS5.1
  have sz5 := hg5.size
  replace HG := grown_tr HG hg5
  replace hZ := hZ.grownB hg5 (by omega)
  have z0 := (hZ.cell 0).trans (show _ = some (.string ⟨#[]⟩) from rfl)
  have z1 := (hZ.cell 1).trans (show _ = some (.int .i64 0) from rfl)
  have z2 := (hZ.cell 2).trans (show _ = some (.int .i64 0) from rfl)
  have z3 := (hZ.cell 3).trans (show _ = some (.int .i64 0) from rfl)
  have z4 := (hZ.cell 4).trans (show _ = some (.int .i64 0) from rfl)
  have hbn : -1 ≤ n ∧ n ≤ 1001 := by
    simp only [List.mem_cons, List.not_mem_nil, or_false] at hq
    omega
  clear hq HL1
  have hL1 := built_rdsQ w5 [0, 0, 1, 5] (by simp [maxLen])
  simp only [List.flatMap_cons, List.flatMap_nil, intC, List.append_nil, List.singleton_append] at hL1
  have HL1 := Lib.hid hL1; clear hL1
  go_wp2_with fail
  refine (among_is (some ⟨w5.heap.size, 0, none⟩) _ [0, 0, 1, 5] (by simp) (by simp) p A c cs hcs (N + 2 + 2 + 2 + 2) (by omega) _ (hC.later (by repeat (first | exact Below.refl _ _ | refine Below.alloc ?_ (by first | exact Nat.le_refl _ | (simp <;> omega)) _ | refine Below.setCell ?_ (by first | exact Nat.le_refl _ | (simp <;> omega)) _))) HL1.out (fun ad h _ => by cases h; show w5.heap.size ≠ p; omega)).mono ?_
  rintro e w6 ⟨ab, rfl, hq, hS6⟩
  clear z0 z1 z2 z3 z4
  have hg6 : w5.grownBy w6 (some p) := grown_tr (below_grown (by repeat (first | exact Below.refl _ _ | refine Below.alloc ?_ (by first | exact Nat.le_refl _ | (simp <;> omega)) _ | refine Below.setCell ?_ (by first | exact Nat.le_refl _ | (simp <;> omega)) _)) _) hS6.2
  replace hC := hS6.1
  have sz6 := hg6.size
  replace HG := grown_tr HG hg6
  replace hZ := hZ.grownB hg6 (by omega)
  have z0 := (hZ.cell 0).trans (show _ = some (.string ⟨#[]⟩) from rfl)
  have z1 := (hZ.cell 1).trans (show _ = some (.int .i64 0) from rfl)
  have z2 := (hZ.cell 2).trans (show _ = some (.int .i64 0) from rfl)
  have z3 := (hZ.cell 3).trans (show _ = some (.int .i64 0) from rfl)
  have z4 := (hZ.cell 4).trans (show _ = some (.int .i64 0) from rfl)
  have hbab : -1 ≤ ab ∧ ab ≤ 1001 := by
    simp only [List.mem_cons, List.not_mem_nil, or_false] at hq
    omega
  clear hq HL1
  go_upto_region 2 with fail
  have hb7 : Below w6.heap.size w6 (World.alloc w6 (.cells #[.string m, .int .i64 (1 + r1), .int .i64 y, .int .i64 n, .int .i64 ab] 27)) := bl1 w6 _
  have hL : Blk (World.alloc w6 (.cells #[.string m, .int .i64 (1 + r1), .int .i64 y, .int .i64 n, .int .i64 ab] 27)) (w6.heap.size) 27 #[.string m, .int .i64 (1 + r1), .int .i64 y, .int .i64 n, .int .i64 ab] := by repeat (first | exact Blk.new _ _ _ | exact Blk.new2 _ _ _ _ | exact Blk.new3 _ _ _ _ _ | exact Blk.new4 _ _ _ _ _ _ | refine Blk.alloc ?_ _)
  generalize World.alloc w6 (.cells #[.string m, .int .i64 (1 + r1), .int .i64 y, .int .i64 n, .int .i64 ab] 27) = wL at *
  replace hC := hC.later hb7
  replace HG := grown_tr HG (below_grown hb7 (some p))
  clear z0 z1 z2 z3 z4
  replace hZ := hZ.grownB (below_grown hb7 (some p)) (by omega)
  have z0 := (hZ.cell 0).trans (show _ = some (.string ⟨#[]⟩) from rfl)
  have z1 := (hZ.cell 1).trans (show _ = some (.int .i64 0) from rfl)
  have z2 := (hZ.cell 2).trans (show _ = some (.int .i64 0) from rfl)
  have z3 := (hZ.cell 3).trans (show _ = some (.int .i64 0) from rfl)
  have z4 := (hZ.cell 4).trans (show _ = some (.int .i64 0) from rfl)
  have sz7 := hb7.size
  have LhL := hL.lt
  have l0 := (hL.cell 0).trans (show _ = some (.string m) from rfl)
  have l1 := (hL.cell 1).trans (show _ = some (.int .i64 (1 + r1)) from rfl)
  have l2 := (hL.cell 2).trans (show _ = some (.int .i64 y) from rfl)
  have l3 := (hL.cell 3).trans (show _ = some (.int .i64 n) from rfl)
  have l4 := (hL.cell 4).trans (show _ = some (.int .i64 ab) from rfl)
  go_wp2_with fail
  refine (pick_is 60 p A c cs hcs (N + 2 + 2 + 2 + 2 + 2) (by omega) (by omega) _ (hC.later (by repeat (first | exact Below.refl _ _ | refine Below.alloc ?_ (by first | exact Nat.le_refl _ | (simp <;> omega)) _ | refine Below.setCell ?_ (by first | exact Nat.le_refl _ | (simp <;> omega)) _)))).mono ?_
  rintro e w8 ⟨r, rfl, ⟨hr0, _, _⟩, hS8⟩
  clear z0 z1 z2 z3 z4
  clear l0 l1 l2 l3 l4
  have hg8 : wL.grownBy w8 (some p) := grown_tr (below_grown (by repeat (first | exact Below.refl _ _ | refine Below.alloc ?_ (by first | exact Nat.le_refl _ | (simp <;> omega)) _ | refine Below.setCell ?_ (by first | exact Nat.le_refl _ | (simp <;> omega)) _)) _) hS8.2
  replace hC := hS8.1
  have sz8 := hg8.size
  replace HG := grown_tr HG hg8
  replace hZ := hZ.grownB hg8 (by omega)
  replace hL := hL.grownB hg8 (by omega)
  have z0 := (hZ.cell 0).trans (show _ = some (.string ⟨#[]⟩) from rfl)
  have z1 := (hZ.cell 1).trans (show _ = some (.int .i64 0) from rfl)
  have z2 := (hZ.cell 2).trans (show _ = some (.int .i64 0) from rfl)
  have z3 := (hZ.cell 3).trans (show _ = some (.int .i64 0) from rfl)
  have z4 := (hZ.cell 4).trans (show _ = some (.int .i64 0) from rfl)
  have l0 := (hL.cell 0).trans (show _ = some (.string m) from rfl)
  have l1 := (hL.cell 1).trans (show _ = some (.int .i64 (1 + r1)) from rfl)
  have l2 := (hL.cell 2).trans (show _ = some (.int .i64 y) from rfl)
  have l3 := (hL.cell 3).trans (show _ = some (.int .i64 n) from rfl)
  have l4 := (hL.cell 4).trans (show _ = some (.int .i64 ab) from rfl)
  rcases (show r = 0 ∨ r = 1 ∨ r = 2 ∨ 2 < r by omega) with rfl | rfl | rfl | hr3
  · have hL1 := built_rdsO w8 [(⟨#[]⟩ : ByteArray), (⟨#[65]⟩ : ByteArray), (⟨#[97, 98, 99, 100, 101, 102, 103, 104, 105, 106, 107]⟩ : ByteArray)] (by simp [maxLen])
    simp only [List.flatMap_cons, List.flatMap_nil, bC, List.append_nil, List.singleton_append] at hL1
    have HL1 := Lib.hid hL1; clear hL1
    go_wp2_with fail
    refine (of_is (some ⟨w8.heap.size, 0, none⟩) _ [(⟨#[]⟩ : ByteArray), (⟨#[65]⟩ : ByteArray), (⟨#[97, 98, 99, 100, 101, 102, 103, 104, 105, 106, 107]⟩ : ByteArray)] (by simp) (by simp) p A c cs hcs (N + 2 + 2 + 2 + 2 + 2 + 2) (by omega) _ (hC.later (by repeat (first | exact Below.refl _ _ | refine Below.alloc ?_ (by first | exact Nat.le_refl _ | (simp <;> omega)) _ | refine Below.setCell ?_ (by first | exact Nat.le_refl _ | (simp <;> omega)) _))) HL1.out (fun ad h _ => by cases h; show w8.heap.size ≠ p; omega)).mono ?_
    rintro e w9 ⟨m2, rfl, hq, hS9⟩
    clear z0 z1 z2 z3 z4
    clear l0 l1 l2 l3 l4
    have hg9 : w8.grownBy w9 (some p) := grown_tr (below_grown (by repeat (first | exact Below.refl _ _ | refine Below.alloc ?_ (by first | exact Nat.le_refl _ | (simp <;> omega)) _ | refine Below.setCell ?_ (by first | exact Nat.le_refl _ | (simp <;> omega)) _)) _) hS9.2
    replace hC := hS9.1
    have sz9 := hg9.size
    replace HG := grown_tr HG hg9
    replace hZ := hZ.grownB hg9 (by omega)
    replace hL := hL.grownB hg9 (by omega)
    have z0 := (hZ.cell 0).trans (show _ = some (.string ⟨#[]⟩) from rfl)
    have z1 := (hZ.cell 1).trans (show _ = some (.int .i64 0) from rfl)
    have z2 := (hZ.cell 2).trans (show _ = some (.int .i64 0) from rfl)
    have z3 := (hZ.cell 3).trans (show _ = some (.int .i64 0) from rfl)
    have z4 := (hZ.cell 4).trans (show _ = some (.int .i64 0) from rfl)
    have l0 := (hL.cell 0).trans (show _ = some (.string m) from rfl)
    have l1 := (hL.cell 1).trans (show _ = some (.int .i64 (1 + r1)) from rfl)
    have l2 := (hL.cell 2).trans (show _ = some (.int .i64 y) from rfl)
    have l3 := (hL.cell 3).trans (show _ = some (.int .i64 n) from rfl)
    have l4 := (hL.cell 4).trans (show _ = some (.int .i64 ab) from rfl)
    have hm2 : m2.size ≤ 12 := by
      simp only [List.mem_cons, List.not_mem_nil, or_false] at hq
      rcases hq with h | h | h <;> (subst h; decide)
    clear hq HL1
    have fhL0 := hL.frozen 0
    have yhZ := hZ.lt
    have yhL := hL.lt
    go_upto_region 9 with fail
    clear fhL0 yhZ yhL
    clear z0 z1 z2 z3 z4
    clear l0 l1 l2 l3 l4
    replace HG : w.grownBy (World.setCell w9 ⟨w6.heap.size, 0, none⟩ (.string m2)) (some p) := (grown_store HG (g := w6.heap.size) (by omega) 0 (.string m2))
    replace hC := (hC.store (g := w6.heap.size) (by omega) 0 (.string m2))
    replace hZ := hZ.grownB (grown_set (j := 0) (grown_refl w9 (some (w6.heap.size))) (.string m2)) (by omega)
    replace hL : Blk (World.setCell w9 ⟨w6.heap.size, 0, none⟩ (.string m2)) (w6.heap.size) 27 #[.string m2, .int .i64 (1 + r1), .int .i64 y, .int .i64 n, .int .i64 ab] := (hL.set_ 0 (.string m2))
    generalize World.setCell w9 ⟨w6.heap.size, 0, none⟩ (.string m2) = wS at *
    have z0 := (hZ.cell 0).trans (show _ = some (.string ⟨#[]⟩) from rfl)
    have z1 := (hZ.cell 1).trans (show _ = some (.int .i64 0) from rfl)
    have z2 := (hZ.cell 2).trans (show _ = some (.int .i64 0) from rfl)
    have z3 := (hZ.cell 3).trans (show _ = some (.int .i64 0) from rfl)
    have z4 := (hZ.cell 4).trans (show _ = some (.int .i64 0) from rfl)
    have l0 := (hL.cell 0).trans (show _ = some (.string m2) from rfl)
    have l1 := (hL.cell 1).trans (show _ = some (.int .i64 (1 + r1)) from rfl)
    have l2 := (hL.cell 2).trans (show _ = some (.int .i64 y) from rfl)
    have l3 := (hL.cell 3).trans (show _ = some (.int .i64 n) from rfl)
    have l4 := (hL.cell 4).trans (show _ = some (.int .i64 ab) from rfl)
    have fhZ0 := hZ.frozen 0
    have fhZ1 := hZ.frozen 1
    have fhZ2 := hZ.frozen 2
    have fhZ3 := hZ.frozen 3
    have fhZ4 := hZ.frozen 4
    have yhZ := hZ.lt
    have yhL := hL.lt
    go_wp2
    clear fhZ0 fhZ1 fhZ2 fhZ3 fhZ4 yhZ yhL
    clear z0 z1 z2 z3 z4
    clear l0 l1 l2 l3 l4
    replace HG : w.grownBy (World.setCell (World.setCell (World.setCell (World.setCell (World.setCell wS ⟨w.heap.size, 0, none⟩ (.string m2)) ⟨w.heap.size, 1, none⟩ (.int .i64 (1 + r1))) ⟨w.heap.size, 2, none⟩ (.int .i64 y)) ⟨w.heap.size, 3, none⟩ (.int .i64 n)) ⟨w.heap.size, 4, none⟩ (.int .i64 ab)) (some p) := (grown_store (grown_store (grown_store (grown_store (grown_store HG (g := w.heap.size) (by omega) 0 (.string m2)) (g := w.heap.size) (by omega) 1 (.int .i64 (1 + r1))) (g := w.heap.size) (by omega) 2 (.int .i64 y)) (g := w.heap.size) (by omega) 3 (.int .i64 n)) (g := w.heap.size) (by omega) 4 (.int .i64 ab))
    replace hC := (((((hC.store (g := w.heap.size) (by omega) 0 (.string m2)).store (g := w.heap.size) (by omega) 1 (.int .i64 (1 + r1))).store (g := w.heap.size) (by omega) 2 (.int .i64 y)).store (g := w.heap.size) (by omega) 3 (.int .i64 n)).store (g := w.heap.size) (by omega) 4 (.int .i64 ab))
    replace hZ : Blk (World.setCell (World.setCell (World.setCell (World.setCell (World.setCell wS ⟨w.heap.size, 0, none⟩ (.string m2)) ⟨w.heap.size, 1, none⟩ (.int .i64 (1 + r1))) ⟨w.heap.size, 2, none⟩ (.int .i64 y)) ⟨w.heap.size, 3, none⟩ (.int .i64 n)) ⟨w.heap.size, 4, none⟩ (.int .i64 ab)) (w.heap.size) 27 #[.string m2, .int .i64 (1 + r1), .int .i64 y, .int .i64 n, .int .i64 ab] := (((((hZ.set_ 0 (.string m2)).set_ 1 (.int .i64 (1 + r1))).set_ 2 (.int .i64 y)).set_ 3 (.int .i64 n)).set_ 4 (.int .i64 ab))
    replace hL := hL.grownB (grown_set (j := 4) (grown_set (j := 3) (grown_set (j := 2) (grown_set (j := 1) (grown_set (j := 0) (grown_refl wS (some (w.heap.size))) (.string m2)) (.int .i64 (1 + r1))) (.int .i64 y)) (.int .i64 n)) (.int .i64 ab)) (by omega)
    generalize World.setCell (World.setCell (World.setCell (World.setCell (World.setCell wS ⟨w.heap.size, 0, none⟩ (.string m2)) ⟨w.heap.size, 1, none⟩ (.int .i64 (1 + r1))) ⟨w.heap.size, 2, none⟩ (.int .i64 y)) ⟨w.heap.size, 3, none⟩ (.int .i64 n)) ⟨w.heap.size, 4, none⟩ (.int .i64 ab) = W9 at *
    have z0 := (hZ.cell 0).trans (show _ = some (.string m2) from rfl)
    have z1 := (hZ.cell 1).trans (show _ = some (.int .i64 (1 + r1)) from rfl)
    have z2 := (hZ.cell 2).trans (show _ = some (.int .i64 y) from rfl)
    have z3 := (hZ.cell 3).trans (show _ = some (.int .i64 n) from rfl)
    have z4 := (hZ.cell 4).trans (show _ = some (.int .i64 ab) from rfl)
    have l0 := (hL.cell 0).trans (show _ = some (.string m2) from rfl)
    have l1 := (hL.cell 1).trans (show _ = some (.int .i64 (1 + r1)) from rfl)
    have l2 := (hL.cell 2).trans (show _ = some (.int .i64 y) from rfl)
    have l3 := (hL.cell 3).trans (show _ = some (.int .i64 n) from rfl)
    have l4 := (hL.cell 4).trans (show _ = some (.int .i64 ab) from rfl)
    have hLl := hL.lt
    refine bodyPost_ret (v := .agg #[.string m2, .int .i64 (1 + r1), .int .i64 y, .int .i64 n, .int .i64 ab]) (by simp [results, Tryz.results39, go_sem, z0, z1, z2, z3, z4]) rfl ?_
    exact ⟨m2, (1 + r1), y, n, ab, rfl, by omega, by omega, by omega, by omega, by omega, hC.mono (by omega), HG⟩
  · have hL1 := built_rdsQ w8 [0, 4] (by simp [maxLen])
    simp only [List.flatMap_cons, List.flatMap_nil, intC, List.append_nil, List.singleton_append] at hL1
    have HL1 := Lib.hid hL1; clear hL1
    go_wp2_with fail
    refine (among_is (some ⟨w8.heap.size, 0, none⟩) _ [0, 4] (by simp) (by simp) p A c cs hcs (N + 2 + 2 + 2 + 2 + 2 + 2) (by omega) _ (hC.later (by repeat (first | exact Below.refl _ _ | refine Below.alloc ?_ (by first | exact Nat.le_refl _ | (simp <;> omega)) _ | refine Below.setCell ?_ (by first | exact Nat.le_refl _ | (simp <;> omega)) _))) HL1.out (fun ad h _ => by cases h; show w8.heap.size ≠ p; omega)).mono ?_
    rintro e w9 ⟨x, rfl, hq, hS9⟩
    clear z0 z1 z2 z3 z4
    clear l0 l1 l2 l3 l4
    have hg9 : w8.grownBy w9 (some p) := grown_tr (below_grown (by repeat (first | exact Below.refl _ _ | refine Below.alloc ?_ (by first | exact Nat.le_refl _ | (simp <;> omega)) _ | refine Below.setCell ?_ (by first | exact Nat.le_refl _ | (simp <;> omega)) _)) _) hS9.2
    replace hC := hS9.1
    have sz9 := hg9.size
    replace HG := grown_tr HG hg9
    replace hZ := hZ.grownB hg9 (by omega)
    replace hL := hL.grownB hg9 (by omega)
    have z0 := (hZ.cell 0).trans (show _ = some (.string ⟨#[]⟩) from rfl)
    have z1 := (hZ.cell 1).trans (show _ = some (.int .i64 0) from rfl)
    have z2 := (hZ.cell 2).trans (show _ = some (.int .i64 0) from rfl)
    have z3 := (hZ.cell 3).trans (show _ = some (.int .i64 0) from rfl)
    have z4 := (hZ.cell 4).trans (show _ = some (.int .i64 0) from rfl)
    have l0 := (hL.cell 0).trans (show _ = some (.string m) from rfl)
    have l1 := (hL.cell 1).trans (show _ = some (.int .i64 (1 + r1)) from rfl)
    have l2 := (hL.cell 2).trans (show _ = some (.int .i64 y) from rfl)
    have l3 := (hL.cell 3).trans (show _ = some (.int .i64 n) from rfl)
    have l4 := (hL.cell 4).trans (show _ = some (.int .i64 ab) from rfl)
    have hbx : -1 ≤ x ∧ x ≤ 1001 := by
      simp only [List.mem_cons, List.not_mem_nil, or_false] at hq
      omega
    clear hq HL1
    have fhL1 := hL.frozen 1
    have yhZ := hZ.lt
    have yhL := hL.lt
    go_upto_region 9 with fail
    clear fhL1 yhZ yhL
    clear z0 z1 z2 z3 z4
    clear l0 l1 l2 l3 l4
    replace HG : w.grownBy (World.setCell w9 ⟨w6.heap.size, 1, none⟩ (.int .i64 x)) (some p) := (grown_store HG (g := w6.heap.size) (by omega) 1 (.int .i64 x))
    replace hC := (hC.store (g := w6.heap.size) (by omega) 1 (.int .i64 x))
    replace hZ := hZ.grownB (grown_set (j := 1) (grown_refl w9 (some (w6.heap.size))) (.int .i64 x)) (by omega)
    replace hL : Blk (World.setCell w9 ⟨w6.heap.size, 1, none⟩ (.int .i64 x)) (w6.heap.size) 27 #[.string m, .int .i64 x, .int .i64 y, .int .i64 n, .int .i64 ab] := (hL.set_ 1 (.int .i64 x))
    generalize World.setCell w9 ⟨w6.heap.size, 1, none⟩ (.int .i64 x) = wS at *
    have z0 := (hZ.cell 0).trans (show _ = some (.string ⟨#[]⟩) from rfl)
    have z1 := (hZ.cell 1).trans (show _ = some (.int .i64 0) from rfl)
    have z2 := (hZ.cell 2).trans (show _ = some (.int .i64 0) from rfl)
    have z3 := (hZ.cell 3).trans (show _ = some (.int .i64 0) from rfl)
    have z4 := (hZ.cell 4).trans (show _ = some (.int .i64 0) from rfl)
    have l0 := (hL.cell 0).trans (show _ = some (.string m) from rfl)
    have l1 := (hL.cell 1).trans (show _ = some (.int .i64 x) from rfl)
    have l2 := (hL.cell 2).trans (show _ = some (.int .i64 y) from rfl)
    have l3 := (hL.cell 3).trans (show _ = some (.int .i64 n) from rfl)
    have l4 := (hL.cell 4).trans (show _ = some (.int .i64 ab) from rfl)
    have fhZ0 := hZ.frozen 0
    have fhZ1 := hZ.frozen 1
    have fhZ2 := hZ.frozen 2
    have fhZ3 := hZ.frozen 3
    have fhZ4 := hZ.frozen 4
    have yhZ := hZ.lt
    have yhL := hL.lt
    go_wp2
    clear fhZ0 fhZ1 fhZ2 fhZ3 fhZ4 yhZ yhL
    clear z0 z1 z2 z3 z4
    clear l0 l1 l2 l3 l4
    replace HG : w.grownBy (World.setCell (World.setCell (World.setCell (World.setCell (World.setCell wS ⟨w.heap.size, 0, none⟩ (.string m)) ⟨w.heap.size, 1, none⟩ (.int .i64 x)) ⟨w.heap.size, 2, none⟩ (.int .i64 y)) ⟨w.heap.size, 3, none⟩ (.int .i64 n)) ⟨w.heap.size, 4, none⟩ (.int .i64 ab)) (some p) := (grown_store (grown_store (grown_store (grown_store (grown_store HG (g := w.heap.size) (by omega) 0 (.string m)) (g := w.heap.size) (by omega) 1 (.int .i64 x)) (g := w.heap.size) (by omega) 2 (.int .i64 y)) (g := w.heap.size) (by omega) 3 (.int .i64 n)) (g := w.heap.size) (by omega) 4 (.int .i64 ab))
    replace hC := (((((hC.store (g := w.heap.size) (by omega) 0 (.string m)).store (g := w.heap.size) (by omega) 1 (.int .i64 x)).store (g := w.heap.size) (by omega) 2 (.int .i64 y)).store (g := w.heap.size) (by omega) 3 (.int .i64 n)).store (g := w.heap.size) (by omega) 4 (.int .i64 ab))
    replace hZ : Blk (World.setCell (World.setCell (World.setCell (World.setCell (World.setCell wS ⟨w.heap.size, 0, none⟩ (.string m)) ⟨w.heap.size, 1, none⟩ (.int .i64 x)) ⟨w.heap.size, 2, none⟩ (.int .i64 y)) ⟨w.heap.size, 3, none⟩ (.int .i64 n)) ⟨w.heap.size, 4, none⟩ (.int .i64 ab)) (w.heap.size) 27 #[.string m, .int .i64 x, .int .i64 y, .int .i64 n, .int .i64 ab] := (((((hZ.set_ 0 (.string m)).set_ 1 (.int .i64 x)).set_ 2 (.int .i64 y)).set_ 3 (.int .i64 n)).set_ 4 (.int .i64 ab))
    replace hL := hL.grownB (grown_set (j := 4) (grown_set (j := 3) (grown_set (j := 2) (grown_set (j := 1) (grown_set (j := 0) (grown_refl wS (some (w.heap.size))) (.string m)) (.int .i64 x)) (.int .i64 y)) (.int .i64 n)) (.int .i64 ab)) (by omega)
    generalize World.setCell (World.setCell (World.setCell (World.setCell (World.setCell wS ⟨w.heap.size, 0, none⟩ (.string m)) ⟨w.heap.size, 1, none⟩ (.int .i64 x)) ⟨w.heap.size, 2, none⟩ (.int .i64 y)) ⟨w.heap.size, 3, none⟩ (.int .i64 n)) ⟨w.heap.size, 4, none⟩ (.int .i64 ab) = W9 at *
    have z0 := (hZ.cell 0).trans (show _ = some (.string m) from rfl)
    have z1 := (hZ.cell 1).trans (show _ = some (.int .i64 x) from rfl)
    have z2 := (hZ.cell 2).trans (show _ = some (.int .i64 y) from rfl)
    have z3 := (hZ.cell 3).trans (show _ = some (.int .i64 n) from rfl)
    have z4 := (hZ.cell 4).trans (show _ = some (.int .i64 ab) from rfl)
    have l0 := (hL.cell 0).trans (show _ = some (.string m) from rfl)
    have l1 := (hL.cell 1).trans (show _ = some (.int .i64 x) from rfl)
    have l2 := (hL.cell 2).trans (show _ = some (.int .i64 y) from rfl)
    have l3 := (hL.cell 3).trans (show _ = some (.int .i64 n) from rfl)
    have l4 := (hL.cell 4).trans (show _ = some (.int .i64 ab) from rfl)
    have hLl := hL.lt
    refine bodyPost_ret (v := .agg #[.string m, .int .i64 x, .int .i64 y, .int .i64 n, .int .i64 ab]) (by simp [results, Tryz.results39, go_sem, z0, z1, z2, z3, z4]) rfl ?_
    exact ⟨m, x, y, n, ab, rfl, by omega, by omega, by omega, by omega, by omega, hC.mono (by omega), HG⟩
  · have hL1 := built_rdsQ w8 [-1, 1001] (by simp [maxLen])
    simp only [List.flatMap_cons, List.flatMap_nil, intC, List.append_nil, List.singleton_append] at hL1
    have HL1 := Lib.hid hL1; clear hL1
    go_wp2_with fail
    refine (among_is (some ⟨w8.heap.size, 0, none⟩) _ [-1, 1001] (by simp) (by simp) p A c cs hcs (N + 2 + 2 + 2 + 2 + 2 + 2) (by omega) _ (hC.later (by repeat (first | exact Below.refl _ _ | refine Below.alloc ?_ (by first | exact Nat.le_refl _ | (simp <;> omega)) _ | refine Below.setCell ?_ (by first | exact Nat.le_refl _ | (simp <;> omega)) _))) HL1.out (fun ad h _ => by cases h; show w8.heap.size ≠ p; omega)).mono ?_
    rintro e w9 ⟨x, rfl, hq, hS9⟩
    clear z0 z1 z2 z3 z4
    clear l0 l1 l2 l3 l4
    have hg9 : w8.grownBy w9 (some p) := grown_tr (below_grown (by repeat (first | exact Below.refl _ _ | refine Below.alloc ?_ (by first | exact Nat.le_refl _ | (simp <;> omega)) _ | refine Below.setCell ?_ (by first | exact Nat.le_refl _ | (simp <;> omega)) _)) _) hS9.2
    replace hC := hS9.1
    have sz9 := hg9.size
    replace HG := grown_tr HG hg9
    replace hZ := hZ.grownB hg9 (by omega)
    replace hL := hL.grownB hg9 (by omega)
    have z0 := (hZ.cell 0).trans (show _ = some (.string ⟨#[]⟩) from rfl)
    have z1 := (hZ.cell 1).trans (show _ = some (.int .i64 0) from rfl)
    have z2 := (hZ.cell 2).trans (show _ = some (.int .i64 0) from rfl)
    have z3 := (hZ.cell 3).trans (show _ = some (.int .i64 0) from rfl)
    have z4 := (hZ.cell 4).trans (show _ = some (.int .i64 0) from rfl)
    have l0 := (hL.cell 0).trans (show _ = some (.string m) from rfl)
    have l1 := (hL.cell 1).trans (show _ = some (.int .i64 (1 + r1)) from rfl)
    have l2 := (hL.cell 2).trans (show _ = some (.int .i64 y) from rfl)
    have l3 := (hL.cell 3).trans (show _ = some (.int .i64 n) from rfl)
    have l4 := (hL.cell 4).trans (show _ = some (.int .i64 ab) from rfl)
    have hbx : -1 ≤ x ∧ x ≤ 1001 := by
      simp only [List.mem_cons, List.not_mem_nil, or_false] at hq
      omega
    clear hq HL1
    have fhL2 := hL.frozen 2
    have yhZ := hZ.lt
    have yhL := hL.lt
    go_upto_region 9 with fail
    clear fhL2 yhZ yhL
    clear z0 z1 z2 z3 z4
    clear l0 l1 l2 l3 l4
    replace HG : w.grownBy (World.setCell w9 ⟨w6.heap.size, 2, none⟩ (.int .i64 x)) (some p) := (grown_store HG (g := w6.heap.size) (by omega) 2 (.int .i64 x))
    replace hC := (hC.store (g := w6.heap.size) (by omega) 2 (.int .i64 x))
    replace hZ := hZ.grownB (grown_set (j := 2) (grown_refl w9 (some (w6.heap.size))) (.int .i64 x)) (by omega)
    replace hL : Blk (World.setCell w9 ⟨w6.heap.size, 2, none⟩ (.int .i64 x)) (w6.heap.size) 27 #[.string m, .int .i64 (1 + r1), .int .i64 x, .int .i64 n, .int .i64 ab] := (hL.set_ 2 (.int .i64 x))
    generalize World.setCell w9 ⟨w6.heap.size, 2, none⟩ (.int .i64 x) = wS at *
    have z0 := (hZ.cell 0).trans (show _ = some (.string ⟨#[]⟩) from rfl)
    have z1 := (hZ.cell 1).trans (show _ = some (.int .i64 0) from rfl)
    have z2 := (hZ.cell 2).trans (show _ = some (.int .i64 0) from rfl)
    have z3 := (hZ.cell 3).trans (show _ = some (.int .i64 0) from rfl)
    have z4 := (hZ.cell 4).trans (show _ = some (.int .i64 0) from rfl)
    have l0 := (hL.cell 0).trans (show _ = some (.string m) from rfl)
    have l1 := (hL.cell 1).trans (show _ = some (.int .i64 (1 + r1)) from rfl)
    have l2 := (hL.cell 2).trans (show _ = some (.int .i64 x) from rfl)
    have l3 := (hL.cell 3).trans (show _ = some (.int .i64 n) from rfl)
    have l4 := (hL.cell 4).trans (show _ = some (.int .i64 ab) from rfl)
    have fhZ0 := hZ.frozen 0
    have fhZ1 := hZ.frozen 1
    have fhZ2 := hZ.frozen 2
    have fhZ3 := hZ.frozen 3
    have fhZ4 := hZ.frozen 4
    have yhZ := hZ.lt
    have yhL := hL.lt
    go_wp2
    clear fhZ0 fhZ1 fhZ2 fhZ3 fhZ4 yhZ yhL
    clear z0 z1 z2 z3 z4
    clear l0 l1 l2 l3 l4
    replace HG : w.grownBy (World.setCell (World.setCell (World.setCell (World.setCell (World.setCell wS ⟨w.heap.size, 0, none⟩ (.string m)) ⟨w.heap.size, 1, none⟩ (.int .i64 (1 + r1))) ⟨w.heap.size, 2, none⟩ (.int .i64 x)) ⟨w.heap.size, 3, none⟩ (.int .i64 n)) ⟨w.heap.size, 4, none⟩ (.int .i64 ab)) (some p) := (grown_store (grown_store (grown_store (grown_store (grown_store HG (g := w.heap.size) (by omega) 0 (.string m)) (g := w.heap.size) (by omega) 1 (.int .i64 (1 + r1))) (g := w.heap.size) (by omega) 2 (.int .i64 x)) (g := w.heap.size) (by omega) 3 (.int .i64 n)) (g := w.heap.size) (by omega) 4 (.int .i64 ab))
    replace hC := (((((hC.store (g := w.heap.size) (by omega) 0 (.string m)).store (g := w.heap.size) (by omega) 1 (.int .i64 (1 + r1))).store (g := w.heap.size) (by omega) 2 (.int .i64 x)).store (g := w.heap.size) (by omega) 3 (.int .i64 n)).store (g := w.heap.size) (by omega) 4 (.int .i64 ab))
    replace hZ : Blk (World.setCell (World.setCell (World.setCell (World.setCell (World.setCell wS ⟨w.heap.size, 0, none⟩ (.string m)) ⟨w.heap.size, 1, none⟩ (.int .i64 (1 + r1))) ⟨w.heap.size, 2, none⟩ (.int .i64 x)) ⟨w.heap.size, 3, none⟩ (.int .i64 n)) ⟨w.heap.size, 4, none⟩ (.int .i64 ab)) (w.heap.size) 27 #[.string m, .int .i64 (1 + r1), .int .i64 x, .int .i64 n, .int .i64 ab] := (((((hZ.set_ 0 (.string m)).set_ 1 (.int .i64 (1 + r1))).set_ 2 (.int .i64 x)).set_ 3 (.int .i64 n)).set_ 4 (.int .i64 ab))
    replace hL := hL.grownB (grown_set (j := 4) (grown_set (j := 3) (grown_set (j := 2) (grown_set (j := 1) (grown_set (j := 0) (grown_refl wS (some (w.heap.size))) (.string m)) (.int .i64 (1 + r1))) (.int .i64 x)) (.int .i64 n)) (.int .i64 ab)) (by omega)
    generalize World.setCell (World.setCell (World.setCell (World.setCell (World.setCell wS ⟨w.heap.size, 0, none⟩ (.string m)) ⟨w.heap.size, 1, none⟩ (.int .i64 (1 + r1))) ⟨w.heap.size, 2, none⟩ (.int .i64 x)) ⟨w.heap.size, 3, none⟩ (.int .i64 n)) ⟨w.heap.size, 4, none⟩ (.int .i64 ab) = W9 at *
    have z0 := (hZ.cell 0).trans (show _ = some (.string m) from rfl)
    have z1 := (hZ.cell 1).trans (show _ = some (.int .i64 (1 + r1)) from rfl)
    have z2 := (hZ.cell 2).trans (show _ = some (.int .i64 x) from rfl)
    have z3 := (hZ.cell 3).trans (show _ = some (.int .i64 n) from rfl)
    have z4 := (hZ.cell 4).trans (show _ = some (.int .i64 ab) from rfl)
    have l0 := (hL.cell 0).trans (show _ = some (.string m) from rfl)
    have l1 := (hL.cell 1).trans (show _ = some (.int .i64 (1 + r1)) from rfl)
    have l2 := (hL.cell 2).trans (show _ = some (.int .i64 x) from rfl)
    have l3 := (hL.cell 3).trans (show _ = some (.int .i64 n) from rfl)
    have l4 := (hL.cell 4).trans (show _ = some (.int .i64 ab) from rfl)
    have hLl := hL.lt
    refine bodyPost_ret (v := .agg #[.string m, .int .i64 (1 + r1), .int .i64 x, .int .i64 n, .int .i64 ab]) (by simp [results, Tryz.results39, go_sem, z0, z1, z2, z3, z4]) rfl ?_
    exact ⟨m, (1 + r1), x, n, ab, rfl, by omega, by omega, by omega, by omega, by omega, hC.mono (by omega), HG⟩
  · have h0 : (r == 0) = false := beq_eq_false_iff_ne.2 (by omega)
    have h1 : (r == 1) = false := beq_eq_false_iff_ne.2 (by omega)
    have h2 : (r == 2) = false := beq_eq_false_iff_ne.2 (by omega)
    have fhZ0 := hZ.frozen 0
    have fhZ1 := hZ.frozen 1
    have fhZ2 := hZ.frozen 2
    have fhZ3 := hZ.frozen 3
    have fhZ4 := hZ.frozen 4
    have yhZ := hZ.lt
    have yhL := hL.lt
    go_wp2
    clear fhZ0 fhZ1 fhZ2 fhZ3 fhZ4 yhZ yhL
    clear z0 z1 z2 z3 z4
    clear l0 l1 l2 l3 l4
    replace HG : w.grownBy (World.setCell (World.setCell (World.setCell (World.setCell (World.setCell w8 ⟨w.heap.size, 0, none⟩ (.string m)) ⟨w.heap.size, 1, none⟩ (.int .i64 (1 + r1))) ⟨w.heap.size, 2, none⟩ (.int .i64 y)) ⟨w.heap.size, 3, none⟩ (.int .i64 n)) ⟨w.heap.size, 4, none⟩ (.int .i64 ab)) (some p) := (grown_store (grown_store (grown_store (grown_store (grown_store HG (g := w.heap.size) (by omega) 0 (.string m)) (g := w.heap.size) (by omega) 1 (.int .i64 (1 + r1))) (g := w.heap.size) (by omega) 2 (.int .i64 y)) (g := w.heap.size) (by omega) 3 (.int .i64 n)) (g := w.heap.size) (by omega) 4 (.int .i64 ab))
    replace hC := (((((hC.store (g := w.heap.size) (by omega) 0 (.string m)).store (g := w.heap.size) (by omega) 1 (.int .i64 (1 + r1))).store (g := w.heap.size) (by omega) 2 (.int .i64 y)).store (g := w.heap.size) (by omega) 3 (.int .i64 n)).store (g := w.heap.size) (by omega) 4 (.int .i64 ab))
    replace hZ : Blk (World.setCell (World.setCell (World.setCell (World.setCell (World.setCell w8 ⟨w.heap.size, 0, none⟩ (.string m)) ⟨w.heap.size, 1, none⟩ (.int .i64 (1 + r1))) ⟨w.heap.size, 2, none⟩ (.int .i64 y)) ⟨w.heap.size, 3, none⟩ (.int .i64 n)) ⟨w.heap.size, 4, none⟩ (.int .i64 ab)) (w.heap.size) 27 #[.string m, .int .i64 (1 + r1), .int .i64 y, .int .i64 n, .int .i64 ab] := (((((hZ.set_ 0 (.string m)).set_ 1 (.int .i64 (1 + r1))).set_ 2 (.int .i64 y)).set_ 3 (.int .i64 n)).set_ 4 (.int .i64 ab))
    replace hL := hL.grownB (grown_set (j := 4) (grown_set (j := 3) (grown_set (j := 2) (grown_set (j := 1) (grown_set (j := 0) (grown_refl w8 (some (w.heap.size))) (.string m)) (.int .i64 (1 + r1))) (.int .i64 y)) (.int .i64 n)) (.int .i64 ab)) (by omega)
    generalize World.setCell (World.setCell (World.setCell (World.setCell (World.setCell w8 ⟨w.heap.size, 0, none⟩ (.string m)) ⟨w.heap.size, 1, none⟩ (.int .i64 (1 + r1))) ⟨w.heap.size, 2, none⟩ (.int .i64 y)) ⟨w.heap.size, 3, none⟩ (.int .i64 n)) ⟨w.heap.size, 4, none⟩ (.int .i64 ab) = W9 at *
    have z0 := (hZ.cell 0).trans (show _ = some (.string m) from rfl)
    have z1 := (hZ.cell 1).trans (show _ = some (.int .i64 (1 + r1)) from rfl)
    have z2 := (hZ.cell 2).trans (show _ = some (.int .i64 y) from rfl)
    have z3 := (hZ.cell 3).trans (show _ = some (.int .i64 n) from rfl)
    have z4 := (hZ.cell 4).trans (show _ = some (.int .i64 ab) from rfl)
    have l0 := (hL.cell 0).trans (show _ = some (.string m) from rfl)
    have l1 := (hL.cell 1).trans (show _ = some (.int .i64 (1 + r1)) from rfl)
    have l2 := (hL.cell 2).trans (show _ = some (.int .i64 y) from rfl)
    have l3 := (hL.cell 3).trans (show _ = some (.int .i64 n) from rfl)
    have l4 := (hL.cell 4).trans (show _ = some (.int .i64 ab) from rfl)
    have hLl := hL.lt
    refine bodyPost_ret (v := .agg #[.string m, .int .i64 (1 + r1), .int .i64 y, .int .i64 n, .int .i64 ab]) (by simp [results, Tryz.results39, go_sem, z0, z1, z2, z3, z4]) rfl ?_
    exact ⟨m, (1 + r1), y, n, ab, rfl, by omega, by omega, by omega, by omega, by omega, hC.mono (by omega), HG⟩
end Go.Proofs.YtbnncgahepcfnaaGreatDoor
