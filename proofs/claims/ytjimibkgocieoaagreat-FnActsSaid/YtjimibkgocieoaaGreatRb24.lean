/- Texts of the proof: walks of the functions, and what they compute. -/
import Derived.Test.YtjimibkgocieoaaGreatRb23
import Derived.Test.YtjimibkgocieoaaGreatRb4
import Derived.Test.YtjimibkgocieoaaGreatRb0
import Derived.Test.YtjimibkgocieoaaGreatRb16
import Derived.Test.YtjimibkgocieoaaGreatRb17
set_option maxHeartbeats 16000000
set_option maxRecDepth 100000
namespace Go.Proofs.YtjimibkgocieoaaGreat
open Go.RowKit Go.G9
theorem bl0 (w : World) : Below w.heap.size w w := Below.refl _ _
theorem amongL (xs : List Int) (lo hi : Int) (hx : ∀ x ∈ xs, lo ≤ x ∧ x ≤ hi) (h1 : 1 ≤ xs.length) (h2 : xs.length ≤ 1000) (p : Nat) (A : Option Addr) (c : Nat) (cs : List UInt8) (hcs : cs.length ≤ 1048576) (N : Nat) (hN : N ≤ 900000) (w : World) (hC : Cur w p A c cs N) :
 Calls Tryz.prog 67 #[.pointer (some ⟨p, 0, none⟩), .slice (some ⟨w.heap.size, 0, none⟩) xs.length xs.length] (w.alloc (.cells (xs.flatMap intC).toArray 3)) fun e w' => ∃ y : Int, e = .returned (.int .i64 y) ∧ (lo ≤ y ∧ y ≤ hi) ∧ Stepped (w.alloc (.cells (xs.flatMap intC).toArray 3)) w' p A c cs (N + 2) :=
 (among_is _ _ xs h1 h2 p A c cs hcs N hN _ (hC.later (bl1 _ _)) (built_rdsQ w xs (by unfold maxLen; omega)) (fun ad h _ => by cases h; have := hC.lt; show w.heap.size ≠ p; omega)).mono fun _ _ ⟨s, h, hs, hS⟩ => ⟨s, h, hx s hs, hS⟩
theorem ofL (xs : List ByteArray) (z : Nat) (hx : ∀ x ∈ xs, x.size ≤ z) (h1 : 1 ≤ xs.length) (h2 : xs.length ≤ 1000) (p : Nat) (A : Option Addr) (c : Nat) (cs : List UInt8) (hcs : cs.length ≤ 1048576) (N : Nat) (hN : N ≤ 900000) (w : World) (hC : Cur w p A c cs N) :
 Calls Tryz.prog 185 #[.pointer (some ⟨p, 0, none⟩), .slice (some ⟨w.heap.size, 0, none⟩) xs.length xs.length] (w.alloc (.cells (xs.flatMap bC).toArray 9)) fun e w' => ∃ y : ByteArray, e = .returned (.string y) ∧ y.size ≤ z ∧ Stepped (w.alloc (.cells (xs.flatMap bC).toArray 9)) w' p A c cs (N + 2) :=
 (of_is _ _ xs h1 h2 p A c cs hcs N hN _ (hC.later (bl1 _ _)) (built_rdsO w xs (by unfold maxLen; omega)) (fun ad h _ => by cases h; have := hC.lt; show w.heap.size ≠ p; omega)).mono fun _ _ ⟨s, h, hs, hS⟩ => ⟨s, h, hx s hs, hS⟩
theorem zb90 {p : Prop} (h : p := by
 rintro e w1 ⟨y, rfl, hby, hS1⟩
 have hg1 : w.grownBy w1 (some p) := grown_tr (bgr bel _) hS1.2; replace hC := hS1.1; have sz1 := hg1.size; replace HG := grown_tr HG hg1
 go_wp2
 go_ret
 exact ⟨y, rfl, by omega, hC, HG⟩) : p := h
theorem member_is (p : Nat) (A : Option Addr) (c : Nat) (cs : List UInt8) (hcs : cs.length ≤ 1048576) (N : Nat) (hN : N ≤ 800000) (w : World) (hC : Cur w p A c cs N) :
 Calls Tryz.prog 76 #[.pointer (some ⟨p, 0, none⟩)] w fun e w' => ∃ y : Int, e = .returned (.int .i64 y) ∧ (0 ≤ y ∧ y ≤ 1000) ∧ Stepped w w' p A c cs (N + 2) := by
 go_in
 have hp := hC.lt; have HG := grown_refl w (some p)
 go_wp2_with fail
 refine (amongL [1, 2, 3, 4, 5, 99, 1, 2, 3, 0, 100] (0) 100 (by decide) (by decide) (by decide) p A c cs hcs (N + 0) (by omega) w (hC.later (bl0 _))).mono ?_
 exact zb90
theorem votes_is (p : Nat) (A : Option Addr) (c : Nat) (cs : List UInt8) (hcs : cs.length ≤ 1048576) (N : Nat) (hN : N ≤ 800000) (w : World) (hC : Cur w p A c cs N) :
 Calls Tryz.prog 162 #[.pointer (some ⟨p, 0, none⟩)] w fun e w' => ∃ y : Int, e = .returned (.int .i64 y) ∧ (0 ≤ y ∧ y ≤ 1000) ∧ Stepped w w' p A c cs (N + 2) := by
 go_in
 have hp := hC.lt; have HG := grown_refl w (some p)
 go_wp2_with fail
 refine (amongL [0, 1, 2, 3, 5, 9, 10, 20, 40, 999, 1000] (0) 1000 (by decide) (by decide) (by decide) p A c cs hcs (N + 0) (by omega) w (hC.later (bl0 _))).mono ?_
 exact zb90
theorem rule_is (p : Nat) (A : Option Addr) (c : Nat) (cs : List UInt8) (hcs : cs.length ≤ 1048576) (N : Nat) (hN : N ≤ 700000) (w : World) (hC : Cur w p A c cs N) :
 Calls Tryz.prog 184 #[.pointer (some ⟨p, 0, none⟩)] w fun e w' => ∃ r : Rul, e = .returned (.agg (Rul.cells r).toArray) ∧ r.name.size ≤ 12 ∧ Stepped w w' p A c cs (N + 30) := by
 go_in
 have hp := hC.lt; have HG := grown_refl w (some p)
 go_upto_region 1 with fail
 have hb1 : Below w.heap.size w (World.alloc w (.cells #[.int .i64 0, .string ⟨#[]⟩, .int .i64 0, .bool false, .bool false, .bool false, .int .i64 0] 48)) := bl1 w _
 have hZ : Blk (World.alloc w (.cells #[.int .i64 0, .string ⟨#[]⟩, .int .i64 0, .bool false, .bool false, .bool false, .int .i64 0] 48)) (w.heap.size) 48 #[.int .i64 0, .string ⟨#[]⟩, .int .i64 0, .bool false, .bool false, .bool false, .int .i64 0] := by repeat (first | exact Blk.new _ _ _ | exact Blk.new2 _ _ _ _ | exact Blk.new3 _ _ _ _ _ | exact Blk.new4 _ _ _ _ _ _ | refine Blk.alloc ?_ _)
 generalize World.alloc w (.cells #[.int .i64 0, .string ⟨#[]⟩, .int .i64 0, .bool false, .bool false, .bool false, .int .i64 0] 48) = w1 at *
 replace hC := hC.later hb1; replace HG := grown_tr HG (bgr hb1 (some p)); have sz1 := hb1.size; have LhZ := hZ.lt; have z0 := (hZ.cell 0).trans (show _ = some (.int .i64 0) from rfl); have z1 := (hZ.cell 1).trans (show _ = some (.string ⟨#[]⟩) from rfl); have z2 := (hZ.cell 2).trans (show _ = some (.int .i64 0) from rfl); have z3 := (hZ.cell 3).trans (show _ = some (.bool false) from rfl); have z4 := (hZ.cell 4).trans (show _ = some (.bool false) from rfl)
 have z5 := (hZ.cell 5).trans (show _ = some (.bool false) from rfl); have z6 := (hZ.cell 6).trans (show _ = some (.int .i64 0) from rfl)
 go_wp2_with fail
 refine (pick_is 12 p A c cs hcs (N + 0) (by omega) (by omega) _ (hC.later bel)).mono ?_
 rintro e w2 ⟨r1, rfl, ⟨hbr1, _, hcr1⟩, hS2⟩
 clear z0 z1 z2 z3 z4 z5 z6; have hg2 : w1.grownBy w2 (some p) := grown_tr (bgr bel _) hS2.2; replace hC := hS2.1; have sz2 := hg2.size; replace HG := grown_tr HG hg2; replace hZ := hZ.grownB hg2 (by omega); have z0 := (hZ.cell 0).trans (show _ = some (.int .i64 0) from rfl); have z1 := (hZ.cell 1).trans (show _ = some (.string ⟨#[]⟩) from rfl); have z2 := (hZ.cell 2).trans (show _ = some (.int .i64 0) from rfl)
 have z3 := (hZ.cell 3).trans (show _ = some (.bool false) from rfl); have z4 := (hZ.cell 4).trans (show _ = some (.bool false) from rfl); have z5 := (hZ.cell 5).trans (show _ = some (.bool false) from rfl); have z6 := (hZ.cell 6).trans (show _ = some (.int .i64 0) from rfl); replace hcr1 := hcr1 (by omega)
 go_wp2_with fail
 refine (word_is p A c cs hcs (N + 2) (by omega) _ (hC.later bel)).mono ?_
 rintro e w3 ⟨nm, rfl, hbnm, hS3⟩
 clear z0 z1 z2 z3 z4 z5 z6; have hg3 : w2.grownBy w3 (some p) := grown_tr (bgr bel _) hS3.2; replace hC := hS3.1; have sz3 := hg3.size; replace HG := grown_tr HG hg3; replace hZ := hZ.grownB hg3 (by omega); have z0 := (hZ.cell 0).trans (show _ = some (.int .i64 0) from rfl); have z1 := (hZ.cell 1).trans (show _ = some (.string ⟨#[]⟩) from rfl); have z2 := (hZ.cell 2).trans (show _ = some (.int .i64 0) from rfl)
 have z3 := (hZ.cell 3).trans (show _ = some (.bool false) from rfl); have z4 := (hZ.cell 4).trans (show _ = some (.bool false) from rfl); have z5 := (hZ.cell 5).trans (show _ = some (.bool false) from rfl); have z6 := (hZ.cell 6).trans (show _ = some (.int .i64 0) from rfl)
 go_wp2_with fail
 refine (pick_is 10 p A c cs hcs (N + 4) (by omega) (by omega) _ (hC.later bel)).mono ?_
 rintro e w4 ⟨rk, rfl, ⟨hbrk, _, hcrk⟩, hS4⟩
 clear z0 z1 z2 z3 z4 z5 z6; have hg4 : w3.grownBy w4 (some p) := grown_tr (bgr bel _) hS4.2; replace hC := hS4.1; have sz4 := hg4.size; replace HG := grown_tr HG hg4; replace hZ := hZ.grownB hg4 (by omega); have z0 := (hZ.cell 0).trans (show _ = some (.int .i64 0) from rfl); have z1 := (hZ.cell 1).trans (show _ = some (.string ⟨#[]⟩) from rfl); have z2 := (hZ.cell 2).trans (show _ = some (.int .i64 0) from rfl)
 have z3 := (hZ.cell 3).trans (show _ = some (.bool false) from rfl); have z4 := (hZ.cell 4).trans (show _ = some (.bool false) from rfl); have z5 := (hZ.cell 5).trans (show _ = some (.bool false) from rfl); have z6 := (hZ.cell 6).trans (show _ = some (.int .i64 0) from rfl); replace hcrk := hcrk (by omega)
 go_wp2_with fail
 refine (one_is 2 p A c cs hcs (N + 6) (by omega) (by omega) _ (hC.later bel)).mono ?_
 rintro e w5 ⟨sc, rfl, hS5⟩
 clear z0 z1 z2 z3 z4 z5 z6; have hg5 : w4.grownBy w5 (some p) := grown_tr (bgr bel _) hS5.2; replace hC := hS5.1; have sz5 := hg5.size; replace HG := grown_tr HG hg5; replace hZ := hZ.grownB hg5 (by omega); have z0 := (hZ.cell 0).trans (show _ = some (.int .i64 0) from rfl); have z1 := (hZ.cell 1).trans (show _ = some (.string ⟨#[]⟩) from rfl); have z2 := (hZ.cell 2).trans (show _ = some (.int .i64 0) from rfl)
 have z3 := (hZ.cell 3).trans (show _ = some (.bool false) from rfl); have z4 := (hZ.cell 4).trans (show _ = some (.bool false) from rfl); have z5 := (hZ.cell 5).trans (show _ = some (.bool false) from rfl); have z6 := (hZ.cell 6).trans (show _ = some (.int .i64 0) from rfl)
 go_wp2_with fail
 refine (one_is 2 p A c cs hcs (N + 8) (by omega) (by omega) _ (hC.later bel)).mono ?_
 rintro e w6 ⟨db, rfl, hS6⟩
 clear z0 z1 z2 z3 z4 z5 z6; have hg6 : w5.grownBy w6 (some p) := grown_tr (bgr bel _) hS6.2; replace hC := hS6.1; have sz6 := hg6.size; replace HG := grown_tr HG hg6; replace hZ := hZ.grownB hg6 (by omega); have z0 := (hZ.cell 0).trans (show _ = some (.int .i64 0) from rfl); have z1 := (hZ.cell 1).trans (show _ = some (.string ⟨#[]⟩) from rfl); have z2 := (hZ.cell 2).trans (show _ = some (.int .i64 0) from rfl)
 have z3 := (hZ.cell 3).trans (show _ = some (.bool false) from rfl); have z4 := (hZ.cell 4).trans (show _ = some (.bool false) from rfl); have z5 := (hZ.cell 5).trans (show _ = some (.bool false) from rfl); have z6 := (hZ.cell 6).trans (show _ = some (.int .i64 0) from rfl)
 go_wp2_with fail
 refine (one_is 2 p A c cs hcs (N + 10) (by omega) (by omega) _ (hC.later bel)).mono ?_
 rintro e w7 ⟨am, rfl, hS7⟩
 clear z0 z1 z2 z3 z4 z5 z6; have hg7 : w6.grownBy w7 (some p) := grown_tr (bgr bel _) hS7.2; replace hC := hS7.1; have sz7 := hg7.size; replace HG := grown_tr HG hg7; replace hZ := hZ.grownB hg7 (by omega); have z0 := (hZ.cell 0).trans (show _ = some (.int .i64 0) from rfl); have z1 := (hZ.cell 1).trans (show _ = some (.string ⟨#[]⟩) from rfl); have z2 := (hZ.cell 2).trans (show _ = some (.int .i64 0) from rfl)
 have z3 := (hZ.cell 3).trans (show _ = some (.bool false) from rfl); have z4 := (hZ.cell 4).trans (show _ = some (.bool false) from rfl); have z5 := (hZ.cell 5).trans (show _ = some (.bool false) from rfl); have z6 := (hZ.cell 6).trans (show _ = some (.int .i64 0) from rfl)
 go_wp2_with fail
 refine (pick_is 3 p A c cs hcs (N + 12) (by omega) (by omega) _ (hC.later bel)).mono ?_
 rintro e w8 ⟨r2, rfl, ⟨hbr2, _, hcr2⟩, hS8⟩
 clear z0 z1 z2 z3 z4 z5 z6; have hg8 : w7.grownBy w8 (some p) := grown_tr (bgr bel _) hS8.2; replace hC := hS8.1; have sz8 := hg8.size; replace HG := grown_tr HG hg8; replace hZ := hZ.grownB hg8 (by omega); have z0 := (hZ.cell 0).trans (show _ = some (.int .i64 0) from rfl); have z1 := (hZ.cell 1).trans (show _ = some (.string ⟨#[]⟩) from rfl); have z2 := (hZ.cell 2).trans (show _ = some (.int .i64 0) from rfl)
 have z3 := (hZ.cell 3).trans (show _ = some (.bool false) from rfl); have z4 := (hZ.cell 4).trans (show _ = some (.bool false) from rfl); have z5 := (hZ.cell 5).trans (show _ = some (.bool false) from rfl); have z6 := (hZ.cell 6).trans (show _ = some (.int .i64 0) from rfl); replace hcr2 := hcr2 (by omega)
 obtain ⟨id, hid⟩ : ∃ x, x = 1 + r1 := ⟨_, rfl⟩
 obtain ⟨nd, hnd⟩ : ∃ x, x = 1 + r2 := ⟨_, rfl⟩
 go_upto_region 2 with fail
 rw [← hid, ← hnd]
 clear hid hnd
 replace hbnm : nm.size ≤ 12 := by omega
 have hb9 : Below w8.heap.size w8 (World.alloc w8 (.cells #[.int .i64 id, .string nm, .int .i64 rk, .bool sc, .bool db, .bool am, .int .i64 nd] 48)) := bl1 w8 _
 have hL : Blk (World.alloc w8 (.cells #[.int .i64 id, .string nm, .int .i64 rk, .bool sc, .bool db, .bool am, .int .i64 nd] 48)) (w8.heap.size) 48 #[.int .i64 id, .string nm, .int .i64 rk, .bool sc, .bool db, .bool am, .int .i64 nd] := by repeat (first | exact Blk.new _ _ _ | exact Blk.new2 _ _ _ _ | exact Blk.new3 _ _ _ _ _ | exact Blk.new4 _ _ _ _ _ _ | refine Blk.alloc ?_ _)
 generalize World.alloc w8 (.cells #[.int .i64 id, .string nm, .int .i64 rk, .bool sc, .bool db, .bool am, .int .i64 nd] 48) = wL at *
 replace hC := hC.later hb9; replace HG := grown_tr HG (bgr hb9 (some p)); clear z0 z1 z2 z3 z4 z5 z6; replace hZ := hZ.grownB (bgr hb9 (some p)) (by omega); have z0 := (hZ.cell 0).trans (show _ = some (.int .i64 0) from rfl); have z1 := (hZ.cell 1).trans (show _ = some (.string ⟨#[]⟩) from rfl); have z2 := (hZ.cell 2).trans (show _ = some (.int .i64 0) from rfl); have z3 := (hZ.cell 3).trans (show _ = some (.bool false) from rfl)
 have z4 := (hZ.cell 4).trans (show _ = some (.bool false) from rfl); have z5 := (hZ.cell 5).trans (show _ = some (.bool false) from rfl); have z6 := (hZ.cell 6).trans (show _ = some (.int .i64 0) from rfl); have sz9 := hb9.size; have LhL := hL.lt; have l' := hL.cs7
 go_wp2_with fail
 refine (pick_is 24 p A c cs hcs (N + 14) (by omega) (by omega) _ (hC.later bel)).mono ?_
 rintro e w10 ⟨r, rfl, ⟨hbr, _, hcr⟩, hS10⟩
 clear z0 z1 z2 z3 z4 z5 z6; clear l'; have hg10 : wL.grownBy w10 (some p) := grown_tr (bgr bel _) hS10.2; replace hC := hS10.1; have sz10 := hg10.size; replace HG := grown_tr HG hg10; replace hZ := hZ.grownB hg10 (by omega); replace hL := hL.grownB hg10 (by omega); have z0 := (hZ.cell 0).trans (show _ = some (.int .i64 0) from rfl); have z1 := (hZ.cell 1).trans (show _ = some (.string ⟨#[]⟩) from rfl)
 have z2 := (hZ.cell 2).trans (show _ = some (.int .i64 0) from rfl); have z3 := (hZ.cell 3).trans (show _ = some (.bool false) from rfl); have z4 := (hZ.cell 4).trans (show _ = some (.bool false) from rfl); have z5 := (hZ.cell 5).trans (show _ = some (.bool false) from rfl); have z6 := (hZ.cell 6).trans (show _ = some (.int .i64 0) from rfl); have l' := hL.cs7; replace hcr := hcr (by omega)
 rcases (show r = 0 ∨ r = 1 ∨ r = 2 ∨ r = 3 ∨ 3 < r by omega) with rfl | rfl | rfl | rfl | hr4
 case' inl =>
  go_wp2_with fail
  refine (amongL [0, 20, 21] (0) 21 (by decide) (by decide) (by decide) p A c cs hcs (N + 16) (by omega) w10 (hC.later (bl0 _))).mono ?_
  rintro e w11 ⟨id, rfl, hbid, hS11⟩
  clear z0 z1 z2 z3 z4 z5 z6; clear l'; have hg11 : w10.grownBy w11 (some p) := grown_tr (bgr bel _) hS11.2; replace hC := hS11.1; have sz11 := hg11.size; replace HG := grown_tr HG hg11; replace hZ := hZ.grownB hg11 (by omega); replace hL := hL.grownB hg11 (by omega); have z0 := (hZ.cell 0).trans (show _ = some (.int .i64 0) from rfl); have z1 := (hZ.cell 1).trans (show _ = some (.string ⟨#[]⟩) from rfl)
  have z2 := (hZ.cell 2).trans (show _ = some (.int .i64 0) from rfl); have z3 := (hZ.cell 3).trans (show _ = some (.bool false) from rfl); have z4 := (hZ.cell 4).trans (show _ = some (.bool false) from rfl); have z5 := (hZ.cell 5).trans (show _ = some (.bool false) from rfl); have z6 := (hZ.cell 6).trans (show _ = some (.int .i64 0) from rfl); have l' := hL.cs7; have fhL0 := hL.frozen 0; have yhZ := hZ.lt
  have yhL := hL.lt
  go_upto_region 11 with fail
  clear fhL0; clear z0 z1 z2 z3 z4 z5 z6; clear l'; replace HG : w.grownBy (World.setCell w11 ⟨w8.heap.size, 0, none⟩ (.int .i64 id)) (some p) := (grown_store HG (g := w8.heap.size) (by omega) 0 (.int .i64 id)); replace hC := (hC.store (g := w8.heap.size) (by omega) 0 (.int .i64 id)); replace hZ := hZ.grownB (grown_set (j := 0) (grown_refl w11 (some (w8.heap.size))) (.int .i64 id)) (by omega); replace hL : Blk (World.setCell w11 ⟨w8.heap.size, 0, none⟩ (.int .i64 id)) (w8.heap.size) 48 #[.int .i64 id, .string nm, .int .i64 rk, .bool sc, .bool db, .bool am, .int .i64 nd] := (hL.set_ 0 (.int .i64 id))
  generalize World.setCell w11 ⟨w8.heap.size, 0, none⟩ (.int .i64 id) = wS at *
  have z0 := (hZ.cell 0).trans (show _ = some (.int .i64 0) from rfl); have z1 := (hZ.cell 1).trans (show _ = some (.string ⟨#[]⟩) from rfl); have z2 := (hZ.cell 2).trans (show _ = some (.int .i64 0) from rfl); have z3 := (hZ.cell 3).trans (show _ = some (.bool false) from rfl); have z4 := (hZ.cell 4).trans (show _ = some (.bool false) from rfl); have z5 := (hZ.cell 5).trans (show _ = some (.bool false) from rfl)
  have z6 := (hZ.cell 6).trans (show _ = some (.int .i64 0) from rfl); have l' := hL.cs7; replace hC := hC.mono (M := N + 30) (by omega)
 case' inr.inl =>
  go_wp2_with fail
  refine (ofL [(⟨#[]⟩ : ByteArray), (⟨#[97, 98, 99, 100, 101, 102, 103, 104, 105, 106]⟩ : ByteArray), (⟨#[97, 98, 99, 100, 101, 102, 103, 104, 105, 106, 107]⟩ : ByteArray), (⟨#[65]⟩ : ByteArray), (⟨#[97, 32, 98]⟩ : ByteArray)] 12 (by decide) (by decide) (by decide) p A c cs hcs (N + 16) (by omega) w10 (hC.later (bl0 _))).mono ?_
  rintro e w11 ⟨nm, rfl, hbnm, hS11⟩
  clear z0 z1 z2 z3 z4 z5 z6; clear l'; have hg11 : w10.grownBy w11 (some p) := grown_tr (bgr bel _) hS11.2; replace hC := hS11.1; have sz11 := hg11.size; replace HG := grown_tr HG hg11; replace hZ := hZ.grownB hg11 (by omega); replace hL := hL.grownB hg11 (by omega); have z0 := (hZ.cell 0).trans (show _ = some (.int .i64 0) from rfl); have z1 := (hZ.cell 1).trans (show _ = some (.string ⟨#[]⟩) from rfl)
  have z2 := (hZ.cell 2).trans (show _ = some (.int .i64 0) from rfl); have z3 := (hZ.cell 3).trans (show _ = some (.bool false) from rfl); have z4 := (hZ.cell 4).trans (show _ = some (.bool false) from rfl); have z5 := (hZ.cell 5).trans (show _ = some (.bool false) from rfl); have z6 := (hZ.cell 6).trans (show _ = some (.int .i64 0) from rfl); have l' := hL.cs7; have fhL1 := hL.frozen 1; have yhZ := hZ.lt
  have yhL := hL.lt
  go_upto_region 11 with fail
  clear fhL1; clear z0 z1 z2 z3 z4 z5 z6; clear l'; replace HG : w.grownBy (World.setCell w11 ⟨w8.heap.size, 1, none⟩ (.string nm)) (some p) := (grown_store HG (g := w8.heap.size) (by omega) 1 (.string nm)); replace hC := (hC.store (g := w8.heap.size) (by omega) 1 (.string nm)); replace hZ := hZ.grownB (grown_set (j := 1) (grown_refl w11 (some (w8.heap.size))) (.string nm)) (by omega); replace hL : Blk (World.setCell w11 ⟨w8.heap.size, 1, none⟩ (.string nm)) (w8.heap.size) 48 #[.int .i64 id, .string nm, .int .i64 rk, .bool sc, .bool db, .bool am, .int .i64 nd] := (hL.set_ 1 (.string nm))
  generalize World.setCell w11 ⟨w8.heap.size, 1, none⟩ (.string nm) = wS at *
  have z0 := (hZ.cell 0).trans (show _ = some (.int .i64 0) from rfl); have z1 := (hZ.cell 1).trans (show _ = some (.string ⟨#[]⟩) from rfl); have z2 := (hZ.cell 2).trans (show _ = some (.int .i64 0) from rfl); have z3 := (hZ.cell 3).trans (show _ = some (.bool false) from rfl); have z4 := (hZ.cell 4).trans (show _ = some (.bool false) from rfl); have z5 := (hZ.cell 5).trans (show _ = some (.bool false) from rfl)
  have z6 := (hZ.cell 6).trans (show _ = some (.int .i64 0) from rfl); have l' := hL.cs7; replace hC := hC.mono (M := N + 30) (by omega)
 case' inr.inr.inl =>
  go_wp2_with fail
  refine (amongL [-1, 9, 10] (-1) 10 (by decide) (by decide) (by decide) p A c cs hcs (N + 16) (by omega) w10 (hC.later (bl0 _))).mono ?_
  rintro e w11 ⟨rk, rfl, hbrk, hS11⟩
  clear z0 z1 z2 z3 z4 z5 z6; clear l'; have hg11 : w10.grownBy w11 (some p) := grown_tr (bgr bel _) hS11.2; replace hC := hS11.1; have sz11 := hg11.size; replace HG := grown_tr HG hg11; replace hZ := hZ.grownB hg11 (by omega); replace hL := hL.grownB hg11 (by omega); have z0 := (hZ.cell 0).trans (show _ = some (.int .i64 0) from rfl); have z1 := (hZ.cell 1).trans (show _ = some (.string ⟨#[]⟩) from rfl)
  have z2 := (hZ.cell 2).trans (show _ = some (.int .i64 0) from rfl); have z3 := (hZ.cell 3).trans (show _ = some (.bool false) from rfl); have z4 := (hZ.cell 4).trans (show _ = some (.bool false) from rfl); have z5 := (hZ.cell 5).trans (show _ = some (.bool false) from rfl); have z6 := (hZ.cell 6).trans (show _ = some (.int .i64 0) from rfl); have l' := hL.cs7; have fhL2 := hL.frozen 2; have yhZ := hZ.lt
  have yhL := hL.lt
  go_upto_region 11 with fail
  clear fhL2; clear z0 z1 z2 z3 z4 z5 z6; clear l'; replace HG : w.grownBy (World.setCell w11 ⟨w8.heap.size, 2, none⟩ (.int .i64 rk)) (some p) := (grown_store HG (g := w8.heap.size) (by omega) 2 (.int .i64 rk)); replace hC := (hC.store (g := w8.heap.size) (by omega) 2 (.int .i64 rk)); replace hZ := hZ.grownB (grown_set (j := 2) (grown_refl w11 (some (w8.heap.size))) (.int .i64 rk)) (by omega); replace hL : Blk (World.setCell w11 ⟨w8.heap.size, 2, none⟩ (.int .i64 rk)) (w8.heap.size) 48 #[.int .i64 id, .string nm, .int .i64 rk, .bool sc, .bool db, .bool am, .int .i64 nd] := (hL.set_ 2 (.int .i64 rk))
  generalize World.setCell w11 ⟨w8.heap.size, 2, none⟩ (.int .i64 rk) = wS at *
  have z0 := (hZ.cell 0).trans (show _ = some (.int .i64 0) from rfl); have z1 := (hZ.cell 1).trans (show _ = some (.string ⟨#[]⟩) from rfl); have z2 := (hZ.cell 2).trans (show _ = some (.int .i64 0) from rfl); have z3 := (hZ.cell 3).trans (show _ = some (.bool false) from rfl); have z4 := (hZ.cell 4).trans (show _ = some (.bool false) from rfl); have z5 := (hZ.cell 5).trans (show _ = some (.bool false) from rfl)
  have z6 := (hZ.cell 6).trans (show _ = some (.int .i64 0) from rfl); have l' := hL.cs7; replace hC := hC.mono (M := N + 30) (by omega)
 case' inr.inr.inr.inl =>
  go_wp2_with fail
  refine (amongL [0, 4] (0) 4 (by decide) (by decide) (by decide) p A c cs hcs (N + 16) (by omega) w10 (hC.later (bl0 _))).mono ?_
  rintro e w11 ⟨nd, rfl, hbnd, hS11⟩
  clear z0 z1 z2 z3 z4 z5 z6; clear l'; have hg11 : w10.grownBy w11 (some p) := grown_tr (bgr bel _) hS11.2; replace hC := hS11.1; have sz11 := hg11.size; replace HG := grown_tr HG hg11; replace hZ := hZ.grownB hg11 (by omega); replace hL := hL.grownB hg11 (by omega); have z0 := (hZ.cell 0).trans (show _ = some (.int .i64 0) from rfl); have z1 := (hZ.cell 1).trans (show _ = some (.string ⟨#[]⟩) from rfl)
  have z2 := (hZ.cell 2).trans (show _ = some (.int .i64 0) from rfl); have z3 := (hZ.cell 3).trans (show _ = some (.bool false) from rfl); have z4 := (hZ.cell 4).trans (show _ = some (.bool false) from rfl); have z5 := (hZ.cell 5).trans (show _ = some (.bool false) from rfl); have z6 := (hZ.cell 6).trans (show _ = some (.int .i64 0) from rfl); have l' := hL.cs7; have fhL6 := hL.frozen 6; have yhZ := hZ.lt
  have yhL := hL.lt
  go_upto_region 11 with fail
  clear fhL6; clear z0 z1 z2 z3 z4 z5 z6; clear l'; replace HG : w.grownBy (World.setCell w11 ⟨w8.heap.size, 6, none⟩ (.int .i64 nd)) (some p) := (grown_store HG (g := w8.heap.size) (by omega) 6 (.int .i64 nd)); replace hC := (hC.store (g := w8.heap.size) (by omega) 6 (.int .i64 nd)); replace hZ := hZ.grownB (grown_set (j := 6) (grown_refl w11 (some (w8.heap.size))) (.int .i64 nd)) (by omega); replace hL : Blk (World.setCell w11 ⟨w8.heap.size, 6, none⟩ (.int .i64 nd)) (w8.heap.size) 48 #[.int .i64 id, .string nm, .int .i64 rk, .bool sc, .bool db, .bool am, .int .i64 nd] := (hL.set_ 6 (.int .i64 nd))
  generalize World.setCell w11 ⟨w8.heap.size, 6, none⟩ (.int .i64 nd) = wS at *
  have z0 := (hZ.cell 0).trans (show _ = some (.int .i64 0) from rfl); have z1 := (hZ.cell 1).trans (show _ = some (.string ⟨#[]⟩) from rfl); have z2 := (hZ.cell 2).trans (show _ = some (.int .i64 0) from rfl); have z3 := (hZ.cell 3).trans (show _ = some (.bool false) from rfl); have z4 := (hZ.cell 4).trans (show _ = some (.bool false) from rfl); have z5 := (hZ.cell 5).trans (show _ = some (.bool false) from rfl)
  have z6 := (hZ.cell 6).trans (show _ = some (.int .i64 0) from rfl); have l' := hL.cs7; replace hC := hC.mono (M := N + 30) (by omega)
 case' inr.inr.inr.inr =>
  have g0 : (r == 0) = false := beq_eq_false_iff_ne.2 (by omega); have g1 : (r == 1) = false := beq_eq_false_iff_ne.2 (by omega); have g2 : (r == 2) = false := beq_eq_false_iff_ne.2 (by omega); have g3 : (r == 3) = false := beq_eq_false_iff_ne.2 (by omega)
  go_upto_region 11 with fail
  replace hC := hC.mono (M := N + 30) (by omega)
  generalize w10 = wS at *
 all_goals
  have fhZ' := hZ.fz7; have yhZ := hZ.lt; have yhL := hL.lt
  go_wp2
  clear z0 z1 z2 z3 z4 z5 z6; clear l'; replace HG : w.grownBy (World.setCell (World.setCell (World.setCell (World.setCell (World.setCell (World.setCell (World.setCell wS ⟨w.heap.size, 0, none⟩ (.int .i64 id)) ⟨w.heap.size, 1, none⟩ (.string nm)) ⟨w.heap.size, 2, none⟩ (.int .i64 rk)) ⟨w.heap.size, 3, none⟩ (.bool sc)) ⟨w.heap.size, 4, none⟩ (.bool db)) ⟨w.heap.size, 5, none⟩ (.bool am)) ⟨w.heap.size, 6, none⟩ (.int .i64 nd)) (some p) := (grown_store (grown_store (grown_store (grown_store (grown_store (grown_store (grown_store HG (g := w.heap.size) (by omega) 0 (.int .i64 id)) (g := w.heap.size) (by omega) 1 (.string nm)) (g := w.heap.size) (by omega) 2 (.int .i64 rk)) (g := w.heap.size) (by omega) 3 (.bool sc)) (g := w.heap.size) (by omega) 4 (.bool db)) (g := w.heap.size) (by omega) 5 (.bool am)) (g := w.heap.size) (by omega) 6 (.int .i64 nd))
  replace hC := (((((((hC.store (g := w.heap.size) (by omega) 0 (.int .i64 id)).store (g := w.heap.size) (by omega) 1 (.string nm)).store (g := w.heap.size) (by omega) 2 (.int .i64 rk)).store (g := w.heap.size) (by omega) 3 (.bool sc)).store (g := w.heap.size) (by omega) 4 (.bool db)).store (g := w.heap.size) (by omega) 5 (.bool am)).store (g := w.heap.size) (by omega) 6 (.int .i64 nd)); replace hZ : Blk (World.setCell (World.setCell (World.setCell (World.setCell (World.setCell (World.setCell (World.setCell wS ⟨w.heap.size, 0, none⟩ (.int .i64 id)) ⟨w.heap.size, 1, none⟩ (.string nm)) ⟨w.heap.size, 2, none⟩ (.int .i64 rk)) ⟨w.heap.size, 3, none⟩ (.bool sc)) ⟨w.heap.size, 4, none⟩ (.bool db)) ⟨w.heap.size, 5, none⟩ (.bool am)) ⟨w.heap.size, 6, none⟩ (.int .i64 nd)) (w.heap.size) 48 #[.int .i64 id, .string nm, .int .i64 rk, .bool sc, .bool db, .bool am, .int .i64 nd] := (((((((hZ.set_ 0 (.int .i64 id)).set_ 1 (.string nm)).set_ 2 (.int .i64 rk)).set_ 3 (.bool sc)).set_ 4 (.bool db)).set_ 5 (.bool am)).set_ 6 (.int .i64 nd))
  replace hL := hL.grownB (grown_set (j := 6) (grown_set (j := 5) (grown_set (j := 4) (grown_set (j := 3) (grown_set (j := 2) (grown_set (j := 1) (grown_set (j := 0) (grown_refl wS (some (w.heap.size))) (.int .i64 id)) (.string nm)) (.int .i64 rk)) (.bool sc)) (.bool db)) (.bool am)) (.int .i64 nd)) (by omega)
  generalize World.setCell (World.setCell (World.setCell (World.setCell (World.setCell (World.setCell (World.setCell wS ⟨w.heap.size, 0, none⟩ (.int .i64 id)) ⟨w.heap.size, 1, none⟩ (.string nm)) ⟨w.heap.size, 2, none⟩ (.int .i64 rk)) ⟨w.heap.size, 3, none⟩ (.bool sc)) ⟨w.heap.size, 4, none⟩ (.bool db)) ⟨w.heap.size, 5, none⟩ (.bool am)) ⟨w.heap.size, 6, none⟩ (.int .i64 nd) = W9 at *
  obtain ⟨z0, z1, z2, z3, z4, z5, z6⟩ := hZ.cs7
  have l' := hL.cs7
  refine bodyPost_ret (v := .agg #[.int .i64 id, .string nm, .int .i64 rk, .bool sc, .bool db, .bool am, .int .i64 nd]) (by simp [results, Tryz.results184, go_sem, z0, z1, z2, z3, z4, z5, z6]) rfl ?_
  refine ⟨⟨id, nm, rk, sc, db, am, nd, by unfold maxLen; omega⟩, rfl, by assumption, hC, HG⟩
open Go.RowKit Go.G9
theorem drRuleOf_is (L : Option Addr) (lc : Nat) (xs : List Rul) (hx : xs.length ≤ 1000) (p : Nat) (A : Option Addr) (c : Nat) (cs : List UInt8) (hcs : cs.length ≤ 1048576) (N : Nat) (hN : N ≤ 800000) (w : World) (hC : Cur w p A c cs N) (R : Rds 7 Rul.cells w L xs) (hL : ∀ ad, L = some ad → 0 < xs.length → ad.block ≠ p) :
 Calls Tryz.prog 102 #[.pointer (some ⟨p, 0, none⟩), .slice L xs.length lc] w fun e w' => ∃ y : Int, e = .returned (.int .i64 y) ∧ Stepped w w' p A c cs (N + 4) := by
 have HR := lh R; clear R
 by_cases h0 : xs.length = 0
 ·obtain rfl := List.length_eq_zero_iff.1 h0
  clear h0
  go_in
  have hp := hC.lt; have HG := grown_refl w (some p)
  go_wp2_with fail
  refine (pick_is 22 p A c cs hcs (N + 0) (by omega) (by omega) _ (hC.later bel)).mono ?_
  rintro e w1 ⟨y, rfl, ⟨hby, _, hcy⟩, hS1⟩
  have hg1 : w.grownBy w1 (some p) := grown_tr (bgr bel _) hS1.2; replace hC := hS1.1; have sz1 := hg1.size; replace HG := grown_tr HG hg1; replace hcy := hcy (by omega)
  go_wp2
  go_ret
  exact ⟨y, rfl, hC.mono (by omega), HG⟩
 ·have g0 : ((xs.length : Int) == 0) = false := beq_eq_false_iff_ne.2 (by omega)
  go_in
  have hp := hC.lt; have HG := grown_refl w (some p)
  go_wp2_with fail
  refine (one_is 8 p A c cs hcs (N + 0) (by omega) (by omega) _ (hC.later bel)).mono ?_
  rintro e w1 ⟨b, rfl, hS1⟩
  have hg1 : w.grownBy w1 (some p) := grown_tr (bgr bel _) hS1.2; replace hC := hS1.1; have sz1 := hg1.size; replace HG := grown_tr HG hg1
  cases b
  ·have hx1 : ((xs.length : Nat) : Int) ≤ 1000000000 := by omega
   go_wp2_with fail
   refine (pick_is (xs.length : Int) p A c cs hcs (N + 2) (by omega) (by omega) _ (hC.later bel)).mono ?_
   rintro e w2 ⟨r, rfl, ⟨hr0, hr1, hr2⟩, hS2⟩
   have hg2 : w1.grownBy w2 (some p) := grown_tr (bgr bel _) hS2.2; replace hC := hS2.1; have sz2 := hg2.size; replace HG := grown_tr HG hg2
   have hr : r < xs.length := by
    by_cases h1 : (1 : Int) < xs.length
    ·exact hr2 h1
    ·rw [hr1 (by omega)]; omega
   obtain ⟨k, rfl⟩ : ∃ k : Nat, r = k := ⟨r.toNat, by omega⟩
   have hk : k < xs.length := by omega
   obtain ⟨b, off, x, rfl, hbl, hx2, hcx⟩ := (rds_far HR.out HG hL).at_ (Below.refl _ _) hk
   have f0 := hcx 0 _ rfl (Kin.self _)
   simp only [Nat.add_zero, Kin.self] at f0
   clear hx2 hcx hr1 hr2
   go_wp2
   go_ret
   exact ⟨x.id, rfl, hC.mono (by omega), HG⟩
  ·go_wp2_with fail
   refine (pick_is 22 p A c cs hcs (N + 2) (by omega) (by omega) _ (hC.later bel)).mono ?_
   rintro e w2 ⟨y, rfl, ⟨hby, _, hcy⟩, hS2⟩
   have hg2 : w1.grownBy w2 (some p) := grown_tr (bgr bel _) hS2.2; replace hC := hS2.1; have sz2 := hg2.size; replace HG := grown_tr HG hg2; replace hcy := hcy (by omega)
   go_wp2
   go_ret
   exact ⟨y, rfl, hC.mono (by omega), HG⟩
theorem tally_is (p : Nat) (A : Option Addr) (c : Nat) (cs : List UInt8) (hcs : cs.length ≤ 1048576) (N : Nat) (hN : N ≤ 700000) (w : World) (hC : Cur w p A c cs N) :
 Calls Tryz.prog 105 #[.pointer (some ⟨p, 0, none⟩)] w fun e w' => ∃ ye no ab : Int, e = .returned (.agg #[.int .i64 ye, .int .i64 no, .int .i64 ab]) ∧ Stepped w w' p A c cs (N + 20) := by
 go_in
 have hp := hC.lt; have HG := grown_refl w (some p)
 go_upto_region 1 with fail
 have hb1 : Below w.heap.size w (World.alloc w (.cells #[.int .i64 0, .int .i64 0, .int .i64 0] 34)) := bl1 w _
 have hZ : Blk (World.alloc w (.cells #[.int .i64 0, .int .i64 0, .int .i64 0] 34)) (w.heap.size) 34 #[.int .i64 0, .int .i64 0, .int .i64 0] := by repeat (first | exact Blk.new _ _ _ | exact Blk.new2 _ _ _ _ | exact Blk.new3 _ _ _ _ _ | exact Blk.new4 _ _ _ _ _ _ | refine Blk.alloc ?_ _)
 generalize World.alloc w (.cells #[.int .i64 0, .int .i64 0, .int .i64 0] 34) = w1 at *
 replace hC := hC.later hb1; replace HG := grown_tr HG (bgr hb1 (some p)); have sz1 := hb1.size; have LhZ := hZ.lt; have z' := hZ.cs3
 go_wp2_with fail
 refine (votes_is p A c cs hcs N (by omega) _ (hC.later bel)).mono ?_
 rintro e w2 ⟨ye, rfl, hbye, hS2⟩
 clear z'; have hg2 : w1.grownBy w2 (some p) := grown_tr (bgr bel _) hS2.2; replace hC := hS2.1; have sz2 := hg2.size; replace HG := grown_tr HG hg2; replace hZ := hZ.grownB hg2 (by omega); have z' := hZ.cs3
 go_wp2_with fail
 refine (votes_is p A c cs hcs (N + 2) (by omega) _ (hC.later bel)).mono ?_
 rintro e w3 ⟨no, rfl, hbno, hS3⟩
 clear z'; have hg3 : w2.grownBy w3 (some p) := grown_tr (bgr bel _) hS3.2; replace hC := hS3.1; have sz3 := hg3.size; replace HG := grown_tr HG hg3; replace hZ := hZ.grownB hg3 (by omega); have z' := hZ.cs3
 go_wp2_with fail
 refine (amongL [0, 0, 1, 7, 1000] (0) 1000 (by decide) (by decide) (by decide) p A c cs hcs (N + 4) (by omega) w3 (hC.later (bl0 _))).mono ?_
 rintro e w4 ⟨ab, rfl, hbab, hS4⟩
 clear z'; have hg4 : w3.grownBy w4 (some p) := grown_tr (bgr bel _) hS4.2; replace hC := hS4.1; have sz4 := hg4.size; replace HG := grown_tr HG hg4; replace hZ := hZ.grownB hg4 (by omega); have z' := hZ.cs3
 go_upto_region 2 with fail
 clear hbye hbab; have hb5 : Below w4.heap.size w4 (World.alloc w4 (.cells #[.int .i64 ye, .int .i64 no, .int .i64 ab] 34)) := bl1 w4 _
 have hL : Blk (World.alloc w4 (.cells #[.int .i64 ye, .int .i64 no, .int .i64 ab] 34)) (w4.heap.size) 34 #[.int .i64 ye, .int .i64 no, .int .i64 ab] := by repeat (first | exact Blk.new _ _ _ | exact Blk.new2 _ _ _ _ | exact Blk.new3 _ _ _ _ _ | exact Blk.new4 _ _ _ _ _ _ | refine Blk.alloc ?_ _)
 generalize World.alloc w4 (.cells #[.int .i64 ye, .int .i64 no, .int .i64 ab] 34) = wL at *
 replace hC := hC.later hb5; replace HG := grown_tr HG (bgr hb5 (some p)); clear z'; replace hZ := hZ.grownB (bgr hb5 (some p)) (by omega); have z' := hZ.cs3; have sz5 := hb5.size; have LhL := hL.lt
 obtain ⟨l0, l1, l2⟩ := hL.cs3
 go_wp2_with fail
 refine (pick_is 6 p A c cs hcs (N + 6) (by omega) (by omega) _ (hC.later bel)).mono ?_
 rintro e w6 ⟨r, rfl, ⟨hbr, _, hcr⟩, hS6⟩
 clear z'; clear l0 l1 l2; have hg6 : wL.grownBy w6 (some p) := grown_tr (bgr bel _) hS6.2; replace hC := hS6.1; have sz6 := hg6.size; replace HG := grown_tr HG hg6; replace hZ := hZ.grownB hg6 (by omega); replace hL := hL.grownB hg6 (by omega); have z' := hZ.cs3
 obtain ⟨l0, l1, l2⟩ := hL.cs3
 replace hcr := hcr (by omega)
 rcases (show r = 0 ∨ r = 1 ∨ r = 2 ∨ 2 < r by omega) with rfl | rfl | rfl | hr4
 case' inl =>
  have fhL0 := hL.frozen 0; have yhZ := hZ.lt; have yhL := hL.lt
  go_upto_region 9 with fail
  clear fhL0; clear z'; clear l0 l1 l2; replace HG : w.grownBy (World.setCell w6 ⟨w4.heap.size, 0, none⟩ (.int .i64 no)) (some p) := (grown_store HG (g := w4.heap.size) (by omega) 0 (.int .i64 no)); replace hC := (hC.store (g := w4.heap.size) (by omega) 0 (.int .i64 no)); replace hZ := hZ.grownB (grown_set (j := 0) (grown_refl w6 (some (w4.heap.size))) (.int .i64 no)) (by omega); replace hL : Blk (World.setCell w6 ⟨w4.heap.size, 0, none⟩ (.int .i64 no)) (w4.heap.size) 34 #[.int .i64 no, .int .i64 no, .int .i64 ab] := (hL.set_ 0 (.int .i64 no))
  generalize World.setCell w6 ⟨w4.heap.size, 0, none⟩ (.int .i64 no) = wS at *
  have z' := hZ.cs3
  obtain ⟨l0, l1, l2⟩ := hL.cs3
  obtain ⟨ye, hye⟩ : ∃ x, x = no := ⟨_, rfl⟩
  replace hL : Blk wS (w4.heap.size) 34 #[.int .i64 ye, .int .i64 no, .int .i64 ab] := hye ▸ hL; replace l0 : wS.cell? ⟨w4.heap.size, 0, none⟩ = some (.int .i64 ye) := hye ▸ l0; clear hye hbno
 case' inr.inl =>
  obtain ⟨ye, hye⟩ : ∃ x, x = if (1000 : Int) < 2 * no then 1000 else 2 * no := ⟨_, rfl⟩
  go_upto_region 6 with fail
  go_wp2_with fail
  refine (l1Least_is 1000 (2 * no) ye hye _).mono ?_
  rintro e w0 ⟨rfl, h0⟩
  rw [h0]
  clear h0 w0; clear hye; have fhL0 := hL.frozen 0; have yhZ := hZ.lt; have yhL := hL.lt
  go_upto_region 9 with fail
  clear fhL0; clear z'; clear l0 l1 l2; replace HG : w.grownBy (World.setCell w6 ⟨w4.heap.size, 0, none⟩ (.int .i64 ye)) (some p) := (grown_store HG (g := w4.heap.size) (by omega) 0 (.int .i64 ye)); replace hC := (hC.store (g := w4.heap.size) (by omega) 0 (.int .i64 ye)); replace hZ := hZ.grownB (grown_set (j := 0) (grown_refl w6 (some (w4.heap.size))) (.int .i64 ye)) (by omega); replace hL : Blk (World.setCell w6 ⟨w4.heap.size, 0, none⟩ (.int .i64 ye)) (w4.heap.size) 34 #[.int .i64 ye, .int .i64 no, .int .i64 ab] := (hL.set_ 0 (.int .i64 ye))
  generalize World.setCell w6 ⟨w4.heap.size, 0, none⟩ (.int .i64 ye) = wS at *
  have z' := hZ.cs3
  obtain ⟨l0, l1, l2⟩ := hL.cs3
  clear hbno
 case' inr.inr.inl =>
  have fhL1 := hL.frozen 1; have yhZ := hZ.lt; have yhL := hL.lt
  go_upto_region 9 with fail
  clear fhL1 hbno
  obtain ⟨no, hno⟩ : ∃ x, x = (0 : Int) := ⟨_, rfl⟩
  rw [← hno]
  clear z'; clear l0 l1 l2; replace HG : w.grownBy (World.setCell w6 ⟨w4.heap.size, 1, none⟩ (.int .i64 no)) (some p) := (grown_store HG (g := w4.heap.size) (by omega) 1 (.int .i64 no)); replace hC := (hC.store (g := w4.heap.size) (by omega) 1 (.int .i64 no)); replace hZ := hZ.grownB (grown_set (j := 1) (grown_refl w6 (some (w4.heap.size))) (.int .i64 no)) (by omega); replace hL : Blk (World.setCell w6 ⟨w4.heap.size, 1, none⟩ (.int .i64 no)) (w4.heap.size) 34 #[.int .i64 ye, .int .i64 no, .int .i64 ab] := (hL.set_ 1 (.int .i64 no))
  generalize World.setCell w6 ⟨w4.heap.size, 1, none⟩ (.int .i64 no) = wS at *
  have z' := hZ.cs3
  obtain ⟨l0, l1, l2⟩ := hL.cs3
  clear hno
 case' inr.inr.inr =>
  have g0 : (r == 0) = false := beq_eq_false_iff_ne.2 (by omega); have g1 : (r == 1) = false := beq_eq_false_iff_ne.2 (by omega); have g2 : (r == 2) = false := beq_eq_false_iff_ne.2 (by omega)
  go_upto_region 9 with fail
  generalize w6 = wS at *
  clear g0 g1 g2 hr4 hbno
 all_goals
  go_wp2_with fail
  refine (pick_is 24 p A c cs hcs (N + 8) (by omega) (by omega) _ (hC.later bel)).mono ?_
  rintro e w7 ⟨v, rfl, ⟨hbv, _, hcv⟩, hS7⟩
  clear z'; clear l0 l1 l2; have hg7 : wS.grownBy w7 (some p) := grown_tr (bgr bel _) hS7.2; replace hC := hS7.1; have sz7 := hg7.size; replace HG := grown_tr HG hg7; replace hZ := hZ.grownB hg7 (by omega); replace hL := hL.grownB hg7 (by omega); have z' := hZ.cs3
  obtain ⟨l0, l1, l2⟩ := hL.cs3
  replace hcv := hcv (by omega)
  rcases (show v = 0 ∨ v = 1 ∨ 1 < v by omega) with rfl | rfl | hr4
  case' inl =>
   go_wp2_with fail
   refine (amongL [-1, 1001] (-1) 1001 (by decide) (by decide) (by decide) p A c cs hcs (N + 10) (by omega) w7 (hC.later (bl0 _))).mono ?_
   rintro e w8 ⟨ye, rfl, hbye, hS8⟩
   clear z'; clear l0 l1 l2; have hg8 : w7.grownBy w8 (some p) := grown_tr (bgr bel _) hS8.2; replace hC := hS8.1; have sz8 := hg8.size; replace HG := grown_tr HG hg8; replace hZ := hZ.grownB hg8 (by omega); replace hL := hL.grownB hg8 (by omega); have z' := hZ.cs3
   obtain ⟨l0, l1, l2⟩ := hL.cs3
   have fhL0 := hL.frozen 0; have yhZ := hZ.lt; have yhL := hL.lt
   go_upto_region 14 with fail
   clear fhL0; clear z'; clear l0 l1 l2; replace HG : w.grownBy (World.setCell w8 ⟨w4.heap.size, 0, none⟩ (.int .i64 ye)) (some p) := (grown_store HG (g := w4.heap.size) (by omega) 0 (.int .i64 ye)); replace hC := (hC.store (g := w4.heap.size) (by omega) 0 (.int .i64 ye)); replace hZ := hZ.grownB (grown_set (j := 0) (grown_refl w8 (some (w4.heap.size))) (.int .i64 ye)) (by omega); replace hL : Blk (World.setCell w8 ⟨w4.heap.size, 0, none⟩ (.int .i64 ye)) (w4.heap.size) 34 #[.int .i64 ye, .int .i64 no, .int .i64 ab] := (hL.set_ 0 (.int .i64 ye))
   generalize World.setCell w8 ⟨w4.heap.size, 0, none⟩ (.int .i64 ye) = wU at *
   have z' := hZ.cs3
   obtain ⟨l0, l1, l2⟩ := hL.cs3
   replace hC := hC.mono (M := N + 20) (by omega); clear hbye
  case' inr.inl =>
   go_wp2_with fail
   refine (amongL [-1, 1001] (-1) 1001 (by decide) (by decide) (by decide) p A c cs hcs (N + 10) (by omega) w7 (hC.later (bl0 _))).mono ?_
   rintro e w8 ⟨ab, rfl, hbab, hS8⟩
   clear z'; clear l0 l1 l2; have hg8 : w7.grownBy w8 (some p) := grown_tr (bgr bel _) hS8.2; replace hC := hS8.1; have sz8 := hg8.size; replace HG := grown_tr HG hg8; replace hZ := hZ.grownB hg8 (by omega); replace hL := hL.grownB hg8 (by omega); have z' := hZ.cs3
   obtain ⟨l0, l1, l2⟩ := hL.cs3
   have fhL2 := hL.frozen 2; have yhZ := hZ.lt; have yhL := hL.lt
   go_upto_region 14 with fail
   clear fhL2; clear z'; clear l0 l1 l2; replace HG : w.grownBy (World.setCell w8 ⟨w4.heap.size, 2, none⟩ (.int .i64 ab)) (some p) := (grown_store HG (g := w4.heap.size) (by omega) 2 (.int .i64 ab)); replace hC := (hC.store (g := w4.heap.size) (by omega) 2 (.int .i64 ab)); replace hZ := hZ.grownB (grown_set (j := 2) (grown_refl w8 (some (w4.heap.size))) (.int .i64 ab)) (by omega); replace hL : Blk (World.setCell w8 ⟨w4.heap.size, 2, none⟩ (.int .i64 ab)) (w4.heap.size) 34 #[.int .i64 ye, .int .i64 no, .int .i64 ab] := (hL.set_ 2 (.int .i64 ab))
   generalize World.setCell w8 ⟨w4.heap.size, 2, none⟩ (.int .i64 ab) = wU at *
   have z' := hZ.cs3
   obtain ⟨l0, l1, l2⟩ := hL.cs3
   replace hC := hC.mono (M := N + 20) (by omega); clear hbab
  case' inr.inr =>
   have g0 : (v == 0) = false := beq_eq_false_iff_ne.2 (by omega); have g1 : (v == 1) = false := beq_eq_false_iff_ne.2 (by omega)
   go_upto_region 14 with fail
   replace hC := hC.mono (M := N + 20) (by omega)
   generalize w7 = wU at *
   clear g0 g1 hr4
  all_goals
   have fhZ' := hZ.fz3; have yhZ := hZ.lt; have yhL := hL.lt
   go_wp2
   clear z'; clear l0 l1 l2; replace HG : w.grownBy (World.setCell (World.setCell (World.setCell wU ⟨w.heap.size, 0, none⟩ (.int .i64 ye)) ⟨w.heap.size, 1, none⟩ (.int .i64 no)) ⟨w.heap.size, 2, none⟩ (.int .i64 ab)) (some p) := (grown_store (grown_store (grown_store HG (g := w.heap.size) (by omega) 0 (.int .i64 ye)) (g := w.heap.size) (by omega) 1 (.int .i64 no)) (g := w.heap.size) (by omega) 2 (.int .i64 ab))
   replace hC := (((hC.store (g := w.heap.size) (by omega) 0 (.int .i64 ye)).store (g := w.heap.size) (by omega) 1 (.int .i64 no)).store (g := w.heap.size) (by omega) 2 (.int .i64 ab)); replace hZ : Blk (World.setCell (World.setCell (World.setCell wU ⟨w.heap.size, 0, none⟩ (.int .i64 ye)) ⟨w.heap.size, 1, none⟩ (.int .i64 no)) ⟨w.heap.size, 2, none⟩ (.int .i64 ab)) (w.heap.size) 34 #[.int .i64 ye, .int .i64 no, .int .i64 ab] := (((hZ.set_ 0 (.int .i64 ye)).set_ 1 (.int .i64 no)).set_ 2 (.int .i64 ab))
   replace hL := hL.grownB (grown_set (j := 2) (grown_set (j := 1) (grown_set (j := 0) (grown_refl wU (some (w.heap.size))) (.int .i64 ye)) (.int .i64 no)) (.int .i64 ab)) (by omega)
   generalize World.setCell (World.setCell (World.setCell wU ⟨w.heap.size, 0, none⟩ (.int .i64 ye)) ⟨w.heap.size, 1, none⟩ (.int .i64 no)) ⟨w.heap.size, 2, none⟩ (.int .i64 ab) = W9 at *
   have z' := hZ.cs3
   obtain ⟨l0, l1, l2⟩ := hL.cs3
   exact brt ⟨ye, no, ab, rfl, hC, HG⟩ (by simp [results, Tryz.results105, go_sem, z'])
end Go.Proofs.YtjimibkgocieoaaGreat
