/- Marks in decided questions. -/
import Derived.Test.YthgaddnbgnennaaMkI
import Derived.Test.YthgaddnbgnennaaLg
import Derived.Test.YthgaddnbgnennaaDec2
namespace Go.Proofs.Ythgaddnbgnennaa
open Go.RowKit Go.G9
set_option maxHeartbeats 4000000 in
set_option maxRecDepth 100000 in
theorem mkDecided_is {B0 B1 : Nat} (x : Dec) (A0 A1 : Option Addr) (c0 c1 : Nat) (hn0 : x.yes.length ≤ 1048576) (hn1 : x.no.length ≤ 1048576) (m : Int) (h0 : 0 < m) (h1 : m ≤ 20000000) (w : World)
    (O0 : OwnV B0 3 1 intC w (.slice A0 x.yes.length c0) x.yes) (O1 : OwnV B1 3 1 intC w (.slice A1 x.no.length c1) x.no) (ap : Apart [.slice A0 x.yes.length c0, .slice A1 x.no.length c1]) :
  Calls Try.prog 20 #[.agg #[.int .i64 x.id, .int .i64 x.day, .int .i64 x.need, .slice A0 x.yes.length c0, .slice A1 x.no.length c1, .bool x.done], .int .i64 m] w fun e w' => e = .returned (.int .i64 (m + (x.yes.length : Int) + (x.no.length : Int))) ∧ OwnV B0 3 1 patInt w' (.slice A0 x.yes.length c0) (mks (m) 1 x.yes.length) ∧ OwnV B1 3 1 patInt w' (.slice A1 x.no.length c1) (mks (m + (x.yes.length : Int)) 1 x.no.length) ∧ GrownL w w' [.slice A0 x.yes.length c0, .slice A1 x.no.length c1] := by
  have d0_1 := Lib.hid (ap.at (i := 0) (j := 1) (by decide) rfl rfl)
  go_enter Try.func20, Try.ntmps20
  have l0 := Lib.hid (fun k hk => (O0.lt k hk).2)
  have l1 := Lib.hid (fun k hk => (O1.lt k hk).2)
  replace O0 := O0.alloc (.cells #[.int .i64 x.id, .int .i64 x.day, .int .i64 x.need, .slice A0 x.yes.length c0, .slice A1 x.no.length c1, .bool x.done] 28)
  replace O1 := O1.alloc (.cells #[.int .i64 x.id, .int .i64 x.day, .int .i64 x.need, .slice A0 x.yes.length c0, .slice A1 x.no.length c1, .bool x.done] 28)
  go_wp2_with fail
  refine (mkIntS_is _ A0 c0 x.yes hn0 (m) (by omega) (by omega) _ O0).mono ?_
  rintro e w0 ⟨rfl, M0, hg0⟩
  have HG0 := grownL_one hg0
  have z0 := HG0.size
  replace O1 := O1.keptN HG0 (fun k hk u hu e => by simp only [List.mem_singleton] at hu; subst hu; exact d0_1.out k e hk.symm)
  have X : Blk w0 w.heap.size 28 #[.int .i64 x.id, .int .i64 x.day, .int .i64 x.need, .slice A0 x.yes.length c0, .slice A1 x.no.length c1, .bool x.done] := (HG0.block _ (by simp) (fun u hu e => by simp only [List.mem_singleton] at hu; subst hu; have := l0.out _ e; omega)).trans (Blk.new w 28 #[.int .i64 x.id, .int .i64 x.day, .int .i64 x.need, .slice A0 x.yes.length c0, .slice A1 x.no.length c1, .bool x.done])
  have a0 := (Blk.cell X 0).trans (show _ = some (.int .i64 x.id) from rfl)
  have a1 := (Blk.cell X 1).trans (show _ = some (.int .i64 x.day) from rfl)
  have a2 := (Blk.cell X 2).trans (show _ = some (.int .i64 x.need) from rfl)
  have a3 := (Blk.cell X 3).trans (show _ = some (.slice A0 x.yes.length c0) from rfl)
  have a4 := (Blk.cell X 4).trans (show _ = some (.slice A1 x.no.length c1) from rfl)
  have a5 := (Blk.cell X 5).trans (show _ = some (.bool x.done) from rfl)
  go_wp2_with fail
  refine (mkIntS_is _ A1 c1 x.no hn1 (m + (x.yes.length : Int)) (by omega) (by omega) _ O1).mono ?_
  rintro e w1 ⟨rfl, M1, hg1⟩
  have HG1 := grownL_one hg1
  have z1 := HG1.size
  replace M0 := M0.keptN HG1 (fun k hk u hu e => by simp only [List.mem_singleton] at hu; subst hu; exact d0_1.out k hk e.symm)
  replace X := (HG1.block _ X.lt (fun u hu e => by simp only [List.mem_singleton] at hu; subst hu; have := l1.out _ e; omega)).trans X
  clear a0 a1 a2 a3 a4 a5
  have a0 := (Blk.cell X 0).trans (show _ = some (.int .i64 x.id) from rfl)
  have a1 := (Blk.cell X 1).trans (show _ = some (.int .i64 x.day) from rfl)
  have a2 := (Blk.cell X 2).trans (show _ = some (.int .i64 x.need) from rfl)
  have a3 := (Blk.cell X 3).trans (show _ = some (.slice A0 x.yes.length c0) from rfl)
  have a4 := (Blk.cell X 4).trans (show _ = some (.slice A1 x.no.length c1) from rfl)
  have a5 := (Blk.cell X 5).trans (show _ = some (.bool x.done) from rfl)
  go_wp2
  go_ret
  exact ⟨rfl, M0, M1, ((GrownL.of_below (vs := []) (bl1 w (.cells #[.int .i64 x.id, .int .i64 x.day, .int .i64 x.need, .slice A0 x.yes.length c0, .slice A1 x.no.length c1, .bool x.done] 28))).trans HG0).trans HG1⟩
set_option maxHeartbeats 4000000 in
set_option maxRecDepth 100000 in
theorem hdDecided_is (x : Dec) (A0 A1 : Option Addr) (c0 c1 : Nat) (hn0 : x.yes.length ≤ 1048576) (hn1 : x.no.length ≤ 1048576) (m : Int) (h0 : 0 < m) (h1 : m ≤ 20000000) (w : World)
    (R0 : Rds 1 patInt w A0 (mks (m) 1 x.yes.length)) (R1 : Rds 1 patInt w A1 (mks (m + (x.yes.length : Int)) 1 x.no.length)) :
  Calls Try.prog 22 #[.agg #[.int .i64 x.id, .int .i64 x.day, .int .i64 x.need, .slice A0 x.yes.length c0, .slice A1 x.no.length c1, .bool x.done], .int .i64 m] w fun e w' => e = .returned (.int .i64 (m + (x.yes.length : Int) + (x.no.length : Int))) ∧ Below w.heap.size w w' := by
  go_enter Try.func22, Try.ntmps22
  go_wp2_with fail
  refine (hdIntS_is A0 c0 _ hn0 (m) (by omega) (by omega) _ (R0.below (by repeat (first | exact Below.refl _ _ | refine Below.alloc ?_ (by first | exact Nat.le_refl _ | (simp <;> omega)) _ | refine Below.setCell ?_ (by first | exact Nat.le_refl _ | (simp <;> omega)) _)))).mono ?_
  rintro e w1 ⟨rfl, hb1⟩
  have hq1 : Below w.heap.size w w1 := bth (by repeat (first | exact Below.refl _ _ | refine Below.alloc ?_ (by first | exact Nat.le_refl _ | (simp <;> omega)) _ | refine Below.setCell ?_ (by first | exact Nat.le_refl _ | (simp <;> omega)) _)) hb1
  have z1 := hq1.size
  have HB : Below w.heap.size w w1 := hq1
  have X1 : Blk w1 (w.heap.size) 28 #[.int .i64 x.id, .int .i64 x.day, .int .i64 x.need, .slice A0 x.yes.length c0, .slice A1 x.no.length c1, .bool x.done] := Blk.below (by repeat (first | exact Blk.new _ _ _ | exact Blk.new2 _ _ _ _ | exact Blk.new3 _ _ _ _ _ | refine Blk.alloc ?_ _)) hb1 (by simp <;> omega)
  have yX1 := X1.lt
  have X1_0 := (X1.cell 0).trans (show _ = some (.int .i64 x.id) from rfl)
  have X1_1 := (X1.cell 1).trans (show _ = some (.int .i64 x.day) from rfl)
  have X1_2 := (X1.cell 2).trans (show _ = some (.int .i64 x.need) from rfl)
  have X1_3 := (X1.cell 3).trans (show _ = some (.slice A0 x.yes.length c0) from rfl)
  have X1_4 := (X1.cell 4).trans (show _ = some (.slice A1 x.no.length c1) from rfl)
  have X1_5 := (X1.cell 5).trans (show _ = some (.bool x.done) from rfl)
  go_wp2_with fail
  refine (hdIntS_is A1 c1 _ hn1 (m + (x.yes.length : Int)) (by omega) (by omega) _ (R1.below (bth HB (by repeat (first | exact Below.refl _ _ | refine Below.alloc ?_ (by first | exact Nat.le_refl _ | (simp <;> omega)) _ | refine Below.setCell ?_ (by first | exact Nat.le_refl _ | (simp <;> omega)) _))))).mono ?_
  rintro e w2 ⟨rfl, hb2⟩
  clear X1_0 X1_1 X1_2 X1_3 X1_4 X1_5
  have hq2 : Below w1.heap.size w1 w2 := bth (by repeat (first | exact Below.refl _ _ | refine Below.alloc ?_ (by first | exact Nat.le_refl _ | (simp <;> omega)) _ | refine Below.setCell ?_ (by first | exact Nat.le_refl _ | (simp <;> omega)) _)) hb2
  have z2 := hq2.size
  replace HB := bth HB hq2
  replace X1 := X1.below hq2 X1.lt
  have X1_0 := (X1.cell 0).trans (show _ = some (.int .i64 x.id) from rfl)
  have X1_1 := (X1.cell 1).trans (show _ = some (.int .i64 x.day) from rfl)
  have X1_2 := (X1.cell 2).trans (show _ = some (.int .i64 x.need) from rfl)
  have X1_3 := (X1.cell 3).trans (show _ = some (.slice A0 x.yes.length c0) from rfl)
  have X1_4 := (X1.cell 4).trans (show _ = some (.slice A1 x.no.length c1) from rfl)
  have X1_5 := (X1.cell 5).trans (show _ = some (.bool x.done) from rfl)
  go_wp2
  go_ret
  exact ⟨rfl, bth HB (by repeat (first | exact Below.refl _ _ | refine Below.alloc ?_ (by first | exact Nat.le_refl _ | (simp <;> omega)) _ | refine Below.setCell ?_ (by first | exact Nat.le_refl _ | (simp <;> omega)) _))⟩
theorem toDecidedA_is (d : Dec) (Y N : Option Addr) (yc nc : Nat) (hy : d.yes.length ≤ 1048576) (hn : d.no.length ≤ 1048576) (w : World) (hRy : Rds 1 intC w Y d.yes) (hRn : Rds 1 intC w N d.no) :
  Calls Try.prog 13 #[.agg #[.int .i64 d.id, .int .i64 d.day, .int .i64 d.need, .slice Y d.yes.length yc, .slice N d.no.length nc, .bool d.done]] w fun e w' => ∃ Y' N', e = .returned (.agg #[.int .i64 d.id, .int .i64 d.day, .int .i64 d.need, .slice Y' d.yes.length d.yes.length, .slice N' d.no.length d.no.length, .bool d.done]) ∧
    OwnV w.heap.size 3 1 intC w' (.slice Y' d.yes.length d.yes.length) d.yes ∧ OwnV w.heap.size 3 1 intC w' (.slice N' d.no.length d.no.length) d.no ∧ Apart [.slice Y' d.yes.length d.yes.length, .slice N' d.no.length d.no.length] ∧ Below w.heap.size w w' := by
  refine (toDecided_is d Y N yc nc hy hn w hRy hRn).mono ?_
  rintro e w' ⟨Y', N', rfl, h1, h2, h3, h4⟩
  exact ⟨Y', N', rfl, h1, h2, apart2 h3, h4⟩
end Go.Proofs.Ythgaddnbgnennaa
