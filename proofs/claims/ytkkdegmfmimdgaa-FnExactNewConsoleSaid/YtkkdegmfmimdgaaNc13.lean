/- Marks in a floor and in a meeting. -/
import Derived.Test.YtkkdegmfmimdgaaNc5
import Derived.Test.YtkkdegmfmimdgaaNc4
import Derived.Test.YtkkdegmfmimdgaaNc3
import Derived.Test.YtkkdegmfmimdgaaNc11
namespace Go.Proofs.Ytkkdegmfmimdgaa
open Go.RowKit Go.G9
structure Flo where
  turns : Int
  secs : Int
  spk : Int
  wait : List Int
  shares : List Sha
set_option maxHeartbeats 4000000 in
set_option maxRecDepth 100000 in
theorem mkFloor_is {B0 B1 : Nat} (x : Flo) (A0 A1 : Option Addr) (c0 c1 : Nat) (hn0 : x.wait.length ≤ 1048576) (hn1 : x.shares.length ≤ 1048576) (m : Int) (h0 : 0 < m) (h1 : m ≤ 20000000) (w : World)
    (O0 : OwnV B0 3 1 intC w (.slice A0 x.wait.length c0) x.wait) (O1 : OwnV B1 114 3 Sha.cells w (.slice A1 x.shares.length c1) x.shares) (ap : Apart [.slice A0 x.wait.length c0, .slice A1 x.shares.length c1]) :
  Calls Try.prog 69 #[.agg #[.int .i64 x.turns, .int .i64 x.secs, .int .i64 x.spk, .slice A0 x.wait.length c0, .slice A1 x.shares.length c1], .int .i64 m] w fun e w' => e = .returned (.int .i64 (m + (x.wait.length : Int) + 3 * (x.shares.length : Int))) ∧ OwnV B0 3 1 patInt w' (.slice A0 x.wait.length c0) (mks (m) 1 x.wait.length) ∧ OwnV B1 114 3 patShare w' (.slice A1 x.shares.length c1) (mks (m + (x.wait.length : Int)) 3 x.shares.length) ∧ GrownL w w' [.slice A0 x.wait.length c0, .slice A1 x.shares.length c1] := by
  have d0_1 := Lib.hid (ap.at (i := 0) (j := 1) (by decide) rfl rfl)
  go_enter Try.func69, Try.ntmps69
  have l0 := Lib.hid (fun k hk => (O0.lt k hk).2)
  have l1 := Lib.hid (fun k hk => (O1.lt k hk).2)
  replace O0 := O0.alloc (.cells #[.int .i64 x.turns, .int .i64 x.secs, .int .i64 x.spk, .slice A0 x.wait.length c0, .slice A1 x.shares.length c1] 37)
  replace O1 := O1.alloc (.cells #[.int .i64 x.turns, .int .i64 x.secs, .int .i64 x.spk, .slice A0 x.wait.length c0, .slice A1 x.shares.length c1] 37)
  go_wp2_with fail
  refine (mkIntS_is _ A0 c0 x.wait hn0 (m) (by omega) (by omega) _ O0).mono ?_
  rintro e w0 ⟨rfl, M0, hg0⟩
  have HG0 := grownL_one hg0
  have z0 := HG0.size
  replace O1 := O1.keptN HG0 (fun k hk u hu e => by simp only [List.mem_singleton] at hu; subst hu; exact d0_1.out k e hk.symm)
  have X : Blk w0 w.heap.size 37 #[.int .i64 x.turns, .int .i64 x.secs, .int .i64 x.spk, .slice A0 x.wait.length c0, .slice A1 x.shares.length c1] := (HG0.block _ (by simp) (fun u hu e => by simp only [List.mem_singleton] at hu; subst hu; have := l0.out _ e; omega)).trans (Blk.new w 37 #[.int .i64 x.turns, .int .i64 x.secs, .int .i64 x.spk, .slice A0 x.wait.length c0, .slice A1 x.shares.length c1])
  have a0 := (Blk.cell X 0).trans (show _ = some (.int .i64 x.turns) from rfl)
  have a1 := (Blk.cell X 1).trans (show _ = some (.int .i64 x.secs) from rfl)
  have a2 := (Blk.cell X 2).trans (show _ = some (.int .i64 x.spk) from rfl)
  have a3 := (Blk.cell X 3).trans (show _ = some (.slice A0 x.wait.length c0) from rfl)
  have a4 := (Blk.cell X 4).trans (show _ = some (.slice A1 x.shares.length c1) from rfl)
  go_wp2_with fail
  refine (mkShareS_is _ A1 c1 x.shares hn1 (m + (x.wait.length : Int)) (by omega) (by omega) _ O1).mono ?_
  rintro e w1 ⟨rfl, M1, hg1⟩
  have HG1 := grownL_one hg1
  have z1 := HG1.size
  replace M0 := M0.keptN HG1 (fun k hk u hu e => by simp only [List.mem_singleton] at hu; subst hu; exact d0_1.out k hk e.symm)
  replace X := (HG1.block _ X.lt (fun u hu e => by simp only [List.mem_singleton] at hu; subst hu; have := l1.out _ e; omega)).trans X
  clear a0 a1 a2 a3 a4
  have a0 := (Blk.cell X 0).trans (show _ = some (.int .i64 x.turns) from rfl)
  have a1 := (Blk.cell X 1).trans (show _ = some (.int .i64 x.secs) from rfl)
  have a2 := (Blk.cell X 2).trans (show _ = some (.int .i64 x.spk) from rfl)
  have a3 := (Blk.cell X 3).trans (show _ = some (.slice A0 x.wait.length c0) from rfl)
  have a4 := (Blk.cell X 4).trans (show _ = some (.slice A1 x.shares.length c1) from rfl)
  go_wp2
  go_ret
  exact ⟨rfl, M0, M1, ((GrownL.of_below (vs := []) (bl1 w (.cells #[.int .i64 x.turns, .int .i64 x.secs, .int .i64 x.spk, .slice A0 x.wait.length c0, .slice A1 x.shares.length c1] 37))).trans HG0).trans HG1⟩
set_option maxHeartbeats 4000000 in
set_option maxRecDepth 100000 in
theorem hdFloor_is (x : Flo) (A0 A1 : Option Addr) (c0 c1 : Nat) (hn0 : x.wait.length ≤ 1048576) (hn1 : x.shares.length ≤ 1048576) (m : Int) (h0 : 0 < m) (h1 : m ≤ 20000000) (w : World)
    (R0 : Rds 1 patInt w A0 (mks (m) 1 x.wait.length)) (R1 : Rds 3 patShare w A1 (mks (m + (x.wait.length : Int)) 3 x.shares.length)) :
  Calls Try.prog 73 #[.agg #[.int .i64 x.turns, .int .i64 x.secs, .int .i64 x.spk, .slice A0 x.wait.length c0, .slice A1 x.shares.length c1], .int .i64 m] w fun e w' => e = .returned (.int .i64 (m + (x.wait.length : Int) + 3 * (x.shares.length : Int))) ∧ Below w.heap.size w w' := by
  go_enter Try.func73, Try.ntmps73
  go_wp2_with fail
  refine (hdIntS_is A0 c0 _ hn0 (m) (by omega) (by omega) _ (R0.below (by repeat (first | exact Below.refl _ _ | refine Below.alloc ?_ (by first | exact Nat.le_refl _ | (simp <;> omega)) _ | refine Below.setCell ?_ (by first | exact Nat.le_refl _ | (simp <;> omega)) _)))).mono ?_
  rintro e w1 ⟨rfl, hb1⟩
  have hq1 : Below w.heap.size w w1 := bth (by repeat (first | exact Below.refl _ _ | refine Below.alloc ?_ (by first | exact Nat.le_refl _ | (simp <;> omega)) _ | refine Below.setCell ?_ (by first | exact Nat.le_refl _ | (simp <;> omega)) _)) hb1
  have z1 := hq1.size
  have HB : Below w.heap.size w w1 := hq1
  have X1 : Blk w1 (w.heap.size) 37 #[.int .i64 x.turns, .int .i64 x.secs, .int .i64 x.spk, .slice A0 x.wait.length c0, .slice A1 x.shares.length c1] := Blk.below (by repeat (first | exact Blk.new _ _ _ | exact Blk.new2 _ _ _ _ | exact Blk.new3 _ _ _ _ _ | refine Blk.alloc ?_ _)) hb1 (by simp <;> omega)
  have yX1 := X1.lt
  have X1_0 := (X1.cell 0).trans (show _ = some (.int .i64 x.turns) from rfl)
  have X1_1 := (X1.cell 1).trans (show _ = some (.int .i64 x.secs) from rfl)
  have X1_2 := (X1.cell 2).trans (show _ = some (.int .i64 x.spk) from rfl)
  have X1_3 := (X1.cell 3).trans (show _ = some (.slice A0 x.wait.length c0) from rfl)
  have X1_4 := (X1.cell 4).trans (show _ = some (.slice A1 x.shares.length c1) from rfl)
  go_wp2_with fail
  refine (hdShareS_is A1 c1 _ hn1 (m + (x.wait.length : Int)) (by omega) (by omega) _ (R1.below (bth HB (by repeat (first | exact Below.refl _ _ | refine Below.alloc ?_ (by first | exact Nat.le_refl _ | (simp <;> omega)) _ | refine Below.setCell ?_ (by first | exact Nat.le_refl _ | (simp <;> omega)) _))))).mono ?_
  rintro e w2 ⟨rfl, hb2⟩
  clear X1_0 X1_1 X1_2 X1_3 X1_4
  have hq2 : Below w1.heap.size w1 w2 := bth (by repeat (first | exact Below.refl _ _ | refine Below.alloc ?_ (by first | exact Nat.le_refl _ | (simp <;> omega)) _ | refine Below.setCell ?_ (by first | exact Nat.le_refl _ | (simp <;> omega)) _)) hb2
  have z2 := hq2.size
  replace HB := bth HB hq2
  replace X1 := X1.below hq2 X1.lt
  have X1_0 := (X1.cell 0).trans (show _ = some (.int .i64 x.turns) from rfl)
  have X1_1 := (X1.cell 1).trans (show _ = some (.int .i64 x.secs) from rfl)
  have X1_2 := (X1.cell 2).trans (show _ = some (.int .i64 x.spk) from rfl)
  have X1_3 := (X1.cell 3).trans (show _ = some (.slice A0 x.wait.length c0) from rfl)
  have X1_4 := (X1.cell 4).trans (show _ = some (.slice A1 x.shares.length c1) from rfl)
  go_wp2
  go_ret
  exact ⟨rfl, bth HB (by repeat (first | exact Below.refl _ _ | refine Below.alloc ?_ (by first | exact Nat.le_refl _ | (simp <;> omega)) _ | refine Below.setCell ?_ (by first | exact Nat.le_refl _ | (simp <;> omega)) _))⟩
set_option maxHeartbeats 8000000 in
set_option maxRecDepth 100000 in
theorem mkMeeting_is {B0 B1 B2 B3 B4 : Nat} (x : Mee) (A0 A1 A2 A3 A4 : Option Addr) (c0 c1 c2 c3 c4 : Nat) (hn0 : x.rules.length ≤ 1048576) (hn1 : x.pend.length ≤ 1048576) (hn2 : x.wait.length ≤ 1048576) (hn3 : x.shares.length ≤ 1048576) (hn4 : x.outs.length ≤ 1048576) (m : Int) (h0 : 0 < m) (h1 : m ≤ 9000000) (w : World)
    (O0 : OwnV B0 88 7 Rul.cells w (.slice A0 x.rules.length c0) x.rules) (O1 : OwnV B1 90 3 Que.cells w (.slice A1 x.pend.length c1) x.pend) (O2 : OwnV B2 3 1 intC w (.slice A2 x.wait.length c2) x.wait) (O3 : OwnV B3 114 3 Sha.cells w (.slice A3 x.shares.length c3) x.shares) (O4 : OwnV B4 81 3 Out.cells w (.slice A4 x.outs.length c4) x.outs) (ap : Apart [.slice A0 x.rules.length c0, .slice A1 x.pend.length c1, .slice A2 x.wait.length c2, .slice A3 x.shares.length c3, .slice A4 x.outs.length c4]) :
  Calls Try.prog 27 #[.agg #[.slice A0 x.rules.length c0, .slice A1 x.pend.length c1, .int .i64 x.turns, .int .i64 x.secs, .int .i64 x.spk, .slice A2 x.wait.length c2, .slice A3 x.shares.length c3, .slice A4 x.outs.length c4], .int .i64 m] w fun e w' => e = .returned (.int .i64 (m + 7 * (x.rules.length : Int) + 3 * (x.pend.length : Int) + (x.wait.length : Int) + 3 * (x.shares.length : Int) + 3 * (x.outs.length : Int))) ∧ OwnV B0 88 7 patRule w' (.slice A0 x.rules.length c0) (mks (m) 7 x.rules.length) ∧ OwnV B1 90 3 patQuestion w' (.slice A1 x.pend.length c1) (mks (m + 7 * (x.rules.length : Int)) 3 x.pend.length) ∧ OwnV B2 3 1 patInt w' (.slice A2 x.wait.length c2) (mks (m + 7 * (x.rules.length : Int) + 3 * (x.pend.length : Int)) 1 x.wait.length) ∧ OwnV B3 114 3 patShare w' (.slice A3 x.shares.length c3) (mks (m + 7 * (x.rules.length : Int) + 3 * (x.pend.length : Int) + (x.wait.length : Int)) 3 x.shares.length) ∧ OwnV B4 81 3 patOutcome w' (.slice A4 x.outs.length c4) (mks (m + 7 * (x.rules.length : Int) + 3 * (x.pend.length : Int) + (x.wait.length : Int) + 3 * (x.shares.length : Int)) 3 x.outs.length) ∧ GrownL w w' [.slice A0 x.rules.length c0, .slice A1 x.pend.length c1, .slice A2 x.wait.length c2, .slice A3 x.shares.length c3, .slice A4 x.outs.length c4] := by
  have d0_1 := Lib.hid (ap.at (i := 0) (j := 1) (by decide) rfl rfl)
  have d0_2 := Lib.hid (ap.at (i := 0) (j := 2) (by decide) rfl rfl)
  have d0_3 := Lib.hid (ap.at (i := 0) (j := 3) (by decide) rfl rfl)
  have d0_4 := Lib.hid (ap.at (i := 0) (j := 4) (by decide) rfl rfl)
  have d1_2 := Lib.hid (ap.at (i := 1) (j := 2) (by decide) rfl rfl)
  have d1_3 := Lib.hid (ap.at (i := 1) (j := 3) (by decide) rfl rfl)
  have d1_4 := Lib.hid (ap.at (i := 1) (j := 4) (by decide) rfl rfl)
  have d2_3 := Lib.hid (ap.at (i := 2) (j := 3) (by decide) rfl rfl)
  have d2_4 := Lib.hid (ap.at (i := 2) (j := 4) (by decide) rfl rfl)
  have d3_4 := Lib.hid (ap.at (i := 3) (j := 4) (by decide) rfl rfl)
  go_enter Try.func27, Try.ntmps27
  have l0 := Lib.hid (fun k hk => (O0.lt k hk).2)
  have l1 := Lib.hid (fun k hk => (O1.lt k hk).2)
  have l2 := Lib.hid (fun k hk => (O2.lt k hk).2)
  have l3 := Lib.hid (fun k hk => (O3.lt k hk).2)
  have l4 := Lib.hid (fun k hk => (O4.lt k hk).2)
  replace O0 := O0.alloc (.cells #[.slice A0 x.rules.length c0, .slice A1 x.pend.length c1, .int .i64 x.turns, .int .i64 x.secs, .int .i64 x.spk, .slice A2 x.wait.length c2, .slice A3 x.shares.length c3, .slice A4 x.outs.length c4] 40)
  replace O1 := O1.alloc (.cells #[.slice A0 x.rules.length c0, .slice A1 x.pend.length c1, .int .i64 x.turns, .int .i64 x.secs, .int .i64 x.spk, .slice A2 x.wait.length c2, .slice A3 x.shares.length c3, .slice A4 x.outs.length c4] 40)
  replace O2 := O2.alloc (.cells #[.slice A0 x.rules.length c0, .slice A1 x.pend.length c1, .int .i64 x.turns, .int .i64 x.secs, .int .i64 x.spk, .slice A2 x.wait.length c2, .slice A3 x.shares.length c3, .slice A4 x.outs.length c4] 40)
  replace O3 := O3.alloc (.cells #[.slice A0 x.rules.length c0, .slice A1 x.pend.length c1, .int .i64 x.turns, .int .i64 x.secs, .int .i64 x.spk, .slice A2 x.wait.length c2, .slice A3 x.shares.length c3, .slice A4 x.outs.length c4] 40)
  replace O4 := O4.alloc (.cells #[.slice A0 x.rules.length c0, .slice A1 x.pend.length c1, .int .i64 x.turns, .int .i64 x.secs, .int .i64 x.spk, .slice A2 x.wait.length c2, .slice A3 x.shares.length c3, .slice A4 x.outs.length c4] 40)
  go_wp2_with fail
  refine (mkRuleS_is _ A0 c0 x.rules hn0 (m) (by omega) (by omega) _ O0).mono ?_
  rintro e w0 ⟨rfl, M0, hg0⟩
  have HG0 := grownL_one hg0
  have z0 := HG0.size
  replace O1 := O1.keptN HG0 (fun k hk u hu e => by simp only [List.mem_cons, List.not_mem_nil, or_false] at hu; subst hu; exact d0_1.out k e hk.symm)
  replace O2 := O2.keptN HG0 (fun k hk u hu e => by simp only [List.mem_cons, List.not_mem_nil, or_false] at hu; subst hu; exact d0_2.out k e hk.symm)
  replace O3 := O3.keptN HG0 (fun k hk u hu e => by simp only [List.mem_cons, List.not_mem_nil, or_false] at hu; subst hu; exact d0_3.out k e hk.symm)
  replace O4 := O4.keptN HG0 (fun k hk u hu e => by simp only [List.mem_cons, List.not_mem_nil, or_false] at hu; subst hu; exact d0_4.out k e hk.symm)
  have X : Blk w0 w.heap.size 40 #[.slice A0 x.rules.length c0, .slice A1 x.pend.length c1, .int .i64 x.turns, .int .i64 x.secs, .int .i64 x.spk, .slice A2 x.wait.length c2, .slice A3 x.shares.length c3, .slice A4 x.outs.length c4] := (HG0.block _ (by simp) (fun u hu e => by simp only [List.mem_cons, List.not_mem_nil, or_false] at hu; subst hu; have := l0.out _ e; omega)).trans (Blk.new w 40 #[.slice A0 x.rules.length c0, .slice A1 x.pend.length c1, .int .i64 x.turns, .int .i64 x.secs, .int .i64 x.spk, .slice A2 x.wait.length c2, .slice A3 x.shares.length c3, .slice A4 x.outs.length c4])
  have a0 := (Blk.cell X 0).trans (show _ = some (.slice A0 x.rules.length c0) from rfl)
  have a1 := (Blk.cell X 1).trans (show _ = some (.slice A1 x.pend.length c1) from rfl)
  have a2 := (Blk.cell X 2).trans (show _ = some (.int .i64 x.turns) from rfl)
  have a3 := (Blk.cell X 3).trans (show _ = some (.int .i64 x.secs) from rfl)
  have a4 := (Blk.cell X 4).trans (show _ = some (.int .i64 x.spk) from rfl)
  have a5 := (Blk.cell X 5).trans (show _ = some (.slice A2 x.wait.length c2) from rfl)
  have a6 := (Blk.cell X 6).trans (show _ = some (.slice A3 x.shares.length c3) from rfl)
  have a7 := (Blk.cell X 7).trans (show _ = some (.slice A4 x.outs.length c4) from rfl)
  go_wp2_with fail
  refine (mkQuestionS_is _ A1 c1 x.pend hn1 (m + 7 * (x.rules.length : Int)) (by omega) (by omega) _ O1).mono ?_
  rintro e w1 ⟨rfl, M1, hg1⟩
  have HG1 := grownL_one hg1
  have z1 := HG1.size
  replace M0 := M0.keptN HG1 (fun k hk u hu e => by simp only [List.mem_cons, List.not_mem_nil, or_false] at hu; subst hu; exact d0_1.out k hk e.symm)
  replace O2 := O2.keptN HG1 (fun k hk u hu e => by simp only [List.mem_cons, List.not_mem_nil, or_false] at hu; subst hu; exact d1_2.out k e hk.symm)
  replace O3 := O3.keptN HG1 (fun k hk u hu e => by simp only [List.mem_cons, List.not_mem_nil, or_false] at hu; subst hu; exact d1_3.out k e hk.symm)
  replace O4 := O4.keptN HG1 (fun k hk u hu e => by simp only [List.mem_cons, List.not_mem_nil, or_false] at hu; subst hu; exact d1_4.out k e hk.symm)
  replace X := (HG1.block _ (Blk.lt X) (fun u hu e => by simp only [List.mem_cons, List.not_mem_nil, or_false] at hu; subst hu; have := l1.out _ e; omega)).trans X
  clear a0 a1 a2 a3 a4 a5 a6 a7
  have a0 := (Blk.cell X 0).trans (show _ = some (.slice A0 x.rules.length c0) from rfl)
  have a1 := (Blk.cell X 1).trans (show _ = some (.slice A1 x.pend.length c1) from rfl)
  have a2 := (Blk.cell X 2).trans (show _ = some (.int .i64 x.turns) from rfl)
  have a3 := (Blk.cell X 3).trans (show _ = some (.int .i64 x.secs) from rfl)
  have a4 := (Blk.cell X 4).trans (show _ = some (.int .i64 x.spk) from rfl)
  have a5 := (Blk.cell X 5).trans (show _ = some (.slice A2 x.wait.length c2) from rfl)
  have a6 := (Blk.cell X 6).trans (show _ = some (.slice A3 x.shares.length c3) from rfl)
  have a7 := (Blk.cell X 7).trans (show _ = some (.slice A4 x.outs.length c4) from rfl)
  go_wp2_with fail
  refine (mkFloor_is ⟨x.turns, x.secs, x.spk, x.wait, x.shares⟩ A2 A3 c2 c3 hn2 hn3 (m + 7 * (x.rules.length : Int) + 3 * (x.pend.length : Int)) (by omega) (by omega) _ O2 O3 (apart2 d2_3.out)).mono ?_
  rintro e w2 ⟨rfl, M2, M3, HG2⟩
  have z2 := HG2.size
  replace M0 := M0.keptN HG2 (fun k hk u hu e => by simp only [List.mem_cons, List.not_mem_nil, or_false] at hu; rcases hu with rfl | rfl <;> first | (exact d0_2.out k hk e.symm) | (exact d0_3.out k hk e.symm))
  replace M1 := M1.keptN HG2 (fun k hk u hu e => by simp only [List.mem_cons, List.not_mem_nil, or_false] at hu; rcases hu with rfl | rfl <;> first | (exact d1_2.out k hk e.symm) | (exact d1_3.out k hk e.symm))
  replace O4 := O4.keptN HG2 (fun k hk u hu e => by simp only [List.mem_cons, List.not_mem_nil, or_false] at hu; rcases hu with rfl | rfl <;> first | (exact d2_4.out k e hk.symm) | (exact d3_4.out k e hk.symm))
  replace X := (HG2.block _ (Blk.lt X) (fun u hu e => by simp only [List.mem_cons, List.not_mem_nil, or_false] at hu; rcases hu with rfl | rfl <;> first | (have := l2.out _ e; omega) | (have := l3.out _ e; omega))).trans X
  clear a0 a1 a2 a3 a4 a5 a6 a7
  have a0 := (Blk.cell X 0).trans (show _ = some (.slice A0 x.rules.length c0) from rfl)
  have a1 := (Blk.cell X 1).trans (show _ = some (.slice A1 x.pend.length c1) from rfl)
  have a2 := (Blk.cell X 2).trans (show _ = some (.int .i64 x.turns) from rfl)
  have a3 := (Blk.cell X 3).trans (show _ = some (.int .i64 x.secs) from rfl)
  have a4 := (Blk.cell X 4).trans (show _ = some (.int .i64 x.spk) from rfl)
  have a5 := (Blk.cell X 5).trans (show _ = some (.slice A2 x.wait.length c2) from rfl)
  have a6 := (Blk.cell X 6).trans (show _ = some (.slice A3 x.shares.length c3) from rfl)
  have a7 := (Blk.cell X 7).trans (show _ = some (.slice A4 x.outs.length c4) from rfl)
  go_wp2_with fail
  refine (mkOutcomeS_is _ A4 c4 x.outs hn4 (m + 7 * (x.rules.length : Int) + 3 * (x.pend.length : Int) + (x.wait.length : Int) + 3 * (x.shares.length : Int)) (by omega) (by omega) _ O4).mono ?_
  rintro e w3 ⟨rfl, M4, hg3⟩
  have HG3 := grownL_one hg3
  have z3 := HG3.size
  replace M0 := M0.keptN HG3 (fun k hk u hu e => by simp only [List.mem_cons, List.not_mem_nil, or_false] at hu; subst hu; exact d0_4.out k hk e.symm)
  replace M1 := M1.keptN HG3 (fun k hk u hu e => by simp only [List.mem_cons, List.not_mem_nil, or_false] at hu; subst hu; exact d1_4.out k hk e.symm)
  replace M2 := M2.keptN HG3 (fun k hk u hu e => by simp only [List.mem_cons, List.not_mem_nil, or_false] at hu; subst hu; exact d2_4.out k hk e.symm)
  replace M3 := M3.keptN HG3 (fun k hk u hu e => by simp only [List.mem_cons, List.not_mem_nil, or_false] at hu; subst hu; exact d3_4.out k hk e.symm)
  replace X := (HG3.block _ (Blk.lt X) (fun u hu e => by simp only [List.mem_cons, List.not_mem_nil, or_false] at hu; subst hu; have := l4.out _ e; omega)).trans X
  clear a0 a1 a2 a3 a4 a5 a6 a7
  have a0 := (Blk.cell X 0).trans (show _ = some (.slice A0 x.rules.length c0) from rfl)
  have a1 := (Blk.cell X 1).trans (show _ = some (.slice A1 x.pend.length c1) from rfl)
  have a2 := (Blk.cell X 2).trans (show _ = some (.int .i64 x.turns) from rfl)
  have a3 := (Blk.cell X 3).trans (show _ = some (.int .i64 x.secs) from rfl)
  have a4 := (Blk.cell X 4).trans (show _ = some (.int .i64 x.spk) from rfl)
  have a5 := (Blk.cell X 5).trans (show _ = some (.slice A2 x.wait.length c2) from rfl)
  have a6 := (Blk.cell X 6).trans (show _ = some (.slice A3 x.shares.length c3) from rfl)
  have a7 := (Blk.cell X 7).trans (show _ = some (.slice A4 x.outs.length c4) from rfl)
  go_wp2
  go_ret
  exact ⟨rfl, M0, M1, M2, M3, M4, ((((GrownL.of_below (vs := []) (bl1 w (.cells #[.slice A0 x.rules.length c0, .slice A1 x.pend.length c1, .int .i64 x.turns, .int .i64 x.secs, .int .i64 x.spk, .slice A2 x.wait.length c2, .slice A3 x.shares.length c3, .slice A4 x.outs.length c4] 40))).trans HG0).trans HG1).trans HG2).trans HG3⟩
end Go.Proofs.Ytkkdegmfmimdgaa
/- Marks held in a meeting. -/
namespace Go.Proofs.Ytkkdegmfmimdgaa
open Go.RowKit Go.G9
set_option maxHeartbeats 4000000 in
set_option maxRecDepth 100000 in
theorem hdMeeting_is (x : Mee) (A0 A1 A2 A3 A4 : Option Addr) (c0 c1 c2 c3 c4 : Nat) (hn0 : x.rules.length ≤ 1048576) (hn1 : x.pend.length ≤ 1048576) (hn2 : x.wait.length ≤ 1048576) (hn3 : x.shares.length ≤ 1048576) (hn4 : x.outs.length ≤ 1048576) (m : Int) (h0 : 0 < m) (h1 : m ≤ 9000000) (w : World)
    (R0 : Rds 7 patRule w A0 (mks (m) 7 x.rules.length)) (R1 : Rds 3 patQuestion w A1 (mks (m + 7 * (x.rules.length : Int)) 3 x.pend.length)) (R2 : Rds 1 patInt w A2 (mks (m + 7 * (x.rules.length : Int) + 3 * (x.pend.length : Int)) 1 x.wait.length)) (R3 : Rds 3 patShare w A3 (mks (m + 7 * (x.rules.length : Int) + 3 * (x.pend.length : Int) + (x.wait.length : Int)) 3 x.shares.length)) (R4 : Rds 3 patOutcome w A4 (mks (m + 7 * (x.rules.length : Int) + 3 * (x.pend.length : Int) + (x.wait.length : Int) + 3 * (x.shares.length : Int)) 3 x.outs.length)) :
  Calls Try.prog 28 #[.agg #[.slice A0 x.rules.length c0, .slice A1 x.pend.length c1, .int .i64 x.turns, .int .i64 x.secs, .int .i64 x.spk, .slice A2 x.wait.length c2, .slice A3 x.shares.length c3, .slice A4 x.outs.length c4], .int .i64 m] w fun e w' => e = .returned (.int .i64 (m + 7 * (x.rules.length : Int) + 3 * (x.pend.length : Int) + (x.wait.length : Int) + 3 * (x.shares.length : Int) + 3 * (x.outs.length : Int))) ∧ Below w.heap.size w w' := by
  go_enter Try.func28, Try.ntmps28
  go_wp2_with fail
  refine (hdRuleS_is A0 c0 _ hn0 (m) (by omega) (by omega) _ (R0.below (by repeat (first | exact Below.refl _ _ | refine Below.alloc ?_ (by first | exact Nat.le_refl _ | (simp <;> omega)) _ | refine Below.setCell ?_ (by first | exact Nat.le_refl _ | (simp <;> omega)) _)))).mono ?_
  rintro e w1 ⟨rfl, hb1⟩
  have hq1 : Below w.heap.size w w1 := bth (by repeat (first | exact Below.refl _ _ | refine Below.alloc ?_ (by first | exact Nat.le_refl _ | (simp <;> omega)) _ | refine Below.setCell ?_ (by first | exact Nat.le_refl _ | (simp <;> omega)) _)) hb1
  have z1 := hq1.size
  have HB : Below w.heap.size w w1 := hq1
  have X1 : Blk w1 (w.heap.size) 40 #[.slice A0 x.rules.length c0, .slice A1 x.pend.length c1, .int .i64 x.turns, .int .i64 x.secs, .int .i64 x.spk, .slice A2 x.wait.length c2, .slice A3 x.shares.length c3, .slice A4 x.outs.length c4] := Blk.below (by repeat (first | exact Blk.new _ _ _ | exact Blk.new2 _ _ _ _ | exact Blk.new3 _ _ _ _ _ | refine Blk.alloc ?_ _)) hb1 (by simp <;> omega)
  have yX1 := X1.lt
  have X1_0 := (X1.cell 0).trans (show _ = some (.slice A0 x.rules.length c0) from rfl)
  have X1_1 := (X1.cell 1).trans (show _ = some (.slice A1 x.pend.length c1) from rfl)
  have X1_2 := (X1.cell 2).trans (show _ = some (.int .i64 x.turns) from rfl)
  have X1_3 := (X1.cell 3).trans (show _ = some (.int .i64 x.secs) from rfl)
  have X1_4 := (X1.cell 4).trans (show _ = some (.int .i64 x.spk) from rfl)
  have X1_5 := (X1.cell 5).trans (show _ = some (.slice A2 x.wait.length c2) from rfl)
  have X1_6 := (X1.cell 6).trans (show _ = some (.slice A3 x.shares.length c3) from rfl)
  have X1_7 := (X1.cell 7).trans (show _ = some (.slice A4 x.outs.length c4) from rfl)
  go_wp2_with fail
  refine (hdQuestionS_is A1 c1 _ hn1 (m + 7 * (x.rules.length : Int)) (by omega) (by omega) _ (R1.below (bth HB (by repeat (first | exact Below.refl _ _ | refine Below.alloc ?_ (by first | exact Nat.le_refl _ | (simp <;> omega)) _ | refine Below.setCell ?_ (by first | exact Nat.le_refl _ | (simp <;> omega)) _))))).mono ?_
  rintro e w2 ⟨rfl, hb2⟩
  clear X1_0 X1_1 X1_2 X1_3 X1_4 X1_5 X1_6 X1_7
  have hq2 : Below w1.heap.size w1 w2 := bth (by repeat (first | exact Below.refl _ _ | refine Below.alloc ?_ (by first | exact Nat.le_refl _ | (simp <;> omega)) _ | refine Below.setCell ?_ (by first | exact Nat.le_refl _ | (simp <;> omega)) _)) hb2
  have z2 := hq2.size
  replace HB := bth HB hq2
  replace X1 := X1.below hq2 X1.lt
  have X1_0 := (X1.cell 0).trans (show _ = some (.slice A0 x.rules.length c0) from rfl)
  have X1_1 := (X1.cell 1).trans (show _ = some (.slice A1 x.pend.length c1) from rfl)
  have X1_2 := (X1.cell 2).trans (show _ = some (.int .i64 x.turns) from rfl)
  have X1_3 := (X1.cell 3).trans (show _ = some (.int .i64 x.secs) from rfl)
  have X1_4 := (X1.cell 4).trans (show _ = some (.int .i64 x.spk) from rfl)
  have X1_5 := (X1.cell 5).trans (show _ = some (.slice A2 x.wait.length c2) from rfl)
  have X1_6 := (X1.cell 6).trans (show _ = some (.slice A3 x.shares.length c3) from rfl)
  have X1_7 := (X1.cell 7).trans (show _ = some (.slice A4 x.outs.length c4) from rfl)
  go_wp2_with fail
  refine (hdFloor_is ⟨x.turns, x.secs, x.spk, x.wait, x.shares⟩ A2 A3 c2 c3 hn2 hn3 (m + 7 * (x.rules.length : Int) + 3 * (x.pend.length : Int)) (by omega) (by omega) _ (R2.below (bth HB (by repeat (first | exact Below.refl _ _ | refine Below.alloc ?_ (by first | exact Nat.le_refl _ | (simp <;> omega)) _ | refine Below.setCell ?_ (by first | exact Nat.le_refl _ | (simp <;> omega)) _)))) (R3.below (bth HB (by repeat (first | exact Below.refl _ _ | refine Below.alloc ?_ (by first | exact Nat.le_refl _ | (simp <;> omega)) _ | refine Below.setCell ?_ (by first | exact Nat.le_refl _ | (simp <;> omega)) _))))).mono ?_
  rintro e w3 ⟨rfl, hb3⟩
  clear X1_0 X1_1 X1_2 X1_3 X1_4 X1_5 X1_6 X1_7
  have hq3 : Below w2.heap.size w2 w3 := bth (by repeat (first | exact Below.refl _ _ | refine Below.alloc ?_ (by first | exact Nat.le_refl _ | (simp <;> omega)) _ | refine Below.setCell ?_ (by first | exact Nat.le_refl _ | (simp <;> omega)) _)) hb3
  have z3 := hq3.size
  replace HB := bth HB hq3
  replace X1 := X1.below hq3 X1.lt
  have X1_0 := (X1.cell 0).trans (show _ = some (.slice A0 x.rules.length c0) from rfl)
  have X1_1 := (X1.cell 1).trans (show _ = some (.slice A1 x.pend.length c1) from rfl)
  have X1_2 := (X1.cell 2).trans (show _ = some (.int .i64 x.turns) from rfl)
  have X1_3 := (X1.cell 3).trans (show _ = some (.int .i64 x.secs) from rfl)
  have X1_4 := (X1.cell 4).trans (show _ = some (.int .i64 x.spk) from rfl)
  have X1_5 := (X1.cell 5).trans (show _ = some (.slice A2 x.wait.length c2) from rfl)
  have X1_6 := (X1.cell 6).trans (show _ = some (.slice A3 x.shares.length c3) from rfl)
  have X1_7 := (X1.cell 7).trans (show _ = some (.slice A4 x.outs.length c4) from rfl)
  go_wp2_with fail
  refine (hdOutcomeS_is A4 c4 _ hn4 (m + 7 * (x.rules.length : Int) + 3 * (x.pend.length : Int) + (x.wait.length : Int) + 3 * (x.shares.length : Int)) (by omega) (by omega) _ (R4.below (bth HB (by repeat (first | exact Below.refl _ _ | refine Below.alloc ?_ (by first | exact Nat.le_refl _ | (simp <;> omega)) _ | refine Below.setCell ?_ (by first | exact Nat.le_refl _ | (simp <;> omega)) _))))).mono ?_
  rintro e w4 ⟨rfl, hb4⟩
  clear X1_0 X1_1 X1_2 X1_3 X1_4 X1_5 X1_6 X1_7
  have hq4 : Below w3.heap.size w3 w4 := bth (by repeat (first | exact Below.refl _ _ | refine Below.alloc ?_ (by first | exact Nat.le_refl _ | (simp <;> omega)) _ | refine Below.setCell ?_ (by first | exact Nat.le_refl _ | (simp <;> omega)) _)) hb4
  have z4 := hq4.size
  replace HB := bth HB hq4
  replace X1 := X1.below hq4 X1.lt
  have X1_0 := (X1.cell 0).trans (show _ = some (.slice A0 x.rules.length c0) from rfl)
  have X1_1 := (X1.cell 1).trans (show _ = some (.slice A1 x.pend.length c1) from rfl)
  have X1_2 := (X1.cell 2).trans (show _ = some (.int .i64 x.turns) from rfl)
  have X1_3 := (X1.cell 3).trans (show _ = some (.int .i64 x.secs) from rfl)
  have X1_4 := (X1.cell 4).trans (show _ = some (.int .i64 x.spk) from rfl)
  have X1_5 := (X1.cell 5).trans (show _ = some (.slice A2 x.wait.length c2) from rfl)
  have X1_6 := (X1.cell 6).trans (show _ = some (.slice A3 x.shares.length c3) from rfl)
  have X1_7 := (X1.cell 7).trans (show _ = some (.slice A4 x.outs.length c4) from rfl)
  go_wp2
  go_ret
  exact ⟨rfl, bth HB (by repeat (first | exact Below.refl _ _ | refine Below.alloc ?_ (by first | exact Nat.le_refl _ | (simp <;> omega)) _ | refine Below.setCell ?_ (by first | exact Nat.le_refl _ | (simp <;> omega)) _))⟩
end Go.Proofs.Ytkkdegmfmimdgaa
