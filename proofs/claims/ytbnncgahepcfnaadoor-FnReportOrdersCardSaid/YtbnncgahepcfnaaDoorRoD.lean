/- The draws of a report, and impl.IsAdopted. -/
import Derived.Test.YtbnncgahepcfnaaDoorRpt
import Derived.Test.YtbnncgahepcfnaaDoorRes2
import Derived.Test.YtbnncgahepcfnaaDoorDec3
namespace Go.Proofs.YtbnncgahepcfnaaDoor
open Go.RowKit Go.G9
set_option maxHeartbeats 400000 in
set_option maxRecDepth 100000 in
theorem drawIsReport_is (A : Option Addr) (c : Nat) (cs : List UInt8) (hcs : cs.length ≤ 1048576) (w : World) (hR : Rds 1 u8C w A cs) :
  Calls Tryd.prog 56 #[.slice A cs.length c] w fun e w' => ∃ (xs : List Res) (Y : Option Addr) (yc : Nat), e = .returned (.slice Y xs.length yc) ∧ xs.length ≤ 14 ∧ OwnV w.heap.size 31 5 Res.cells w' (.slice Y xs.length yc) xs ∧ Below w.heap.size w w' := by
  go_enter Tryd.func56, Tryd.ntmps56
  go_upto_region 2 with fail
  have hlt : ∀ ad, A = some ad → 0 < cs.length → ad.block < w.heap.size := fun ad h h0 => by
    obtain ⟨b, off, h1, h2, _⟩ := hR h0
    rw [h1] at h; cases h; exact h2
  have hP := Blk.new w 102 #[.slice A cs.length c, .int .i64 0, .int .u64 0]
  have HB : Below w.heap.size w (w.alloc (.cells #[.slice A cs.length c, .int .i64 0, .int .u64 0] 102)) := bl1 w _
  generalize (w.alloc (.cells #[.slice A cs.length c, .int .i64 0, .int .u64 0] 102)) = wA at *
  have hC : Cur wA w.heap.size A c cs 0 := ⟨⟨0, 0, hP, by decide, by decide⟩, hR.below HB, fun ad h h0 => by have := hlt ad h h0; omega⟩
  have hPl := hP.lt
  obtain ⟨p, hpe⟩ : ∃ p, p = w.heap.size := ⟨_, rfl⟩
  rw [← hpe] at hC hPl
  obtain ⟨n0, hn0⟩ : ∃ n : Nat, n ≤ 0 := ⟨0, Nat.le_refl _⟩
  replace hC : Cur wA p A c cs n0 := hC.mono (Nat.zero_le _)
  simp only [← hpe]
  have hp := hC.lt
  have HG := grown_refl w (some p)
  replace HG : w.grownBy wA (some p) := below_grown HB _
  have szw : w.heap.size ≤ wA.heap.size := HB.size
  clear hR hlt hP HB
  go_wp2_with fail
  rw [← hpe]
  refine (report_is p A c cs hcs n0 (by omega) _ hC).mono ?_
  rintro e w1 ⟨xs, Y, yc, rfl, hl, hO, hS1⟩
  replace HG := grown_tr HG hS1.2
  go_wp2
  go_ret
  exact ⟨xs, Y, yc, rfl, hl, hO.base (by omega), grown_below HG (Nat.le_refl _) (fun k hk => by cases hk; omega)⟩
theorem drawOo_is (A : Option Addr) (c : Nat) (cs : List UInt8) (hcs : cs.length ≤ 1048576) (w : World) (hR : Rds 1 u8C w A cs) :
  Calls Tryd.prog 22 #[.slice A cs.length c] w fun e w' => ∃ (xs : List Res) (Y : Option Addr) (yc : Nat), e = .returned (.slice Y xs.length yc) ∧ xs.length ≤ 14 ∧ OwnV w.heap.size 31 5 Res.cells w' (.slice Y xs.length yc) xs ∧ Below w.heap.size w w' := by
  go_enter Tryd.func22, Tryd.ntmps22
  go_wp2_with fail
  refine (drawIsReport_is A c cs hcs _ hR).mono ?_
  rintro e w1 ⟨xs, Y, yc, rfl, hl, hO, hb⟩
  go_wp2
  go_ret
  exact ⟨xs, Y, yc, rfl, hl, hO, hb⟩
theorem isAdoptedW_is (need y n a : Int) (hd : inB need 1 3 = true) (ht : tallyB y n a = true) (h : 0 ≤ y ∧ y ≤ 1000 ∧ 0 ≤ n ∧ n ≤ 1000) (v : Bool) (hv : adoB need y n = v) (w : World) : Calls Tryd.prog 26 #[.int .i64 need, .agg #[.int .i64 y, .int .i64 n, .int .i64 a]] w fun e w' => e = .returned (.tuple #[.bool v, .bool true]) ∧ Below w.heap.size w w' := by
  have HV := Lib.hid hv; clear hv
  go_enter Tryd.func26, Tryd.ntmps26
  go_upto_region 1 with fail
  have hq1 : Below w.heap.size w (World.alloc w (.cells #[.int .i64 y, .int .i64 n, .int .i64 a] 29)) := bl1 w _
  have hX : Blk (World.alloc w (.cells #[.int .i64 y, .int .i64 n, .int .i64 a] 29)) (w.heap.size) 29 #[.int .i64 y, .int .i64 n, .int .i64 a] := by repeat (first | exact Blk.new _ _ _ | exact Blk.new2 _ _ _ _ | exact Blk.new3 _ _ _ _ _ | exact Blk.new4 _ _ _ _ _ _ | refine Blk.alloc ?_ _)
  generalize World.alloc w (.cells #[.int .i64 y, .int .i64 n, .int .i64 a] 29) = wX at *
  have HB := hq1
  have x0 := (hX.cell 0).trans (show _ = some (.int .i64 y) from rfl)
  have x1 := (hX.cell 1).trans (show _ = some (.int .i64 n) from rfl)
  have x2 := (hX.cell 2).trans (show _ = some (.int .i64 a) from rfl)
  go_wp2_with fail
  refine (isNeed_is need _ hd _).mono ?_
  rintro e w0 ⟨rfl, h0⟩
  rw [h0]
  clear h0 w0
  go_wp2_with fail
  refine (isValidTally_is y n a true ht _).mono ?_
  rintro e w2 ⟨rfl, hb2⟩
  have hq2 : Below wX.heap.size wX w2 := bth (by repeat (first | exact Below.refl _ _ | refine Below.alloc ?_ (by first | exact Nat.le_refl _ | (simp <;> omega)) _ | refine Below.setCell ?_ (by first | exact Nat.le_refl _ | (simp <;> omega)) _)) hb2
  replace HB := bth HB hq2
  replace hX := hX.below hq2 hX.lt
  replace x0 := (hX.cell 0).trans (show _ = some (.int .i64 y) from rfl)
  replace x1 := (hX.cell 1).trans (show _ = some (.int .i64 n) from rfl)
  replace x2 := (hX.cell 2).trans (show _ = some (.int .i64 a) from rfl)
  go_wp2_with fail
  refine (isAdopted_is need y n (by omega) (by omega) (by omega) (by omega) v HV.out _).mono ?_
  rintro e w0 ⟨rfl, h0⟩
  rw [h0]
  clear h0 w0
  go_wp2
  go_ret2
  exact ⟨rfl, (bth HB (by repeat (first | exact Below.refl _ _ | refine Below.alloc ?_ (by first | exact Nat.le_refl _ | (simp <;> omega)) _ | refine Below.setCell ?_ (by first | exact Nat.le_refl _ | (simp <;> omega)) _)))⟩
end Go.Proofs.YtbnncgahepcfnaaDoor
