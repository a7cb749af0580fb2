/- The log, by the reference: is it a log? -/
import Derived.Test.YtpejnfhenpdobaaDoorLog6
namespace Go.Proofs.YtpejnfhenpdobaaDoor
open Go.RowKit Go.G9
/-- What the reference asks of a log. -/
def logS (d p : L8) (n : Int) : Bool := decide (d.length + p.length ≤ 30000) && (((endL (d ++ p) : Nat) : Int) == ((d.length : Int) + (p.length : Int)) && ((endL d : Nat) : Int) == (d.length : Int) && ((recsL (d ++ p)).length : Int) == n)
set_option maxHeartbeats 2000000 in
set_option maxRecDepth 100000 in
theorem l27Log_is (d p : L8) (n : Int) (hd : d.length ≤ 1048576) (hp : p.length ≤ 1048576) (v : Bool) (hv : logS d p n = v) (w : World) : Calls Tryd.prog 49 #[.agg #[.string (bs d), .string (bs p), .int .i64 n]] w fun e w' => e = .returned (.bool v) ∧ Below w.heap.size w w' := by
  subst hv
  have hsd := bs_size d
  have hsp := bs_size p
  have s1 : (bs d).size ≤ 1048576 := by omega
  have s2 : (bs p).size ≤ 1048576 := by omega
  by_cases ht : d.length + p.length ≤ 30000
  case neg =>
    have hv : logS d p n = false := by unfold logS; rw [decide_eq_false ht]; rfl
    have s3 : 30000 < (bs d).size + (bs p).size := by omega
    have HV := Lib.hid hv; clear hv hsd hsp ht
    have b0 := boxed w #[.string (bs d), .string (bs p), .int .i64 n] 31 0 (.string (bs d)) rfl
    have b1 := boxed w #[.string (bs d), .string (bs p), .int .i64 n] 31 1 (.string (bs p)) rfl
    have b2 := boxed w #[.string (bs d), .string (bs p), .int .i64 n] 31 2 (.int .i64 n) rfl
    go_enter Tryd.func49, Tryd.ntmps49
    go_wp2
    go_ret
    exact ⟨by rw [HV.out]; rfl, bl1 _ _⟩
  have s3 : (bs d).size + (bs p).size ≤ 30000 := by omega
  have hv : logS d p n = (((endL (d ++ p) : Nat) : Int) == (((bs d).size : Int) + ((bs p).size : Int)) && ((endL d : Nat) : Int) == ((bs d).size : Int) && ((recsL (d ++ p)).length : Int) == n) := by
    unfold logS; rw [decide_eq_true ht, hsd, hsp, Bool.true_and]
  have hop : ∀ W, Calls Tryd.prog 47 #[.string (bs d ++ bs p)] W fun e w' => ∃ A c, e = .returned (.tuple #[.slice A (recsL (d ++ p)).length c, .int .i64 (endL (d ++ p) : Nat)]) ∧
    OwnV W.heap.size 27 2 LRec.cells w' (.slice A (recsL (d ++ p)).length c) (recsL (d ++ p)) ∧ Below W.heap.size W w' := fun W => by
    rw [bs_app]; exact l27Open_is (d ++ p) (by simp; omega) W
  have hop2 : ∀ W, Calls Tryd.prog 47 #[.string (bs d)] W fun e w' => ∃ A c, e = .returned (.tuple #[.slice A (recsL d).length c, .int .i64 (endL d : Nat)]) ∧
    OwnV W.heap.size 27 2 LRec.cells w' (.slice A (recsL d).length c) (recsL d) ∧ Below W.heap.size W w' := fun W => l27Open_is d hd W
  have HOP := Lib.hid hop; have HOP2 := Lib.hid hop2; have HV := Lib.hid hv; clear hop hop2 hv hsd hsp ht
  cases h1 : (((endL (d ++ p) : Nat) : Int) == (((bs d).size : Int) + ((bs p).size : Int)))
  all_goals cases h2 : (((endL d : Nat) : Int) == ((bs d).size : Int))
  all_goals cases h3 : (((recsL (d ++ p)).length : Int) == n)
  all_goals have HW := HV.out
  all_goals rw [h1, h2, h3] at HW
  all_goals have HX := Lib.hid HW
  all_goals clear HV HW
  all_goals
    go_enter Tryd.func49, Tryd.ntmps49
    go_wp2_with fail
    refine (HOP.out _).mono ?_
    rintro e w1 ⟨A1, c1, rfl, hO1, hb1⟩
    have hq1 : Below w.heap.size w w1 := bth (by repeat (first | exact Below.refl _ _ | refine Below.alloc ?_ (by first | exact Nat.le_refl _ | (simp <;> omega)) _ | refine Below.setCell ?_ (by first | exact Nat.le_refl _ | (simp <;> omega)) _)) hb1
    have HB : Below w.heap.size w w1 := hq1
    have hL : Blk w1 (w.heap.size) 31 #[.string (bs d), .string (bs p), .int .i64 n] := Blk.below (by repeat (first | exact Blk.new _ _ _ | exact Blk.new2 _ _ _ _ | exact Blk.new3 _ _ _ _ _ | exact Blk.new4 _ _ _ _ _ _ | refine Blk.alloc ?_ _)) hb1 (by simp <;> omega)
    have b0 := (hL.cell 0).trans (show _ = some (.string (bs d)) from rfl)
    have b1 := (hL.cell 1).trans (show _ = some (.string (bs p)) from rfl)
    have b2 := (hL.cell 2).trans (show _ = some (.int .i64 n) from rfl)
    go_wp2_with fail
    refine (HOP2.out _).mono ?_
    rintro e w2 ⟨A2, c2, rfl, hO2, hb2⟩
    have hq2 : Below w1.heap.size w1 w2 := bth (by repeat (first | exact Below.refl _ _ | refine Below.alloc ?_ (by first | exact Nat.le_refl _ | (simp <;> omega)) _ | refine Below.setCell ?_ (by first | exact Nat.le_refl _ | (simp <;> omega)) _)) hb2
    replace HB := bth HB hq2
    replace hL := hL.below hq2 hL.lt
    replace b0 := (hL.cell 0).trans (show _ = some (.string (bs d)) from rfl)
    replace b1 := (hL.cell 1).trans (show _ = some (.string (bs p)) from rfl)
    replace b2 := (hL.cell 2).trans (show _ = some (.int .i64 n) from rfl)
    have yhL := hL.lt
    go_wp2
    go_ret
    exact ⟨by rw [HX.out]; rfl, (bth HB (by repeat (first | exact Below.refl _ _ | refine Below.alloc ?_ (by first | exact Nat.le_refl _ | (simp <;> omega)) _ | refine Below.setCell ?_ (by first | exact Nat.le_refl _ | (simp <;> omega)) _)))⟩
end Go.Proofs.YtpejnfhenpdobaaDoor
