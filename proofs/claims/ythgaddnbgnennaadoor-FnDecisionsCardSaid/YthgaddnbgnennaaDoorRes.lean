/- Results of votes: validity, copies, comparisons. -/
import Derived.Test.YthgaddnbgnennaaDoorStr
import Derived.Test.YthgaddnbgnennaaDoorIdx
import Derived.Test.YthgaddnbgnennaaDoorOwn
namespace Go.Proofs.YthgaddnbgnennaaDoor
open Go.RowKit Go.G9
structure Res where
  motion : ByteArray
  need : Int
  yes : Int
  no : Int
  abst : Int
  ok : motion.size ≤ maxLen
def Res.cells (r : Res) : List Value := [.string r.motion, .int .i64 r.need, .int .i64 r.yes, .int .i64 r.no, .int .i64 r.abst]
def tallyB (y n a : Int) : Bool := inB y 0 1000 && (inB n 0 1000 && inB a 0 1000)
def resB (r : Res) : Bool := wordB r.motion && (inB r.need 1 3 && tallyB r.yes r.no r.abst)
def reportB (xs : List Res) : Bool := decide (xs.length ≤ 12) && !xs.any (fun r => !resB r)
theorem areVotes_is (n : Int) (v : Bool) (hv : inB n 0 1000 = v) (w : World) : Calls Tryd.prog 70 #[.int .i64 n] w fun e w' => e = .returned (.bool v) ∧ w' = w := by
  subst hv
  go_enter Tryd.func70, Tryd.ntmps70
  go_wp2_with (go_at_call 48; refine (inside_is _ _ _ _ rfl _).mono ?_; rintro e w' ⟨rfl, rfl⟩)
  go_ret
  exact ⟨rfl, rfl⟩
theorem isNeed_is (n : Int) (v : Bool) (hv : inB n 1 3 = v) (w : World) : Calls Tryd.prog 50 #[.int .i64 n] w fun e w' => e = .returned (.bool v) ∧ w' = w := by
  subst hv
  go_enter Tryd.func50, Tryd.ntmps50
  go_wp2_with (go_at_call 48; refine (inside_is _ _ _ _ rfl _).mono ?_; rintro e w' ⟨rfl, rfl⟩)
  go_ret
  exact ⟨rfl, rfl⟩
theorem l11Need_is (n : Int) (v : Bool) (hv : inB n 1 3 = v) (w : World) : Calls Tryd.prog 63 #[.int .i64 n] w fun e w' => e = .returned (.bool v) ∧ w' = w := by
  subst hv
  go_enter Tryd.func63, Tryd.ntmps63
  go_wp2_with (go_at_call 58; refine (l1In_is _ _ _ _ rfl _).mono ?_; rintro e w' ⟨rfl, rfl⟩)
  go_ret
  exact ⟨rfl, rfl⟩
theorem isValidTally_is (y n a : Int) (v : Bool) (hv : tallyB y n a = v) (w : World) : Calls Tryd.prog 52 #[.agg #[.int .i64 y, .int .i64 n, .int .i64 a]] w fun e w' => e = .returned (.bool v) ∧ Below w.heap.size w w' := by
  subst hv
  go_enter Tryd.func52, Tryd.ntmps52
  go_wp2_with (go_at_call 70; refine (areVotes_is _ _ rfl _).mono ?_; rintro e w' ⟨rfl, rfl⟩)
  all_goals go_ret
  all_goals exact ⟨by simp [tallyB, *], bl1 _ _⟩
end Go.Proofs.YthgaddnbgnennaaDoor
