/- Results of votes: validity, copies, comparisons. -/
import Derived.Test.YthgaddnbgnennaaStr
import Derived.Test.YthgaddnbgnennaaIdx
import Derived.Test.YthgaddnbgnennaaOwn
namespace Go.Proofs.Ythgaddnbgnennaa
open Go.RowKit Go.G9
structure Res where
  motion : ByteArray
  need : Int
  yes : Int
  no : Int
  abst : Int
  ok : motion.size ≤ maxLen
def Res.cells (r : Res) : List Value := [.string r.motion, .int .i64 r.need, .int .i64 r.yes, .int .i64 r.no, .int .i64 r.abst]
def tallyB (y n a : Int) : Bool := inB y 0 1000 && (inB n 0 1000 && inB a 0 1000)
def resB (r : Res) : Bool := wordB r.motion && (inB r.need 1 3 && tallyB r.yes r.no r.abst)
def reportB (xs : List Res) : Bool := decide (xs.length ≤ 12) && !xs.any (fun r => !resB r)
theorem isNeed_is (n : Int) (v : Bool) (hv : inB n 1 3 = v) (w : World) : Calls Try.prog 86 #[.int .i64 n] w fun e w' => e = .returned (.bool v) ∧ w' = w := by
  subst hv
  go_enter Try.func86, Try.ntmps86
  go_wp2_with (go_at_call 60; refine (inside_is _ _ _ _ rfl _).mono ?_; rintro e w' ⟨rfl, rfl⟩)
  go_ret
  exact ⟨rfl, rfl⟩
theorem l11Need_is (n : Int) (v : Bool) (hv : inB n 1 3 = v) (w : World) : Calls Try.prog 87 #[.int .i64 n] w fun e w' => e = .returned (.bool v) ∧ w' = w := by
  subst hv
  go_enter Try.func87, Try.ntmps87
  go_wp2_with (go_at_call 52; refine (l1In_is _ _ _ _ rfl _).mono ?_; rintro e w' ⟨rfl, rfl⟩)
  go_ret
  exact ⟨rfl, rfl⟩
end Go.Proofs.Ythgaddnbgnennaa
