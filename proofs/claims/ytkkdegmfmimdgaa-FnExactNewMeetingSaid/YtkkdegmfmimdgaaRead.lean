/- What the inputs of the laws read as: the reader of each struct, over this program. -/
import Derived.Test.YtkkdegmfmimdgaaNtc
import Derived.Test.YtkkdegmfmimdgaaRes
import Derived.Test.YtkkdegmfmimdgaaDec2
import Derived.Test.YtkkdegmfmimdgaaOpen
import Derived.Test.YtkkdegmfmimdgaaRows
namespace Go.Proofs.Ytkkdegmfmimdgaa
open Go.ChangeShapes Go.WideShapes Go.ChangeAt Go.RowKit Go.Deep Go.G9
theorem prog_own : ownKnob Try.prog.godebug = none := by kernel_rfl
theorem prog_laid : laidOutB Try.prog = true := by kernel_rfl
theorem cells_int : Try.prog.cellsOf 3 = 1 := by kernel_rfl
theorem cells_string : Try.prog.cellsOf 9 = 1 := by kernel_rfl
theorem cells_bool : Try.prog.cellsOf 4 = 1 := by kernel_rfl
section
variable {H : Type} {enc : TypeId × Value → H} {w : World} {base : Nat} {sp : Nat → Bool} {hd : Bool} {fuel : Nat} {cs : List Value} {x : DataW H × List MemPlace}
theorem rd_Int (h : DataW.trod enc Try.prog w base sp hd fuel 3 cs = some x) : ∃ y : Int, cs = intC y := by
  obtain ⟨n, rfl, _, _⟩ := DataW.trod_int Try.underlying3 h
  exact ⟨n, rfl⟩
end
end Go.Proofs.Ytkkdegmfmimdgaa
