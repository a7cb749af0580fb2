/- What the inputs of the laws read as: the reader of each struct, over this program. -/
import Derived.Test.YtbnncgahepcfnaaDoorNtc
import Derived.Test.YtbnncgahepcfnaaDoorRes
import Derived.Test.YtbnncgahepcfnaaDoorDec2
import Derived.Test.YtbnncgahepcfnaaDoorOpen
import Derived.Test.YtbnncgahepcfnaaDoorRows
namespace Go.Proofs.YtbnncgahepcfnaaDoor
open Go.ChangeShapes Go.WideShapes Go.ChangeAt Go.RowKit Go.Deep Go.G9
theorem prog_own : ownKnob Tryd.prog.godebug = none := by kernel_rfl
theorem prog_laid : laidOutB Tryd.prog = true := by kernel_rfl
theorem cells_int : Tryd.prog.cellsOf 3 = 1 := by kernel_rfl
theorem cells_string : Tryd.prog.cellsOf 9 = 1 := by kernel_rfl
theorem cells_bool : Tryd.prog.cellsOf 4 = 1 := by kernel_rfl
section
variable {H : Type} {enc : TypeId × Value → H} {w : World} {base : Nat} {sp : Nat → Bool} {hd : Bool} {fuel : Nat} {cs : List Value} {x : DataW H × List MemPlace}
theorem cells_Res : Tryd.prog.cellsOf 25 = 5 := by kernel_rfl
theorem cells_Tally : Tryd.prog.cellsOf 23 = 3 := by kernel_rfl
set_option maxRecDepth 100000 in
theorem rd_Res (h : DataW.trod enc Tryd.prog w base sp hd fuel 25 cs = some x) : ∃ y : Res, cs = y.cells := by
  obtain ⟨xs, n, rfl, _, hl, hlen, hg⟩ := DataW.trod_struct Tryd.underlying25 h
  match cs, hl.trans cells_Res with
  | [c0, c1, c2, c3, c4], _ =>
    obtain ⟨n0, e0, k0⟩ := rd_string_at hlen hg 0 _ rfl Tryd.underlying9 cells_string
    obtain ⟨n1, e1⟩ := rd_int_at hlen hg 1 _ rfl Tryd.underlying3 cells_int
    obtain ⟨_, h2'⟩ := rd_sub_at hlen hg 2 _ rfl cells_Tally
    obtain ⟨xs', n', rfl, _, hl', hlen', hg'⟩ := DataW.trod_struct Tryd.underlying23 h2'
    obtain ⟨n2, e2⟩ := rd_int_at hlen' hg' 0 _ rfl Tryd.underlying3 cells_int
    obtain ⟨n3, e3⟩ := rd_int_at hlen' hg' 1 _ rfl Tryd.underlying3 cells_int
    obtain ⟨n4, e4⟩ := rd_int_at hlen' hg' 2 _ rfl Tryd.underlying3 cells_int
    simp at e0 e1 e2 e3 e4
    exact ⟨⟨n0, n1, n2, n3, n4, k0⟩, by simp_all [Res.cells]⟩
theorem rd_Int (h : DataW.trod enc Tryd.prog w base sp hd fuel 3 cs = some x) : ∃ y : Int, cs = intC y := by
  obtain ⟨n, rfl, _, _⟩ := DataW.trod_int Tryd.underlying3 h
  exact ⟨n, rfl⟩
end
end Go.Proofs.YtbnncgahepcfnaaDoor
