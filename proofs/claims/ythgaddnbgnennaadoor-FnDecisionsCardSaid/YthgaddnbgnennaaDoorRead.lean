/- What the inputs of the laws read as: the reader of each struct, over this program. -/
import Derived.Test.YthgaddnbgnennaaDoorNtc
import Derived.Test.YthgaddnbgnennaaDoorRes
import Derived.Test.YthgaddnbgnennaaDoorDec2
import Derived.Test.YthgaddnbgnennaaDoorOpen
import Derived.Test.YthgaddnbgnennaaDoorRows
namespace Go.Proofs.YthgaddnbgnennaaDoor
open Go.ChangeShapes Go.WideShapes Go.ChangeAt Go.RowKit Go.Deep Go.G9
theorem prog_own : ownKnob Tryd.prog.godebug = none := by kernel_rfl
theorem prog_laid : laidOutB Tryd.prog = true := by kernel_rfl
theorem cells_int : Tryd.prog.cellsOf 3 = 1 := by kernel_rfl
theorem cells_string : Tryd.prog.cellsOf 9 = 1 := by kernel_rfl
theorem cells_bool : Tryd.prog.cellsOf 4 = 1 := by kernel_rfl
section
variable {H : Type} {enc : TypeId × Value → H} {w : World} {base : Nat} {sp : Nat → Bool} {hd : Bool} {fuel : Nat} {cs : List Value} {x : DataW H × List MemPlace}
theorem cells_Ntc : Tryd.prog.cellsOf 23 = 4 := by kernel_rfl
set_option maxRecDepth 100000 in
theorem rd_Ntc (h : DataW.trod enc Tryd.prog w base sp hd fuel 23 cs = some x) : ∃ y : Ntc, cs = y.cells := by
  obtain ⟨xs, n, rfl, _, hl, hlen, hg⟩ := DataW.trod_struct Tryd.underlying23 h
  match cs, hl.trans cells_Ntc with
  | [c0, c1, c2, c3], _ =>
    obtain ⟨n0, e0⟩ := rd_int_at hlen hg 0 _ rfl Tryd.underlying3 cells_int
    obtain ⟨n1, e1, k1⟩ := rd_string_at hlen hg 1 _ rfl Tryd.underlying9 cells_string
    obtain ⟨n2, e2⟩ := rd_int_at hlen hg 2 _ rfl Tryd.underlying3 cells_int
    obtain ⟨n3, e3⟩ := rd_int_at hlen hg 3 _ rfl Tryd.underlying3 cells_int
    exact ⟨⟨n0, n1, n2, n3, k1⟩, by simp_all [Ntc.cells]⟩
theorem rd_Int (h : DataW.trod enc Tryd.prog w base sp hd fuel 3 cs = some x) : ∃ y : Int, cs = intC y := by
  obtain ⟨n, rfl, _, _⟩ := DataW.trod_int Tryd.underlying3 h
  exact ⟨n, rfl⟩
theorem cells_Dec : Tryd.prog.cellsOf 32 = 6 := by kernel_rfl
theorem cells_ints : Tryd.prog.cellsOf 30 = 1 := by kernel_rfl
set_option maxRecDepth 100000 in
theorem rd_Dec (h : DataW.trod enc Tryd.prog w base sp hd fuel 32 cs = some x) : ∃ (d : Dec) (Y N : Option Addr) (yc nc : Nat),
    cs = [.int .i64 d.id, .int .i64 d.day, .int .i64 d.need, .slice Y d.yes.length yc, .slice N d.no.length nc, .bool d.done] ∧ d.yes.length ≤ maxLen ∧ d.no.length ≤ maxLen ∧ Rds 1 intC w Y d.yes ∧ Rds 1 intC w N d.no ∧ (Y = none → d.yes = [] ∧ yc = 0) ∧ (N = none → d.no = [] ∧ nc = 0) := by
  obtain ⟨xs, n, rfl, _, hl, hlen, hg⟩ := DataW.trod_struct Tryd.underlying32 h
  match cs, hl.trans cells_Dec with
  | [c0, c1, c2, c3, c4, c5], _ =>
    obtain ⟨n0, e0⟩ := rd_int_at hlen hg 0 _ rfl Tryd.underlying3 cells_int
    obtain ⟨n1, e1⟩ := rd_int_at hlen hg 1 _ rfl Tryd.underlying3 cells_int
    obtain ⟨n2, e2⟩ := rd_int_at hlen hg 2 _ rfl Tryd.underlying3 cells_int
    obtain ⟨_, h3⟩ := rd_sub_at hlen hg 3 _ rfl cells_ints
    obtain ⟨_, h4⟩ := rd_sub_at hlen hg 4 _ rfl cells_ints
    obtain ⟨n5, e5⟩ := rd_bool_at hlen hg 5 _ rfl Tryd.underlying4 cells_bool
    obtain ⟨Y, yc, ys, e3, l3, R3, N3⟩ := rd_slicen intC 1 (by decide) Tryd.underlying30 cells_int (fun _ _ _ h => rd_Int h) h3
    obtain ⟨N, nc, ns, e4, l4, R4, N4⟩ := rd_slicen intC 1 (by decide) Tryd.underlying30 cells_int (fun _ _ _ h => rd_Int h) h4
    simp at e0 e1 e2 e3 e4 e5
    subst e0 e1 e2 e3 e4 e5
    exact ⟨⟨n0, n1, n2, ys, ns, n5⟩, Y, N, yc, nc, rfl, l3, l4, R3, R4, N3, N4⟩
end
end Go.Proofs.YthgaddnbgnennaaDoor
