/- What the inputs of the laws read as: the reader of each struct, over this program. -/
import Derived.Test.YtpejnfhenpdobaaDoorNtc
import Derived.Test.YtpejnfhenpdobaaDoorRes
import Derived.Test.YtpejnfhenpdobaaDoorDec2
import Derived.Test.YtpejnfhenpdobaaDoorOpen
import Derived.Test.YtpejnfhenpdobaaDoorRows
namespace Go.Proofs.YtpejnfhenpdobaaDoor
open Go.ChangeShapes Go.WideShapes Go.ChangeAt Go.RowKit Go.Deep Go.G9
theorem prog_own : ownKnob Tryd.prog.godebug = none := by kernel_rfl
theorem prog_laid : laidOutB Tryd.prog = true := by kernel_rfl
theorem cells_int : Tryd.prog.cellsOf 3 = 1 := by kernel_rfl
theorem cells_string : Tryd.prog.cellsOf 9 = 1 := by kernel_rfl
theorem cells_bool : Tryd.prog.cellsOf 4 = 1 := by kernel_rfl
section
variable {H : Type} {enc : TypeId × Value → H} {w : World} {base : Nat} {sp : Nat → Bool} {hd : Bool} {fuel : Nat} {cs : List Value} {x : DataW H × List MemPlace}
theorem rd_Int (h : DataW.trod enc Tryd.prog w base sp hd fuel 3 cs = some x) : ∃ y : Int, cs = intC y := by
  obtain ⟨n, rfl, _, _⟩ := DataW.trod_int Tryd.underlying3 h
  exact ⟨n, rfl⟩
theorem cells_LRec : Tryd.prog.cellsOf 23 = 2 := by kernel_rfl
set_option maxRecDepth 100000 in
theorem rd_LRec (h : DataW.trod enc Tryd.prog w base sp hd fuel 23 cs = some x) : ∃ c r : ByteArray, cs = [.string c, .string r] ∧ c.size ≤ maxLen ∧ r.size ≤ maxLen := by
  obtain ⟨xs, n, rfl, _, hl, hlen, hg⟩ := DataW.trod_struct Tryd.underlying23 h
  match cs, hl.trans cells_LRec with
  | [c0, c1], _ =>
    obtain ⟨n0, e0, k0⟩ := rd_string_at hlen hg 0 _ rfl Tryd.underlying9 cells_string
    obtain ⟨n1, e1, k1⟩ := rd_string_at hlen hg 1 _ rfl Tryd.underlying9 cells_string
    simp at e0 e1
    subst e0 e1
    exact ⟨n0, n1, rfl, k0, k1⟩
theorem cells_LogT : Tryd.prog.cellsOf 36 = 3 := by kernel_rfl
set_option maxRecDepth 100000 in
theorem rd_Log (h : DataW.trod enc Tryd.prog w base sp hd fuel 36 cs = some x) : ∃ (d p : ByteArray) (n : Int), cs = [.string d, .string p, .int .i64 n] ∧ d.size ≤ maxLen ∧ p.size ≤ maxLen := by
  obtain ⟨xs, n, rfl, _, hl, hlen, hg⟩ := DataW.trod_struct Tryd.underlying36 h
  match cs, hl.trans cells_LogT with
  | [c0, c1, c2], _ =>
    obtain ⟨n0, e0, k0⟩ := rd_string_at hlen hg 0 _ rfl Tryd.underlying9 cells_string
    obtain ⟨n1, e1, k1⟩ := rd_string_at hlen hg 1 _ rfl Tryd.underlying9 cells_string
    obtain ⟨n2, e2⟩ := rd_int_at hlen hg 2 _ rfl Tryd.underlying3 cells_int
    simp at e0 e1 e2
    subst e0 e1 e2
    exact ⟨n0, n1, n2, rfl, k0, k1⟩
end
end Go.Proofs.YtpejnfhenpdobaaDoor
