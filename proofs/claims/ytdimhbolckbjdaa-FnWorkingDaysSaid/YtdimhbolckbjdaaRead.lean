/- What the inputs of the laws read as: the reader of each struct, over this program. -/
import Derived.Test.YtdimhbolckbjdaaNtc
import Derived.Test.YtdimhbolckbjdaaRes
import Derived.Test.YtdimhbolckbjdaaDec2
import Derived.Test.YtdimhbolckbjdaaOpen
import Derived.Test.YtdimhbolckbjdaaRows
namespace Go.Proofs.Ytdimhbolckbjdaa
open Go.ChangeShapes Go.WideShapes Go.ChangeAt Go.RowKit Go.Deep Go.G9
theorem prog_own : ownKnob Try.prog.godebug = none := by kernel_rfl
theorem prog_laid : laidOutB Try.prog = true := by kernel_rfl
theorem cells_int : Try.prog.cellsOf 3 = 1 := by kernel_rfl
theorem cells_string : Try.prog.cellsOf 9 = 1 := by kernel_rfl
theorem cells_bool : Try.prog.cellsOf 4 = 1 := by kernel_rfl
section
variable {H : Type} {enc : TypeId × Value → H} {w : World} {base : Nat} {sp : Nat → Bool} {hd : Bool} {fuel : Nat} {cs : List Value} {x : DataW H × List MemPlace}
theorem cells_Ntc : Try.prog.cellsOf 94 = 4 := by kernel_rfl
set_option maxRecDepth 100000 in
theorem rd_Ntc (h : DataW.trod enc Try.prog w base sp hd fuel 94 cs = some x) : ∃ y : Ntc, cs = y.cells := by
  obtain ⟨xs, n, rfl, _, hl, hlen, hg⟩ := DataW.trod_struct Try.underlying94 h
  match cs, hl.trans cells_Ntc with
  | [c0, c1, c2, c3], _ =>
    obtain ⟨n0, e0⟩ := rd_int_at hlen hg 0 _ rfl Try.underlying3 cells_int
    obtain ⟨n1, e1, k1⟩ := rd_string_at hlen hg 1 _ rfl Try.underlying9 cells_string
    obtain ⟨n2, e2⟩ := rd_int_at hlen hg 2 _ rfl Try.underlying3 cells_int
    obtain ⟨n3, e3⟩ := rd_int_at hlen hg 3 _ rfl Try.underlying3 cells_int
    exact ⟨⟨n0, n1, n2, n3, k1⟩, by simp_all [Ntc.cells]⟩
theorem cells_Res : Try.prog.cellsOf 103 = 5 := by kernel_rfl
theorem cells_Tally : Try.prog.cellsOf 101 = 3 := by kernel_rfl
set_option maxRecDepth 100000 in
theorem rd_Res (h : DataW.trod enc Try.prog w base sp hd fuel 103 cs = some x) : ∃ y : Res, cs = y.cells := by
  obtain ⟨xs, n, rfl, _, hl, hlen, hg⟩ := DataW.trod_struct Try.underlying103 h
  match cs, hl.trans cells_Res with
  | [c0, c1, c2, c3, c4], _ =>
    obtain ⟨n0, e0, k0⟩ := rd_string_at hlen hg 0 _ rfl Try.underlying9 cells_string
    obtain ⟨n1, e1⟩ := rd_int_at hlen hg 1 _ rfl Try.underlying3 cells_int
    obtain ⟨_, h2'⟩ := rd_sub_at hlen hg 2 _ rfl cells_Tally
    obtain ⟨xs', n', rfl, _, hl', hlen', hg'⟩ := DataW.trod_struct Try.underlying101 h2'
    obtain ⟨n2, e2⟩ := rd_int_at hlen' hg' 0 _ rfl Try.underlying3 cells_int
    obtain ⟨n3, e3⟩ := rd_int_at hlen' hg' 1 _ rfl Try.underlying3 cells_int
    obtain ⟨n4, e4⟩ := rd_int_at hlen' hg' 2 _ rfl Try.underlying3 cells_int
    simp at e0 e1 e2 e3 e4
    exact ⟨⟨n0, n1, n2, n3, n4, k0⟩, by simp_all [Res.cells]⟩
theorem rd_Int (h : DataW.trod enc Try.prog w base sp hd fuel 3 cs = some x) : ∃ y : Int, cs = intC y := by
  obtain ⟨n, rfl, _, _⟩ := DataW.trod_int Try.underlying3 h
  exact ⟨n, rfl⟩
theorem cells_Dec : Try.prog.cellsOf 48 = 6 := by kernel_rfl
theorem cells_ints : Try.prog.cellsOf 46 = 1 := by kernel_rfl
set_option maxRecDepth 100000 in
theorem rd_Dec (h : DataW.trod enc Try.prog w base sp hd fuel 48 cs = some x) : ∃ (d : Dec) (Y N : Option Addr) (yc nc : Nat),
    cs = [.int .i64 d.id, .int .i64 d.day, .int .i64 d.need, .slice Y d.yes.length yc, .slice N d.no.length nc, .bool d.done] ∧ d.yes.length ≤ maxLen ∧ d.no.length ≤ maxLen ∧ Rds 1 intC w Y d.yes ∧ Rds 1 intC w N d.no ∧ (Y = none → d.yes = [] ∧ yc = 0) ∧ (N = none → d.no = [] ∧ nc = 0) := by
  obtain ⟨xs, n, rfl, _, hl, hlen, hg⟩ := DataW.trod_struct Try.underlying48 h
  match cs, hl.trans cells_Dec with
  | [c0, c1, c2, c3, c4, c5], _ =>
    obtain ⟨n0, e0⟩ := rd_int_at hlen hg 0 _ rfl Try.underlying3 cells_int
    obtain ⟨n1, e1⟩ := rd_int_at hlen hg 1 _ rfl Try.underlying3 cells_int
    obtain ⟨n2, e2⟩ := rd_int_at hlen hg 2 _ rfl Try.underlying3 cells_int
    obtain ⟨_, h3⟩ := rd_sub_at hlen hg 3 _ rfl cells_ints
    obtain ⟨_, h4⟩ := rd_sub_at hlen hg 4 _ rfl cells_ints
    obtain ⟨n5, e5⟩ := rd_bool_at hlen hg 5 _ rfl Try.underlying4 cells_bool
    obtain ⟨Y, yc, ys, e3, l3, R3, N3⟩ := rd_slicen intC 1 (by decide) Try.underlying46 cells_int (fun _ _ _ h => rd_Int h) h3
    obtain ⟨N, nc, ns, e4, l4, R4, N4⟩ := rd_slicen intC 1 (by decide) Try.underlying46 cells_int (fun _ _ _ h => rd_Int h) h4
    simp at e0 e1 e2 e3 e4 e5
    subst e0 e1 e2 e3 e4 e5
    exact ⟨⟨n0, n1, n2, ys, ns, n5⟩, Y, N, yc, nc, rfl, l3, l4, R3, R4, N3, N4⟩
theorem cells_LRec : Try.prog.cellsOf 57 = 2 := by kernel_rfl
set_option maxRecDepth 100000 in
theorem rd_LRec (h : DataW.trod enc Try.prog w base sp hd fuel 57 cs = some x) : ∃ c r : ByteArray, cs = [.string c, .string r] ∧ c.size ≤ maxLen ∧ r.size ≤ maxLen := by
  obtain ⟨xs, n, rfl, _, hl, hlen, hg⟩ := DataW.trod_struct Try.underlying57 h
  match cs, hl.trans cells_LRec with
  | [c0, c1], _ =>
    obtain ⟨n0, e0, k0⟩ := rd_string_at hlen hg 0 _ rfl Try.underlying9 cells_string
    obtain ⟨n1, e1, k1⟩ := rd_string_at hlen hg 1 _ rfl Try.underlying9 cells_string
    simp at e0 e1
    subst e0 e1
    exact ⟨n0, n1, rfl, k0, k1⟩
end
end Go.Proofs.Ytdimhbolckbjdaa
