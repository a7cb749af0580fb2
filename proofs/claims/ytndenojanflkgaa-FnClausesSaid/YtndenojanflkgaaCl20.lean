/- What the inputs of the laws read as: the reader of each struct, over this program. -/
import Derived.Test.YtndenojanflkgaaCl5
import Derived.Test.YtndenojanflkgaaCl6
import Derived.Test.YtndenojanflkgaaRows
import Derived.Test.YtndenojanflkgaaCl7
import Derived.Test.YtndenojanflkgaaCl19
namespace Go.Proofs.Ytndenojanflkgaa
open Go.ChangeShapes Go.WideShapes Go.ChangeAt Go.RowKit Go.Deep Go.G9
theorem prog_own : ownKnob Try.prog.godebug = none := by kernel_rfl
theorem prog_laid : laidOutB Try.prog = true := by kernel_rfl
theorem cells_int : Try.prog.cellsOf 3 = 1 := by kernel_rfl
theorem cells_string : Try.prog.cellsOf 9 = 1 := by kernel_rfl
theorem cells_bool : Try.prog.cellsOf 4 = 1 := by kernel_rfl
section
variable {H : Type} {enc : TypeId × Value → H} {w : World} {base : Nat} {sp : Nat → Bool} {hd : Bool} {fuel : Nat} {cs : List Value} {x : DataW H × List MemPlace}
theorem rd_Int (h : DataW.trod enc Try.prog w base sp hd fuel 3 cs = some x) : ∃ y : Int, cs = intC y := by
  obtain ⟨n, rfl, _, _⟩ := DataW.trod_int Try.underlying3 h
  exact ⟨n, rfl⟩
end
end Go.Proofs.Ytndenojanflkgaa
/- Bytes that come in. -/
namespace Go.Proofs.Ytndenojanflkgaa
open Go.RowKit Go.G9 Go.ChangeShapes Go.WideShapes Go.ChangeAt
variable {H : Type} {enc : TypeId × Value → H} {w : World} {base fuel : Nat} {sp : Nat → Bool} {hd : Bool} {cs : List Value} {x : DataW H × List MemPlace}
theorem cells_u8 : Try.prog.cellsOf 5 = 1 := by kernel_rfl
theorem rd_u8 (h : DataW.trod enc Try.prog w base sp hd fuel 5 cs = some x) : ∃ y : UInt8, cs = u8C y := by
  obtain ⟨n, rfl, h1, h2⟩ := DataW.trod_int Try.underlying5 h
  unfold Lit.wf at h2
  rw [Bool.and_eq_true, decide_eq_true_eq, decide_eq_true_eq] at h2
  have m1 : IntKind.u8.min = 0 := by decide
  have m2 : IntKind.u8.max = 255 := by decide
  have h3 : 0 ≤ n ∧ n ≤ 255 := by
    rw [m1, m2] at h2
    omega
  refine ⟨UInt8.ofNat n.toNat, ?_⟩
  show [Value.int .u8 n] = [Value.int .u8 ((UInt8.ofNat n.toNat).toNat : Int)]
  have e : ((UInt8.ofNat n.toNat).toNat : Int) = n := by
    rw [UInt8.toNat_ofNat']
    omega
  rw [e]
end Go.Proofs.Ytndenojanflkgaa
/- The law of clauses: a clause stands exactly if it and all on which it depends are adopted. -/
namespace Go.Proofs.Ytndenojanflkgaa
open Go.ChangeShapes Go.WideShapes Go.ChangeAt Go.RowKit Go.G9
set_option maxRecDepth 100000 in
theorem clauses_lifted (os : Os) (started : os.Started) (H : Type) (enc : TypeId × Value → H) :
    ReturnsInHanded {} Try.checked os 3 .any (Rows.fnClausesSpec.pre6 enc Try.prog Try.f3 Rows.fnClausesRow.domain false) (Rows.fnClausesSpec.post enc Try.prog Try.f3 false true false false) := by
  refine law_lift (C := Try.checked) (rt := 4) prog_own started (by kernel_rfl) Try.func3
    (ChangeSpec.witness6 (enc := enc) (C := Try.checked) false ⟨#[], #[.slice none 0 0], []⟩ 8 (by kernel_rfl) (by kernel_rfl) (by kernel_rfl) (by kernel_rfl))
    prog_laid (by rw [Try.params3]; intro t ht; simp at ht; rcases ht with rfl; all_goals exact ⟨by kernel_rfl, of_decide_eq_true (by kernel_rfl)⟩) rfl Try.underlying4 rfl
    (by rw [Try.params3]; intro l hl; match l, hl with | [d0], _ => rfl) ?_
  intro W base args ds p hval hA
  rw [Try.params3] at hA hval
  obtain ⟨v0, d0, rfl, rfl, h0⟩ := trodAll_one hA
  obtain ⟨a_cs, len_cs, cap_cs, rfl⟩ := okWide_slice Try.underlying22 (hval 0 22 v0 rfl rfl)
  obtain ⟨fuel_cs, f_cs⟩ := h0
  obtain ⟨A_cs, c_cs, cs, e_cs, l_cs, R_cs⟩ := rd_slice u8C 1 (by decide) Try.underlying22 cells_u8 (fun _ _ _ h => rd_u8 h) f_cs
  simp [Value.cells] at e_cs
  obtain ⟨rfl, rfl, rfl⟩ := e_cs
  exact law_clauses _ _ cs W R_cs
theorem clauses_holds : Rows.FnClausesSaid :=
  OpenClaim.holds_of_wide 3 Try.f3 rfl rfl rfl rfl rfl rfl rfl ⟨rfl, rfl, rfl, rfl, rfl⟩ rfl rfl rfl rfl rfl (by kernel_rfl) Try.func3 (by kernel_rfl)
    (of_decide_eq_true (by kernel_rfl)) (by unfold Func.isWrapper; rw [if_neg (of_decide_eq_false (by kernel_rfl))]; exact ⟨rfl, rfl⟩)
    (fun os started H enc _ => clauses_lifted os started H enc)
#print axioms clauses_holds
end Go.Proofs.Ytndenojanflkgaa
