/- The law of reconsidered questions. -/
import Derived.Test.YthgaddnbgnennaaRc
namespace Go.Proofs.Ythgaddnbgnennaa
open Go.ChangeShapes Go.WideShapes Go.ChangeAt Go.RowKit Go.G9
set_option maxRecDepth 100000 in
theorem reconsidered_lifted (os : Os) (started : os.Started) (H : Type) (enc : TypeId × Value → H) :
    ReturnsInHanded {} Try.checked os 10 .any (Rows.fnReconsideredSpec.pre6 enc Try.prog Try.f10 Rows.fnReconsideredRow.domain false) (Rows.fnReconsideredSpec.post enc Try.prog Try.f10 false true false false) := by
  refine law_lift (C := Try.checked) (rt := 4) prog_own started (by kernel_rfl) Try.func10
    (ChangeSpec.witness6 (enc := enc) (C := Try.checked) false ⟨#[], #[.slice none 0 0], []⟩ 8 (by kernel_rfl) (by kernel_rfl) (by kernel_rfl) (by kernel_rfl))
    prog_laid (by rw [Try.params10]; intro t ht; simp at ht; rcases ht with rfl; all_goals exact ⟨by kernel_rfl, of_decide_eq_true (by kernel_rfl)⟩) rfl Try.underlying4 rfl
    (by rw [Try.params10]; intro l hl; match l, hl with | [d0], _ => rfl) ?_
  intro W base args ds p hval hA
  rw [Try.params10] at hA hval
  obtain ⟨v0, d0, rfl, rfl, h0⟩ := trodAll_one hA
  obtain ⟨a_cs, len_cs, cap_cs, rfl⟩ := okWide_slice Try.underlying59 (hval 0 59 v0 rfl rfl)
  obtain ⟨fuel_cs, f_cs⟩ := h0
  obtain ⟨A_cs, c_cs, cs, e_cs, l_cs, R_cs⟩ := rd_slice u8C 1 (by decide) Try.underlying59 cells_u8 (fun _ _ _ h => rd_u8 h) f_cs
  simp [Value.cells] at e_cs
  obtain ⟨rfl, rfl, rfl⟩ := e_cs
  exact law_reconsidered _ _ cs W R_cs
theorem reconsidered_holds : Rows.FnReconsideredSaid :=
  OpenClaim.holds_of_wide 10 Try.f10 rfl rfl rfl rfl rfl rfl rfl ⟨rfl, rfl, rfl, rfl, rfl⟩ rfl rfl rfl rfl rfl (by kernel_rfl) Try.func10 (by kernel_rfl)
    (of_decide_eq_true (by kernel_rfl)) (by unfold Func.isWrapper; rw [if_neg (of_decide_eq_false (by kernel_rfl))]; exact ⟨rfl, rfl⟩)
    (fun os started H enc _ => reconsidered_lifted os started H enc)
#print axioms reconsidered_holds
end Go.Proofs.Ythgaddnbgnennaa
