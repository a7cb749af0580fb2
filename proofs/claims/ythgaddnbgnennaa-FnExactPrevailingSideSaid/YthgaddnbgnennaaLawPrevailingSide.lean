/- The law of PrevailingSide. -/
import Derived.Test.YthgaddnbgnennaaPsl
import Derived.Test.YthgaddnbgnennaaRead
namespace Go.Proofs.Ythgaddnbgnennaa
open Go.RowKit Go.G9
open Go.ChangeShapes Go.WideShapes Go.ChangeAt Go.Deep
set_option maxRecDepth 100000 in
theorem prevailingSide_lifted (os : Os) (started : os.Started) (H : Type) (enc : TypeId × Value → H) :
    ReturnsInHanded {} Try.checked os 7 .any (Rows.fnExactPrevailingSideSpec.pre6 enc Try.prog Try.f7 Rows.fnExactPrevailingSideRow.domain false) (Rows.fnExactPrevailingSideSpec.post enc Try.prog Try.f7 false true false false) := by
  refine law_lift (C := Try.checked) (rt := 4) prog_own started (by kernel_rfl) Try.func7
    (ChangeSpec.witness6 (enc := enc) (C := Try.checked) false ⟨#[], #[.agg #[.int .i64 0, .int .i64 0, .int .i64 0, .slice none 0 0, .slice none 0 0, .bool false]], []⟩ 8 (by kernel_rfl) (by kernel_rfl) (by kernel_rfl) (by kernel_rfl))
    prog_laid (by rw [Try.params7]; intro t ht; simp at ht; rcases ht with rfl; all_goals exact ⟨by kernel_rfl, of_decide_eq_true (by kernel_rfl)⟩) rfl Try.underlying4 rfl
    (by rw [Try.params7]; intro l hl; match l, hl with | [d0], _ => rfl) ?_
  intro W base args ds p hval hA
  rw [Try.params7] at hA hval
  obtain ⟨v0, d0, rfl, rfl, h0⟩ := trodAll_one hA
  obtain ⟨cs_0, rfl, _⟩ := okWide_struct Try.underlying24 (hval 0 24 v0 rfl rfl)
  obtain ⟨fuel_0, f_0⟩ := h0
  obtain ⟨d, Y, N, yc, nc, e_0, l3, l4, R3, R4, _, _⟩ := rd_Dec f_0
  rw [agg_of_list (cs := cs_0) e_0]
  exact law_prevailingSide d Y N yc nc l3 l4 W R3 R4
theorem prevailingSide_holds : Rows.FnExactPrevailingSideSaid :=
  OpenClaim.holds_of_wide 7 Try.f7 rfl rfl rfl rfl rfl rfl rfl ⟨rfl, rfl, rfl, rfl, rfl⟩ rfl rfl rfl rfl rfl (by kernel_rfl) Try.func7 (by kernel_rfl)
    (of_decide_eq_true (by kernel_rfl)) (by unfold Func.isWrapper; rw [if_neg (of_decide_eq_false (by kernel_rfl))]; exact ⟨rfl, rfl⟩)
    (fun os started H enc _ => prevailingSide_lifted os started H enc)
#print axioms prevailingSide_holds
end Go.Proofs.Ythgaddnbgnennaa
