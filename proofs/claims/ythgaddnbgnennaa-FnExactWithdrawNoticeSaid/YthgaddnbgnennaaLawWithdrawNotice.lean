/- The law of WithdrawNotice: the program's answer is the reference's, for all arguments. -/
import Derived.Test.YthgaddnbgnennaaWnl
import Derived.Test.YthgaddnbgnennaaRead
namespace Go.Proofs.Ythgaddnbgnennaa
open Go.RowKit Go.G9
open Go.ChangeShapes Go.WideShapes Go.ChangeAt Go.Deep
set_option maxRecDepth 100000 in
theorem withdrawNotice_lifted (os : Os) (started : os.Started) (H : Type) (enc : TypeId × Value → H) :
    ReturnsInHanded {} Try.checked os 5 .any (Rows.fnExactWithdrawNoticeSpec.pre6 enc Try.prog Try.f5 Rows.fnExactWithdrawNoticeRow.domain false) (Rows.fnExactWithdrawNoticeSpec.post enc Try.prog Try.f5 false true false false) := by
  refine law_lift (C := Try.checked) (rt := 4) prog_own started (by kernel_rfl) Try.func5
    (ChangeSpec.witness6 (enc := enc) (C := Try.checked) false ⟨#[], #[.slice none 0 0,  .int .i64 0], []⟩ 8 (by kernel_rfl) (by kernel_rfl) (by kernel_rfl) (by kernel_rfl))
    prog_laid (by rw [Try.params5]; intro t ht; simp at ht; rcases ht with rfl | rfl; all_goals exact ⟨by kernel_rfl, of_decide_eq_true (by kernel_rfl)⟩) rfl Try.underlying4 rfl
    (by rw [Try.params5]; intro l hl; match l, hl with | [d0, d1], _ => rfl) ?_
  intro W base args ds p hval hA
  rw [Try.params5] at hA hval
  obtain ⟨v0, v1, d0, d1, p0, p1, rfl, rfl, rfl, h0, h1⟩ := trodAll_two hA
  obtain ⟨a_xs, len_xs, cap_xs, rfl⟩ := okWide_slice Try.underlying39 (hval 0 39 v0 rfl rfl)
  obtain ⟨fuel_xs, f_xs⟩ := h0
  obtain ⟨A_xs, c_xs, xs, e_xs, l_xs, R_xs⟩ := rd_slice Ntc.cells 4 (by decide) Try.underlying39 cells_Ntc (fun _ _ _ h => rd_Ntc h) f_xs
  simp [Value.cells] at e_xs
  obtain ⟨rfl, rfl, rfl⟩ := e_xs
  obtain ⟨id, rfl, rfl, rfl, wid⟩ := open_int Try.underlying3 (hval 1 3 v1 rfl rfl) h1
  exact law_withdrawNotice _ _ xs l_xs id W R_xs
theorem withdrawNotice_holds : Rows.FnExactWithdrawNoticeSaid :=
  OpenClaim.holds_of_wide 5 Try.f5 rfl rfl rfl rfl rfl rfl rfl ⟨rfl, rfl, rfl, rfl, rfl⟩ rfl rfl rfl rfl rfl (by kernel_rfl) Try.func5 (by kernel_rfl)
    (of_decide_eq_true (by kernel_rfl)) (by unfold Func.isWrapper; rw [if_neg (of_decide_eq_false (by kernel_rfl))]; exact ⟨rfl, rfl⟩)
    (fun os started H enc _ => withdrawNotice_lifted os started H enc)
#print axioms withdrawNotice_holds
end Go.Proofs.Ythgaddnbgnennaa
