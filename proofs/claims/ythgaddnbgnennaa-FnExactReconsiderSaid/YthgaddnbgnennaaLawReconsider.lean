/- The law of Reconsider: the program's answer is the reference's, for all arguments. -/
import Derived.Test.YthgaddnbgnennaaRel
import Derived.Test.YthgaddnbgnennaaRead
namespace Go.Proofs.Ythgaddnbgnennaa
open Go.RowKit Go.G9
open Go.ChangeShapes Go.WideShapes Go.ChangeAt Go.Deep
set_option maxRecDepth 100000 in
theorem reconsider_lifted (os : Os) (started : os.Started) (H : Type) (enc : TypeId × Value → H) :
    ReturnsInHanded {} Try.checked os 4 .any (Rows.fnExactReconsiderSpec.pre6 enc Try.prog Try.f4 Rows.fnExactReconsiderRow.domain false) (Rows.fnExactReconsiderSpec.post enc Try.prog Try.f4 false true false false) := by
  refine law_lift (C := Try.checked) (rt := 4) prog_own started (by kernel_rfl) Try.func4
    (ChangeSpec.witness6 (enc := enc) (C := Try.checked) false ⟨#[], #[.agg #[.int .i64 0, .int .i64 0, .int .i64 0, .slice none 0 0, .slice none 0 0, .bool false],  .slice none 0 0,  .slice none 0 0], []⟩ 8 (by kernel_rfl) (by kernel_rfl) (by kernel_rfl) (by kernel_rfl))
    prog_laid (by rw [Try.params4]; intro t ht; simp at ht; rcases ht with rfl | rfl | rfl; all_goals exact ⟨by kernel_rfl, of_decide_eq_true (by kernel_rfl)⟩) rfl Try.underlying4 rfl
    (by rw [Try.params4]; intro l hl; match l, hl with | [d0, d1, d2], _ => rfl) ?_
  intro W base args ds p hval hA
  rw [Try.params4] at hA hval
  obtain ⟨v0, v1, v2, d0, d1, d2, p0, p1, p2, rfl, rfl, rfl, h0, h1, h2⟩ := trodAll_three hA
  obtain ⟨cs_0, rfl, _⟩ := okWide_struct Try.underlying24 (hval 0 24 v0 rfl rfl)
  obtain ⟨fuel_0, f_0⟩ := h0
  obtain ⟨d, Y, N, yc, nc, e_0, l3, l4, R3, R4, _, _⟩ := rd_Dec f_0
  rw [agg_of_list (cs := cs_0) e_0]
  obtain ⟨a_es, len_es, cap_es, rfl⟩ := okWide_slice Try.underlying22 (hval 1 22 v1 rfl rfl)
  obtain ⟨fuel_es, f_es⟩ := h1
  obtain ⟨A_es, c_es, es, e_es, l_es, R_es⟩ := rd_slice intC 1 (by decide) Try.underlying22 cells_int (fun _ _ _ h => rd_Int h) f_es
  simp [Value.cells] at e_es
  obtain ⟨rfl, rfl, rfl⟩ := e_es
  obtain ⟨a_fs, len_fs, cap_fs, rfl⟩ := okWide_slice Try.underlying22 (hval 2 22 v2 rfl rfl)
  obtain ⟨fuel_fs, f_fs⟩ := h2
  obtain ⟨A_fs, c_fs, fs, e_fs, l_fs, R_fs⟩ := rd_slice intC 1 (by decide) Try.underlying22 cells_int (fun _ _ _ h => rd_Int h) f_fs
  simp [Value.cells] at e_fs
  obtain ⟨rfl, rfl, rfl⟩ := e_fs
  exact law_reconsider d Y N yc nc l3 l4 _ _ es l_es _ _ fs l_fs W R3 R4 R_es R_fs
theorem reconsider_holds : Rows.FnExactReconsiderSaid :=
  OpenClaim.holds_of_wide 4 Try.f4 rfl rfl rfl rfl rfl rfl rfl ⟨rfl, rfl, rfl, rfl, rfl⟩ rfl rfl rfl rfl rfl (by kernel_rfl) Try.func4 (by kernel_rfl)
    (of_decide_eq_true (by kernel_rfl)) (by unfold Func.isWrapper; rw [if_neg (of_decide_eq_false (by kernel_rfl))]; exact ⟨rfl, rfl⟩)
    (fun os started H enc _ => reconsider_lifted os started H enc)
#print axioms reconsider_holds
end Go.Proofs.Ythgaddnbgnennaa
