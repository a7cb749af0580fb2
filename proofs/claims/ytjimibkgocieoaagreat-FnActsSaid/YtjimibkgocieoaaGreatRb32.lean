/- The law of acts: running acts is making the possible ones one after the other, and the outcomes of all members are all outcomes. -/
import Derived.Test.YtjimibkgocieoaaGreatRb31
import Derived.Test.YtjimibkgocieoaaGreatRb0
set_option maxHeartbeats 16000000
set_option maxRecDepth 100000
namespace Go.Proofs.YtjimibkgocieoaaGreat
open Go.ChangeShapes Go.WideShapes Go.ChangeAt Go.RowKit Go.G9
theorem acts_lifted (os : Os) (started : os.Started) (H : Type) (enc : TypeId × Value → H) :
  ReturnsInHanded {} Tryz.checked os 4 .any (Rows.fnActsSpec.pre6 enc Tryz.prog Tryz.f4 Rows.fnActsRow.domain false) (Rows.fnActsSpec.post enc Tryz.prog Tryz.f4 false true false false) := by
 refine law_lift (C := Tryz.checked) (rt := 4) prog_own started (by kernel_rfl) Tryz.func4
  (ChangeSpec.witness6 (enc := enc) (C := Tryz.checked) false ⟨#[], #[.slice none 0 0], []⟩ 8 (by kernel_rfl) (by kernel_rfl) (by kernel_rfl) (by kernel_rfl))
  prog_laid (by rw [Tryz.params4]; intro t ht; simp at ht; rcases ht with rfl; all_goals exact ⟨by kernel_rfl, of_decide_eq_true (by kernel_rfl)⟩) rfl Tryz.underlying4 rfl
  (by rw [Tryz.params4]; intro l hl; match l, hl with | [d0], _ => rfl) ?_
 intro W base args ds p hval hA
 rw [Tryz.params4] at hA hval
 obtain ⟨v0, d0, rfl, rfl, h0⟩ := trodAll_one hA
 obtain ⟨a_cs, len_cs, cap_cs, rfl⟩ := okWide_slice Tryz.underlying22 (hval 0 22 v0 rfl rfl)
 obtain ⟨fuel_cs, f_cs⟩ := h0
 obtain ⟨A_cs, c_cs, cs, e_cs, l_cs, R_cs⟩ := rd_slice u8C 1 (by decide) Tryz.underlying22 cells_u8 (fun _ _ _ h => rd_u8 h) f_cs
 simp [Value.cells] at e_cs
 obtain ⟨rfl, rfl, rfl⟩ := e_cs
 exact law_acts _ _ cs W R_cs
theorem acts_holds : Rows.FnActsSaid :=
 OpenClaim.holds_of_wide 4 Tryz.f4 rfl rfl rfl rfl rfl rfl rfl ⟨rfl, rfl, rfl, rfl, rfl⟩ rfl rfl rfl rfl rfl (by kernel_rfl) Tryz.func4 (by kernel_rfl)
  (of_decide_eq_true (by kernel_rfl)) (by unfold Func.isWrapper; rw [if_neg (of_decide_eq_false (by kernel_rfl))]; exact ⟨rfl, rfl⟩)
  (fun os started H enc _ => acts_lifted os started H enc)
#print axioms acts_holds
end Go.Proofs.YtjimibkgocieoaaGreat
