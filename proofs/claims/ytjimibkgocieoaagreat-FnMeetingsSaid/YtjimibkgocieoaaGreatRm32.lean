/- The law of meetings: a meeting stays valid with every act, and no motion is adopted without the vote that its rule needs. -/
import Derived.Test.YtjimibkgocieoaaGreatRm30
import Derived.Test.YtjimibkgocieoaaGreatRm31
import Derived.Test.YtjimibkgocieoaaGreatRm0
set_option maxHeartbeats 16000000
set_option maxRecDepth 100000
namespace Go.Proofs.YtjimibkgocieoaaGreat
open Go.ChangeShapes Go.WideShapes Go.ChangeAt Go.RowKit Go.G9
theorem meetings_lifted (os : Os) (started : os.Started) (H : Type) (enc : TypeId × Value → H) :
  ReturnsInHanded {} Tryz.checked os 3 .any (Rows.fnMeetingsSpec.pre6 enc Tryz.prog Tryz.f3 Rows.fnMeetingsRow.domain false) (Rows.fnMeetingsSpec.post enc Tryz.prog Tryz.f3 false true false false) := by
 refine law_lift (C := Tryz.checked) (rt := 4) prog_own started (by kernel_rfl) Tryz.func3
  (ChangeSpec.witness6 (enc := enc) (C := Tryz.checked) false ⟨#[], #[.slice none 0 0], []⟩ 8 (by kernel_rfl) (by kernel_rfl) (by kernel_rfl) (by kernel_rfl))
  prog_laid (by rw [Tryz.params3]; intro t ht; simp at ht; rcases ht with rfl; all_goals exact ⟨by kernel_rfl, of_decide_eq_true (by kernel_rfl)⟩) rfl Tryz.underlying4 rfl
  (by rw [Tryz.params3]; intro l hl; match l, hl with | [d0], _ => rfl) ?_
 intro W base args ds p hval hA
 rw [Tryz.params3] at hA hval
 obtain ⟨v0, d0, rfl, rfl, h0⟩ := trodAll_one hA
 obtain ⟨a_cs, len_cs, cap_cs, rfl⟩ := okWide_slice Tryz.underlying22 (hval 0 22 v0 rfl rfl)
 obtain ⟨fuel_cs, f_cs⟩ := h0
 obtain ⟨A_cs, c_cs, cs, e_cs, l_cs, R_cs⟩ := rd_slice u8C 1 (by decide) Tryz.underlying22 cells_u8 (fun _ _ _ h => rd_u8 h) f_cs
 simp [Value.cells] at e_cs
 obtain ⟨rfl, rfl, rfl⟩ := e_cs
 exact law_meetings _ _ cs W R_cs
theorem meetings_holds : Rows.FnMeetingsSaid :=
 OpenClaim.holds_of_wide 3 Tryz.f3 rfl rfl rfl rfl rfl rfl rfl ⟨rfl, rfl, rfl, rfl, rfl⟩ rfl rfl rfl rfl rfl (by kernel_rfl) Tryz.func3 (by kernel_rfl)
  (of_decide_eq_true (by kernel_rfl)) (by unfold Func.isWrapper; rw [if_neg (of_decide_eq_false (by kernel_rfl))]; exact ⟨rfl, rfl⟩)
  (fun os started H enc _ => meetings_lifted os started H enc)
#print axioms meetings_holds
end Go.Proofs.YtjimibkgocieoaaGreat
