/- The law of AfterWorkingDays: the program's answer is the reference's, for every day and every number. -/
import Derived.Test.YtdimhbolckbjdaaDays
import Derived.Test.YtdimhbolckbjdaaRead
namespace Go.Proofs.Ytdimhbolckbjdaa
open Go.RowKit Go.G9
theorem awdOut.tup {d n : Int} {v : Value} (h : awdOut d n v) : ∃ (x : Int) (b : Bool), v = .tuple #[.int .i64 x, .bool b] := by
  rcases h with ⟨_, rfl⟩ | ⟨_, _, k, _, rfl⟩
  · exact ⟨_, _, rfl⟩
  · split
    · exact ⟨_, _, rfl⟩
    · exact ⟨_, _, rfl⟩
theorem lawAfterWorkingDays (d n : Int) (w : World) :
  Calls Try.prog 3 #[.int .i64 d, .int .i64 n] w fun e w' => e = .returned (.bool true) ∧ Below w.heap.size w w' := by
  go_enter Try.func3, Try.ntmps3
  go_wp2_with fail
  refine (sAfterWorkingDays_is d n _).mono ?_
  rintro e w1 ⟨v, rfl, hv, rfl⟩
  obtain ⟨x, b, rfl⟩ := hv.tup
  go_wp2_with fail
  refine (afterWorkingDays_is d n _).mono ?_
  rintro e w2 ⟨v', rfl, hv', rfl⟩
  obtain rfl := hv.uniq hv'
  clear hv hv'
  go_wp2
  go_ret
  exact ⟨rfl, Below.refl _ _⟩
open Go.ChangeShapes Go.WideShapes Go.ChangeAt Go.Deep
set_option maxRecDepth 100000 in
theorem afterWorkingDays_lifted (os : Os) (started : os.Started) (H : Type) (enc : TypeId × Value → H) :
    ReturnsInHanded {} Try.checked os 3 .any (Rows.fnExactAfterWorkingDaysSpec.pre6 enc Try.prog Try.f3 Rows.fnExactAfterWorkingDaysRow.domain false) (Rows.fnExactAfterWorkingDaysSpec.post enc Try.prog Try.f3 false true false false) := by
  refine law_lift (C := Try.checked) (rt := 4) prog_own started (by kernel_rfl) Try.func3
    (ChangeSpec.witness6 (enc := enc) (C := Try.checked) false ⟨#[], #[.int .i64 0,  .int .i64 0], []⟩ 8 (by kernel_rfl) (by kernel_rfl) (by kernel_rfl) (by kernel_rfl))
    prog_laid (by rw [Try.params3]; intro t ht; simp at ht; rcases ht with rfl | rfl; all_goals exact ⟨by kernel_rfl, of_decide_eq_true (by kernel_rfl)⟩) rfl Try.underlying4 rfl
    (by rw [Try.params3]; intro l hl; match l, hl with | [d0, d1], _ => rfl) ?_
  intro W base args ds p hval hA
  rw [Try.params3] at hA hval
  obtain ⟨v0, v1, d0, d1, p0, p1, rfl, rfl, rfl, h0, h1⟩ := trodAll_two hA
  obtain ⟨d, rfl, rfl, rfl, wd⟩ := open_int Try.underlying3 (hval 0 3 v0 rfl rfl) h0
  obtain ⟨n, rfl, rfl, rfl, wn⟩ := open_int Try.underlying3 (hval 1 3 v1 rfl rfl) h1
  exact lawAfterWorkingDays d n W
theorem afterWorkingDays_holds : Rows.FnExactAfterWorkingDaysSaid :=
  OpenClaim.holds_of_wide 3 Try.f3 rfl rfl rfl rfl rfl rfl rfl ⟨rfl, rfl, rfl, rfl, rfl⟩ rfl rfl rfl rfl rfl (by kernel_rfl) Try.func3 (by kernel_rfl)
    (of_decide_eq_true (by kernel_rfl)) (by unfold Func.isWrapper; rw [if_neg (of_decide_eq_false (by kernel_rfl))]; exact ⟨rfl, rfl⟩)
    (fun os started H enc _ => afterWorkingDays_lifted os started H enc)
#print axioms afterWorkingDays_holds
end Go.Proofs.Ytdimhbolckbjdaa
