/- The law of FirstMeeting: the program's answer is the reference's, and the argument is left as it was. -/
import Derived.Test.YtdimhbolckbjdaaNt3
import Derived.Test.YtdimhbolckbjdaaRead
namespace Go.Proofs.Ytdimhbolckbjdaa
open Go.RowKit Go.G9
set_option maxHeartbeats 1000000 in
theorem law_firstMeeting (A : Option Addr) (c : Nat) (xs : List Ntc) (hn : xs.length ≤ maxLen) (w : World) (hR : Rds 4 Ntc.cells w A xs) :
  Calls Try.prog 8 #[.slice A xs.length c] w fun e w' => e = .returned (.bool true) ∧ Below w.heap.size w w' := by
  obtain ⟨a, b, hv⟩ := fmOut_form xs
  have HV := Lib.hid hv; clear hv
  go_enter Try.func8, Try.ntmps8
  go_wp2_with fail
  refine (szNoticeS_is A c xs hn _ (by omega) (by omega) _ hR).mono ?_
  rintro e w1 ⟨r, rfl, _, _, hr, hb1⟩
  by_cases h0 : r < 0
  · go_wp2
    go_ret
    exact ⟨rfl, hb1⟩
  · have hn' : xs.length ≤ 1048576 := by omega
    clear hr
    go_wp2_with fail
    refine (toNoticeS_is A c xs hn' _ (hR.below hb1)).mono ?_
    rintro e w2 ⟨A2, rfl, hO2, hb2⟩
    have hb2' := bth hb1 hb2
    go_wp2_with fail
    refine (sFirstMeeting_is A2 _ xs hn' _ HV.out _ hO2.rds).mono ?_
    rintro e w3 ⟨rfl, hb3⟩
    have hb3' := bth hb2' hb3
    go_wp2_with fail
    refine (toNoticeS_is A c xs hn' _ (hR.below hb3')).mono ?_
    rintro e w4 ⟨A4, rfl, hO4, hb4⟩
    have hb4' := bth hb3' hb4
    go_wp2_with fail
    refine (firstMeeting_is A4 _ xs hn' _ HV.out _ hO4.rds).mono ?_
    rintro e w5 ⟨rfl, hb5⟩
    have hb5' := bth hb4' hb5
    go_wp2_with fail
    refine (toNoticeS_is A c xs hn' _ (hR.below hb5')).mono ?_
    rintro e w6 ⟨A6, rfl, hO6, hb6⟩
    have hb6' := bth hb5' hb6
    go_wp2_with fail
    refine (eqNoticeS_is A4 A6 _ _ xs hn' _ ((hO4.rds.below hb5).below hb6) hO6.rds).mono ?_
    rintro e w7 ⟨rfl, hb7⟩
    go_wp2
    go_ret
    exact ⟨rfl, bth hb6' hb7⟩
open Go.ChangeShapes Go.WideShapes Go.ChangeAt Go.Deep
set_option maxRecDepth 100000 in
theorem firstMeeting_lifted (os : Os) (started : os.Started) (H : Type) (enc : TypeId × Value → H) :
    ReturnsInHanded {} Try.checked os 8 .any (Rows.fnExactFirstMeetingSpec.pre6 enc Try.prog Try.f8 Rows.fnExactFirstMeetingRow.domain false) (Rows.fnExactFirstMeetingSpec.post enc Try.prog Try.f8 false true false false) := by
  refine law_lift (C := Try.checked) (rt := 4) prog_own started (by kernel_rfl) Try.func8
    (ChangeSpec.witness6 (enc := enc) (C := Try.checked) false ⟨#[], #[.slice none 0 0], []⟩ 8 (by kernel_rfl) (by kernel_rfl) (by kernel_rfl) (by kernel_rfl))
    prog_laid (by rw [Try.params8]; intro t ht; simp at ht; rcases ht with rfl; all_goals exact ⟨by kernel_rfl, of_decide_eq_true (by kernel_rfl)⟩) rfl Try.underlying4 rfl
    (by rw [Try.params8]; intro l hl; match l, hl with | [d0], _ => rfl) ?_
  intro W base args ds p hval hA
  rw [Try.params8] at hA hval
  obtain ⟨v0, d0, rfl, rfl, h0⟩ := trodAll_one hA
  obtain ⟨a_xs, len_xs, cap_xs, rfl⟩ := okWide_slice Try.underlying25 (hval 0 25 v0 rfl rfl)
  obtain ⟨fuel_xs, f_xs⟩ := h0
  obtain ⟨A_xs, c_xs, xs, e_xs, l_xs, R_xs⟩ := rd_slice Ntc.cells 4 (by decide) Try.underlying25 cells_Ntc (fun _ _ _ h => rd_Ntc h) f_xs
  simp [Value.cells] at e_xs
  obtain ⟨rfl, rfl, rfl⟩ := e_xs
  exact law_firstMeeting _ _ xs l_xs W R_xs
theorem firstMeeting_holds : Rows.FnExactFirstMeetingSaid :=
  OpenClaim.holds_of_wide 8 Try.f8 rfl rfl rfl rfl rfl rfl rfl ⟨rfl, rfl, rfl, rfl, rfl⟩ rfl rfl rfl rfl rfl (by kernel_rfl) Try.func8 (by kernel_rfl)
    (of_decide_eq_true (by kernel_rfl)) (by unfold Func.isWrapper; rw [if_neg (of_decide_eq_false (by kernel_rfl))]; exact ⟨rfl, rfl⟩)
    (fun os started H enc _ => firstMeeting_lifted os started H enc)
#print axioms firstMeeting_holds
end Go.Proofs.Ytdimhbolckbjdaa
