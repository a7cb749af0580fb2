/- The law of IsValidRecord: the program's answer is the reference's, for every record. -/
import Derived.Test.YtdimhbolckbjdaaRec
import Derived.Test.YtdimhbolckbjdaaRead
namespace Go.Proofs.Ytdimhbolckbjdaa
open Go.RowKit Go.G9
theorem law_isValidRecord (c r : ByteArray) (hc : c.size ≤ maxLen) (hr : r.size ≤ maxLen) (w : World) :
  Calls Try.prog 9 #[.agg #[.string c, .string r]] w fun e w' => e = .returned (.bool true) ∧ Below w.heap.size w w' := by
  go_enter Try.func9, Try.ntmps9
  go_wp2_with fail
  refine (szLogRecord_is c r hc hr 1048576 (by omega) (by omega) _).mono ?_
  rintro e w1 ⟨q, rfl, _, _, hq, hb1⟩
  have hA := Blk.below (Blk.new w 57 #[.string c, .string r]) hb1 (by simp)
  have hb1' := bth (bl1 _ _) hb1
  by_cases h0 : q < 0
  · go_wp2
    go_ret
    exact ⟨rfl, hb1'⟩
  · have hc' : c.size ≤ 1048576 := by omega
    have hr' : r.size ≤ 1048576 := by omega
    clear hq
    have a0 := hA.cell 0
    have a1 := hA.cell 1
    simp at a0 a1
    go_wp2_with fail
    refine (toLogRecord_is c r _).mono ?_
    rintro e w2 ⟨rfl, hb2⟩
    have hA2 := hA.below hb2 hA.lt
    go_wp2_with fail
    refine (sIsValidRecord_is c r (by omega) (by omega) _ rfl _).mono ?_
    rintro e w3 ⟨rfl, hb3⟩
    have hA3 := hA2.below hb3 hA2.lt
    clear a0 a1
    have a0 := hA3.cell 0
    have a1 := hA3.cell 1
    simp at a0 a1
    go_wp2_with fail
    refine (toLogRecord_is c r _).mono ?_
    rintro e w4 ⟨rfl, hb4⟩
    go_wp2_with fail
    refine (isValidRecord_is c r (by omega) (by omega) _ rfl _).mono ?_
    rintro e w5 ⟨rfl, hb5⟩
    go_wp2
    go_ret
    exact ⟨rfl, bth (bth (bth (bth hb1' hb2) hb3) hb4) hb5⟩
open Go.ChangeShapes Go.WideShapes Go.ChangeAt Go.Deep
set_option maxRecDepth 100000 in
theorem isValidRecord_lifted (os : Os) (started : os.Started) (H : Type) (enc : TypeId × Value → H) :
    ReturnsInHanded {} Try.checked os 9 .any (Rows.fnExactIsValidRecordSpec.pre6 enc Try.prog Try.f9 Rows.fnExactIsValidRecordRow.domain false) (Rows.fnExactIsValidRecordSpec.post enc Try.prog Try.f9 false true false false) := by
  refine law_lift (C := Try.checked) (rt := 4) prog_own started (by kernel_rfl) Try.func9
    (ChangeSpec.witness6 (enc := enc) (C := Try.checked) false ⟨#[], #[.agg #[.string ⟨#[]⟩, .string ⟨#[]⟩]], []⟩ 8 (by kernel_rfl) (by kernel_rfl) (by kernel_rfl) (by kernel_rfl))
    prog_laid (by rw [Try.params9]; intro t ht; simp at ht; rcases ht with rfl; all_goals exact ⟨by kernel_rfl, of_decide_eq_true (by kernel_rfl)⟩) rfl Try.underlying4 rfl
    (by rw [Try.params9]; intro l hl; match l, hl with | [d0], _ => rfl) ?_
  intro W base args ds p hval hA
  rw [Try.params9] at hA hval
  obtain ⟨v0, d0, rfl, rfl, h0⟩ := trodAll_one hA
  obtain ⟨cs_0, rfl, _⟩ := okWide_struct Try.underlying57 (hval 0 57 v0 rfl rfl)
  obtain ⟨fuel_0, f_0⟩ := h0
  obtain ⟨c, r, e_0, l0, l1⟩ := rd_LRec f_0
  rw [agg_of_list (cs := cs_0) e_0]
  exact law_isValidRecord c r l0 l1 W
theorem isValidRecord_holds : Rows.FnExactIsValidRecordSaid :=
  OpenClaim.holds_of_wide 9 Try.f9 rfl rfl rfl rfl rfl rfl rfl ⟨rfl, rfl, rfl, rfl, rfl⟩ rfl rfl rfl rfl rfl (by kernel_rfl) Try.func9 (by kernel_rfl)
    (of_decide_eq_true (by kernel_rfl)) (by unfold Func.isWrapper; rw [if_neg (of_decide_eq_false (by kernel_rfl))]; exact ⟨rfl, rfl⟩)
    (fun os started H enc _ => isValidRecord_lifted os started H enc)
#print axioms isValidRecord_holds
end Go.Proofs.Ytdimhbolckbjdaa
