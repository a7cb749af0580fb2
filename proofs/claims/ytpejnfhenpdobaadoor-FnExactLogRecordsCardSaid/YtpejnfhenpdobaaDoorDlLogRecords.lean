/- The law of LogRecords: the program's answer is the reference's, for all arguments. -/
import Derived.Test.YtpejnfhenpdobaaDoorDoor
import Derived.Test.YtpejnfhenpdobaaDoorLgL
import Derived.Test.YtpejnfhenpdobaaDoorRead
namespace Go.Proofs.YtpejnfhenpdobaaDoor
open Go.RowKit Go.G9
open Go.ChangeShapes Go.WideShapes Go.ChangeAt Go.Deep
theorem logRecords_reads (os : Os) {H : Type} (enc : TypeId × Value → H) : ∃ places, DataW.whole enc Tryd.prog ((laidWorld os).forCall (fun _ _ => 0) ⟨#[], #[.agg #[.string ⟨#[]⟩, .string ⟨#[]⟩, .int .i64 0]], []⟩).memory Tryd.f9.params.toList Rows.fnExactLogRecordsSpec.vars false (#[.agg #[.string ⟨#[]⟩, .string ⟨#[]⟩, .int .i64 0]] : Array Value).toList 8 = some ([.agg [.lit (.string []), .lit (.string []), .lit (.int .i64 0)]], [], places) :=
  reads_of (by kernel_rfl)
theorem logRecords_met (os : Os) : laidMet Tryd.prog Rows.fnExactLogRecordsRow.laid ((laidWorld os).forCall (fun _ _ => 0) ⟨#[], #[.agg #[.string ⟨#[]⟩, .string ⟨#[]⟩, .int .i64 0]], []⟩).memory :=
  laidMet_of_run' 8 (by kernel_rfl) (by kernel_rfl)
set_option maxRecDepth 100000 in
theorem logRecords_lifted (os : Os) (started : os.Started) (H : Type) (enc : TypeId × Value → H) (F : Stop.Interp) :
    ReturnsInHanded {} Tryd.checked os 9 .any ((OpenSpec.ofChange Rows.fnExactLogRecordsSpec).preRow enc Tryd.prog Tryd.f9 Rows.fnExactLogRecordsRow.domain false Rows.fnExactLogRecordsRow.laid) (((OpenSpec.ofChange Rows.fnExactLogRecordsSpec).at F).post enc Tryd.prog Tryd.f9 false true false false) := by
  obtain ⟨places, hx⟩ := logRecords_reads os enc
  refine door_lift (C := Tryd.checked) (rt := 4) prog_own started (by kernel_rfl) Tryd.func9
    (witness_row_at (enc := enc) (C := Tryd.checked) false (laidWorld os) #[.agg #[.string ⟨#[]⟩, .string ⟨#[]⟩, .int .i64 0]] rfl (by kernel_rfl) (by kernel_rfl) (by kernel_rfl) (OpenSpec.preRow_of_cond 8 hx (by kernel_rfl) (fun k hk => by cases hk) (by kernel_rfl) (logRecords_met os)))
    prog_laid (by rw [Tryd.params9]; intro t ht; simp at ht; rcases ht with rfl; all_goals exact ⟨by kernel_rfl, of_decide_eq_true (by kernel_rfl)⟩) rfl Tryd.underlying4 (by kernel_rfl)
    (by rw [Tryd.params9]; intro l g hl hg; match l, g, hl, hg with | [d0], [], _, _ => rfl) ?_
  intro W base args ds p hL hsh hval hA
  rw [Tryd.params9] at hA hval
  obtain ⟨v0, d0, rfl, rfl, h0⟩ := trodAll_one hA
  obtain ⟨cs_0, rfl, _⟩ := okWide_struct Tryd.underlying36 (hval 0 36 v0 rfl rfl)
  obtain ⟨fuel_0, f_0⟩ := h0
  obtain ⟨d, p, n, e_0, l0, l1⟩ := rd_Log f_0
  rw [agg_of_list (cs := cs_0) e_0]
  exact law_logRecords ⟨d, p, n⟩ l0 l1 W (tab_of_laid rfl hL)
theorem logRecords_said : Rows.FnExactLogRecordsSaid :=
  OpenClaim.holds_of_cond 9 Tryd.f9 rfl rfl rfl rfl rfl rfl rfl ⟨rfl, rfl, rfl, rfl, rfl⟩ rfl rfl rfl rfl rfl (by kernel_rfl) Tryd.func9 (by kernel_rfl)
    (of_decide_eq_true (by kernel_rfl)) (by unfold Func.isWrapper; first | (rw [if_pos (by decide +kernel)]; kernel_rfl) | (rw [if_neg (by decide +kernel)]; exact ⟨rfl, rfl⟩))
    (fun os started H enc _ F => by rw [OpenClaim.pre_eq_preRow]; exact logRecords_lifted os started H enc F)
theorem logRecords_plain (f : FuncId) (fn : Func) (hf : Tryd.pinned.checked.prog.funcNamed Rows.fnExactLogRecordsRow.func = some f) (hfn : Tryd.pinned.checked.prog.funcs[f]? = some fn) :
    Rows.fnExactLogRecordsCard.stood.looks = Tryd.pinned.checked.prog.looks [] ∧ ∀ (j : Nat) t, fn.params[j]? = some t → Tryd.pinned.checked.prog.wantsStandIn t = false := by
  obtain rfl : f = 9 := Option.some.inj ((show Tryd.prog.funcNamed Rows.fnExactLogRecordsRow.func = some 9 by kernel_rfl).symm.trans hf) |>.symm
  obtain rfl : fn = Tryd.f9 := (Option.some.inj (Tryd.func9.symm.trans hfn)).symm
  refine ⟨by kernel_rfl, fun j t ht => ?_⟩
  have hall : Tryd.f9.params.toList.all (fun t => !Tryd.prog.wantsStandIn t) = true := by kernel_rfl
  have hm := List.all_eq_true.1 hall t (Array.mem_toList_iff.2 (Array.mem_of_getElem? ht))
  exact (Bool.not_eq_true' _).mp hm
theorem logRecords_holds : Rows.FnExactLogRecordsCardSaid :=
  Claim7.holds_tied_plain_at .later [] _ _ _ _ logRecords_said (fun _ h => by cases h) (by kernel_rfl) (fun _ h => by cases h) fnExactLogRecords_row_tie rfl ⟨rfl, rfl⟩ (by kernel_rfl) rfl logRecords_plain (by kernel_rfl)
#print axioms logRecords_holds
end Go.Proofs.YtpejnfhenpdobaaDoor
