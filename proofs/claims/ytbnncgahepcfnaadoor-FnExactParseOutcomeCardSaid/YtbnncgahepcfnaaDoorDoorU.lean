/- The law of ParseOutcome, its card. -/
import Derived.Test.YtbnncgahepcfnaaDoorDoorE
import Derived.Test.YtbnncgahepcfnaaDoorDoorP
import Derived.Test.YtbnncgahepcfnaaDoorPoL
namespace Go.Proofs.YtbnncgahepcfnaaDoor
open Go.RowKit Go.G9
open Go.ChangeShapes Go.WideShapes Go.ChangeAt Go.Deep
open Go.ChangeMaps
set_option maxHeartbeats 4000000
theorem parseOutcome_reads (os : Os) {H : Type} (enc : TypeId × Value → H) : ∃ places, DataW.whole enc Tryd.prog ((World.laidAll Tryd.prog os Rows.fnExactParseOutcomeRow.laid).forCall (fun _ _ => 0) ⟨#[], #[.string ⟨#[]⟩], []⟩).memory Tryd.f8.params.toList Rows.fnExactParseOutcomeSpec.vars false (#[.string ⟨#[]⟩] : Array Value).toList 8 = some ([.lit (.string [])], [Rows.laid_loop_example_g00909_impl_needPhrases], places) :=
  reads_of (by kernel_rfl)
theorem parseOutcome_met (os : Os) : laidMet Tryd.prog Rows.fnExactParseOutcomeRow.laid ((World.laidAll Tryd.prog os Rows.fnExactParseOutcomeRow.laid).forCall (fun _ _ => 0) ⟨#[], #[.string ⟨#[]⟩], []⟩).memory :=
  laidMet_laidAll _ (by kernel_rfl) (by kernel_rfl)
set_option maxRecDepth 100000 in
theorem parseOutcome_lifted (os : Os) (started : os.Started) (H : Type) (enc : TypeId × Value → H) (F : Stop.Interp) :
    ReturnsInHanded {} Tryd.checked os 8 .any ((OpenSpec.ofChange Rows.fnExactParseOutcomeSpec).preRow enc Tryd.prog Tryd.f8 Rows.fnExactParseOutcomeRow.domain false Rows.fnExactParseOutcomeRow.laid) (((OpenSpec.ofChange Rows.fnExactParseOutcomeSpec).at F).post enc Tryd.prog Tryd.f8 false true false false) := by
  obtain ⟨places, hx⟩ := parseOutcome_reads os enc
  refine door_lift (C := Tryd.checked) (rt := 4) prog_own started (by kernel_rfl) Tryd.func8
    (witness_row_atRef (enc := enc) (C := Tryd.checked) false (World.laidAll Tryd.prog os Rows.fnExactParseOutcomeRow.laid) #[.string ⟨#[]⟩] (World.laidAll_os _ _ _) (by kernel_rfl) (by kernel_rfl) (by kernel_rfl) (OpenSpec.preRow_of_cond 8 hx (by kernel_rfl) (fun k hk => by cases hk) (by kernel_rfl) (parseOutcome_met os)))
    prog_laid (by rw [Tryd.params8]; intro t ht; simp at ht; rcases ht with rfl; all_goals exact ⟨by kernel_rfl, of_decide_eq_true (by kernel_rfl)⟩) rfl Tryd.underlying4 (by kernel_rfl)
    (by rw [Tryd.params8]; intro l g hl hg; match l, g, hl, hg with | [d0], [g0], _, _ => rfl) ?_
  intro W base args ds p hL hsh hval hA
  rw [Tryd.params8] at hA hval
  obtain ⟨v0, d0, rfl, rfl, h0⟩ := trodAll_one hA
  obtain ⟨s, rfl, rfl, rfl, l_s⟩ := open_string Tryd.underlying9 (hval 0 9 v0 rfl rfl) h0
  exact law_parseOutcome s l_s W (tab_of_laid rfl hL) (esy_of_laid rfl hL) (mxl_of_shaped hsh) (phz_of_laid rfl hL)
theorem parseOutcome_said : Rows.FnExactParseOutcomeSaid :=
  OpenClaim.holds_of_cond 8 Tryd.f8 rfl rfl rfl rfl rfl rfl rfl ⟨rfl, rfl, rfl, rfl, rfl⟩ rfl rfl rfl rfl rfl (by kernel_rfl) Tryd.func8 (by kernel_rfl)
    (of_decide_eq_true (by kernel_rfl)) (by unfold Func.isWrapper; first | (rw [if_pos (by decide +kernel)]; kernel_rfl) | (rw [if_neg (by decide +kernel)]; exact ⟨rfl, rfl⟩))
    (fun os started H enc _ F => by rw [OpenClaim.pre_eq_preRow]; exact parseOutcome_lifted os started H enc F)
theorem parseOutcome_plain (f : FuncId) (fn : Func) (hf : Tryd.pinned.checked.prog.funcNamed Rows.fnExactParseOutcomeRow.func = some f) (hfn : Tryd.pinned.checked.prog.funcs[f]? = some fn) :
    Rows.fnExactParseOutcomeCard.stood.looks = Tryd.pinned.checked.prog.looks [] ∧ ∀ (j : Nat) t, fn.params[j]? = some t → Tryd.pinned.checked.prog.wantsStandIn t = false := by
  obtain rfl : f = 8 := Option.some.inj ((show Tryd.prog.funcNamed Rows.fnExactParseOutcomeRow.func = some 8 by kernel_rfl).symm.trans hf) |>.symm
  obtain rfl : fn = Tryd.f8 := (Option.some.inj (Tryd.func8.symm.trans hfn)).symm
  refine ⟨by kernel_rfl, fun j t ht => ?_⟩
  have hall : Tryd.f8.params.toList.all (fun t => !Tryd.prog.wantsStandIn t) = true := by kernel_rfl
  have hm := List.all_eq_true.1 hall t (Array.mem_toList_iff.2 (Array.mem_of_getElem? ht))
  exact (Bool.not_eq_true' _).mp hm
theorem parseOutcome_holds : Rows.FnExactParseOutcomeCardSaid :=
  Claim7.holds_tied_plain_at .later [] _ _ _ _ parseOutcome_said (fun _ h => by cases h) (by kernel_rfl) (fun _ h => by cases h) fnExactParseOutcome_row_tie rfl ⟨rfl, rfl⟩ (by kernel_rfl) rfl parseOutcome_plain (by kernel_rfl)
#print axioms parseOutcome_holds
end Go.Proofs.YtbnncgahepcfnaaDoor
