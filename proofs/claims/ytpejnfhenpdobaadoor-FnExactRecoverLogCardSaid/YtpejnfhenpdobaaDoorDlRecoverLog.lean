/- The law of RecoverLog: the program's answer is the reference's, for all arguments. -/
import Derived.Test.YtpejnfhenpdobaaDoorDoor
import Derived.Test.YtpejnfhenpdobaaDoorLgL
import Derived.Test.YtpejnfhenpdobaaDoorRead
import Derived.ChangeMaps5
namespace Go.Proofs.YtpejnfhenpdobaaDoor
open Go.RowKit Go.G9
open Go.ChangeShapes Go.WideShapes Go.ChangeAt Go.Deep
open Go.ChangeMaps
theorem recoverLog_reads (os : Os) {H : Type} (enc : TypeId × Value → H) : ∃ places, DataW.whole enc Tryd.prog ((laidWorld os).forCall (fun _ _ => 0) ⟨#[], #[.string ⟨#[]⟩], []⟩).memory Tryd.f4.params.toList Rows.fnExactRecoverLogSpec.vars false (#[.string ⟨#[]⟩] : Array Value).toList 8 = some ([.lit (.string [])], [], places) :=
  reads_of (by kernel_rfl)
theorem recoverLog_met (os : Os) : laidMet Tryd.prog Rows.fnExactRecoverLogRow.laid ((laidWorld os).forCall (fun _ _ => 0) ⟨#[], #[.string ⟨#[]⟩], []⟩).memory :=
  laidMet_of_run' 8 (by kernel_rfl) (by kernel_rfl)
set_option maxRecDepth 100000 in
theorem recoverLog_lifted (os : Os) (started : os.Started) (H : Type) (enc : TypeId × Value → H) (F : Stop.Interp) :
    ReturnsInHanded {} Tryd.checked os 4 .any ((OpenSpec.ofChange Rows.fnExactRecoverLogSpec).preRow enc Tryd.prog Tryd.f4 Rows.fnExactRecoverLogRow.domain false Rows.fnExactRecoverLogRow.laid) (((OpenSpec.ofChange Rows.fnExactRecoverLogSpec).at F).post enc Tryd.prog Tryd.f4 false true false false) := by
  obtain ⟨places, hx⟩ := recoverLog_reads os enc
  refine door_lift (C := Tryd.checked) (rt := 4) prog_own started (by kernel_rfl) Tryd.func4
    (witness_row_at (enc := enc) (C := Tryd.checked) false (laidWorld os) #[.string ⟨#[]⟩] rfl (by kernel_rfl) (by kernel_rfl) (by kernel_rfl) (OpenSpec.preRow_of_cond 8 hx (by kernel_rfl) (fun k hk => by cases hk) (by kernel_rfl) (recoverLog_met os)))
    prog_laid (by rw [Tryd.params4]; intro t ht; simp at ht; rcases ht with rfl; all_goals exact ⟨by kernel_rfl, of_decide_eq_true (by kernel_rfl)⟩) rfl Tryd.underlying4 (by kernel_rfl)
    (by rw [Tryd.params4]; intro l g hl hg; match l, g, hl, hg with | [d0], [], _, _ => rfl) ?_
  intro W base args ds p hL hsh hval hA
  rw [Tryd.params4] at hA hval
  obtain ⟨v0, d0, rfl, rfl, h0⟩ := trodAll_one hA
  obtain ⟨s, rfl, rfl, rfl, hs⟩ := open_string Tryd.underlying9 (hval 0 9 v0 rfl rfl) h0
  exact law_recoverLog s hs W (tab_of_laid rfl hL)
theorem recoverLog_said : Rows.FnExactRecoverLogSaid :=
  OpenClaim.holds_of_cond 4 Tryd.f4 rfl rfl rfl rfl rfl rfl rfl ⟨rfl, rfl, rfl, rfl, rfl⟩ rfl rfl rfl rfl rfl (by kernel_rfl) Tryd.func4 (by kernel_rfl)
    (of_decide_eq_true (by kernel_rfl)) (by unfold Func.isWrapper; first | (rw [if_pos (by decide +kernel)]; kernel_rfl) | (rw [if_neg (by decide +kernel)]; exact ⟨rfl, rfl⟩))
    (fun os started H enc _ F => by rw [OpenClaim.pre_eq_preRow]; exact recoverLog_lifted os started H enc F)
theorem recoverLog_plain (f : FuncId) (fn : Func) (hf : Tryd.pinned.checked.prog.funcNamed Rows.fnExactRecoverLogRow.func = some f) (hfn : Tryd.pinned.checked.prog.funcs[f]? = some fn) :
    Rows.fnExactRecoverLogCard.stood.looks = Tryd.pinned.checked.prog.looks [] ∧ ∀ (j : Nat) t, fn.params[j]? = some t → Tryd.pinned.checked.prog.wantsStandIn t = false := by
  obtain rfl : f = 4 := Option.some.inj ((show Tryd.prog.funcNamed Rows.fnExactRecoverLogRow.func = some 4 by kernel_rfl).symm.trans hf) |>.symm
  obtain rfl : fn = Tryd.f4 := (Option.some.inj (Tryd.func4.symm.trans hfn)).symm
  refine ⟨by kernel_rfl, fun j t ht => ?_⟩
  have hall : Tryd.f4.params.toList.all (fun t => !Tryd.prog.wantsStandIn t) = true := by kernel_rfl
  have hm := List.all_eq_true.1 hall t (Array.mem_toList_iff.2 (Array.mem_of_getElem? ht))
  exact (Bool.not_eq_true' _).mp hm
theorem recoverLog_holds : Rows.FnExactRecoverLogCardSaid :=
  Claim7.holds_tied_plain_at .later [] _ _ _ _ recoverLog_said (fun _ h => by cases h) (by kernel_rfl) (fun _ h => by cases h) fnExactRecoverLog_row_tie rfl ⟨rfl, rfl⟩ (by kernel_rfl) rfl recoverLog_plain (by kernel_rfl)
#print axioms recoverLog_holds
end Go.Proofs.YtpejnfhenpdobaaDoor
