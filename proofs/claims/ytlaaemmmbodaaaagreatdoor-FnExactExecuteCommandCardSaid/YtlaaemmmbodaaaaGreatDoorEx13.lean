/- The law of ExecuteCommand: for every input the program answers as the reference does, leaves its argument as it was, and returns memory of its own; no conditions. -/
import Derived.Test.YtlaaemmmbodaaaaGreatDoorEx12
set_option maxHeartbeats 16000000
set_option maxRecDepth 100000
set_option linter.unnecessarySimpa false
set_option linter.unusedSimpArgs false
set_option linter.unusedVariables false
namespace Go.Proofs.YtlaaemmmbodaaaaGreatDoor
open Go.RowKit Go.G9
open Go.ChangeShapes Go.WideShapes Go.ChangeAt Go.Deep
open Go.ChangeMaps
set_option maxHeartbeats 4000000
theorem ahb:joinedFacts Tryz.pinned.checked.prog 8 Tryz.f8 (OpenSpec.ofChange Rows.fnExactExecuteCommandSpec).bare Rows.fnExactExecuteCommandRow= true:=by
 unfold joinedFacts
 iterate 23 (refine (Bool.and_eq_true _ _).mpr ⟨?_,?_⟩)
 all_goals as_aux_lemma=>kernel_rfl
theorem TV:Tryz.pinned.checked.prog.funcNamed Rows.fnExactExecuteCommandRow.func= some 8:=by kernel_rfl
theorem ahd:Tryz.f8.isInstance Tryz.pinned.checked.prog Rows.fnExactExecuteCommandRow.origin Rows.fnExactExecuteCommandRow.targs:=of_decide_eq_true (by as_aux_lemma=>kernel_rfl)
theorem ahm:Tryz.f8.isWrapper Tryz.pinned.checked.prog Rows.fnExactExecuteCommandRow.wrapper Rows.fnExactExecuteCommandRow.mainSum:=by unfold Func.isWrapper;first | (rw [if_pos (by decide +kernel)];kernel_rfl) | (rw [if_neg (by decide +kernel)];exact⟨rfl,rfl⟩)
theorem ahk:Rows.FnExactExecuteCommandSaid:=
 OpenClaim.holds_of_cond 8 Tryz.f8 rfl rfl rfl rfl rfl rfl rfl ⟨rfl,rfl,rfl,rfl,rfl⟩ rfl rfl rfl rfl rfl TV Tryz.func8 ahb
  ahd ahm
  (fun os started H enc _ F=>by rw [OpenClaim.pre_eq_preRow];exact ahe os started H enc F)
theorem ahf:Rows.fnExactExecuteCommandCard.stood.looks= Tryz.pinned.checked.prog.looks []:=by kernel_rfl
theorem ahi (f:FuncId) (fn:Func) (hf:Tryz.pinned.checked.prog.funcNamed Rows.fnExactExecuteCommandRow.func= some f) (NQ:Tryz.pinned.checked.prog.funcs[f]? =some fn):
  Rows.fnExactExecuteCommandCard.stood.looks= Tryz.pinned.checked.prog.looks []∧∀(j:Nat) t,fn.params[j]? =some t→Tryz.pinned.checked.prog.wantsStandIn t= false:=by
 obtain rfl:f= 8:=Option.some.inj (TV.symm.trans hf) |>.symm
 obtain rfl:fn= Tryz.f8:=(Option.some.inj (Tryz.func8.symm.trans NQ)).symm
 refine⟨ahf,fun j t cE=>?_⟩
 have lY:Tryz.f8.params.toList.all (fun t=>!Tryz.prog.wantsStandIn t)= true:=by as_aux_lemma=>kernel_rfl
 have hm:=List.all_eq_true.1 lY t (Array.mem_toList_iff.2 (Array.mem_of_getElem? cE))
 exact (Bool.not_eq_true' _).mp hm
theorem ahl:Rows.fnExactExecuteCommandRow.wfByText (OpenSpec.ofChange Rows.fnExactExecuteCommandSpec)= true:=by kernel_rfl
theorem ahg:Tryz.pinned.checked.prog.mainIs= some (Rows.fnExactExecuteCommandCard.stood.harness.1,Rows.fnExactExecuteCommandCard.stood.harness.2.toList):=by kernel_rfl
theorem ahc:false= Rows.fnExactExecuteCommandRow.goesBy Tryz.pinned.checked.prog:=by kernel_rfl
theorem executeCommand_holds:Rows.FnExactExecuteCommandCardSaid:=
 Claim7.holds_tied_plain_at .later [] _ _ _ _ ahk (fun _ h=>by cases h) ahl (fun _ h=>by cases h) fnExactExecuteCommand_row_tie rfl ⟨rfl,rfl⟩ ahg rfl ahi ahc
#print axioms executeCommand_holds
end Go.Proofs.YtlaaemmmbodaaaaGreatDoor
