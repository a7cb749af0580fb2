/- The law of RunScript: for every input the program answers as the reference does, leaves its argument as it was, and returns memory of its own; no conditions. -/
import Derived.Test.YtlaaemmmbodaaaaGreatDoorRs12
set_option maxHeartbeats 16000000
set_option maxRecDepth 100000
set_option linter.unnecessarySimpa false
set_option linter.unusedSimpArgs false
set_option linter.unusedVariables false
namespace Go.Proofs.YtlaaemmmbodaaaaGreatDoor
open Go.RowKit Go.G9
open Go.ChangeShapes Go.WideShapes Go.ChangeAt Go.Deep
open Go.ChangeMaps
set_option maxHeartbeats 4000000
theorem aoS:joinedFacts Tryz.pinned.checked.prog 7 Tryz.f7 (OpenSpec.ofChange Rows.fnExactRunScriptSpec).bare Rows.fnExactRunScriptRow= true:=by
 unfold joinedFacts
 iterate 23 (refine (Bool.and_eq_true _ _).mpr ⟨?_,?_⟩)
 all_goals as_aux_lemma=>kernel_rfl
theorem Zc:Tryz.pinned.checked.prog.funcNamed Rows.fnExactRunScriptRow.func= some 7:=by kernel_rfl
theorem aoU:Tryz.f7.isInstance Tryz.pinned.checked.prog Rows.fnExactRunScriptRow.origin Rows.fnExactRunScriptRow.targs:=of_decide_eq_true (by as_aux_lemma=>kernel_rfl)
theorem apd:Tryz.f7.isWrapper Tryz.pinned.checked.prog Rows.fnExactRunScriptRow.wrapper Rows.fnExactRunScriptRow.mainSum:=by unfold Func.isWrapper;first | (rw [if_pos (by decide +kernel)];kernel_rfl) | (rw [if_neg (by decide +kernel)];exact⟨rfl,rfl⟩)
theorem apb:Rows.FnExactRunScriptSaid:=
 OpenClaim.holds_of_cond 7 Tryz.f7 rfl rfl rfl rfl rfl rfl rfl ⟨rfl,rfl,rfl,rfl,rfl⟩ rfl rfl rfl rfl rfl Zc Tryz.func7 aoS
  aoU apd
  (fun os started H enc _ F=>by rw [OpenClaim.pre_eq_preRow];exact aoV os started H enc F)
theorem aoW:Rows.fnExactRunScriptCard.stood.looks= Tryz.pinned.checked.prog.looks []:=by kernel_rfl
theorem aoZ (f:FuncId) (fn:Func) (hf:Tryz.pinned.checked.prog.funcNamed Rows.fnExactRunScriptRow.func= some f) (Oa:Tryz.pinned.checked.prog.funcs[f]? =some fn):
  Rows.fnExactRunScriptCard.stood.looks= Tryz.pinned.checked.prog.looks []∧∀(j:Nat) t,fn.params[j]? =some t→Tryz.pinned.checked.prog.wantsStandIn t= false:=by
 obtain rfl:f= 7:=Option.some.inj (Zc.symm.trans hf) |>.symm
 obtain rfl:fn= Tryz.f7:=(Option.some.inj (Tryz.func7.symm.trans Oa)).symm
 refine⟨aoW,fun j t cA=>?_⟩
 have lP:Tryz.f7.params.toList.all (fun t=>!Tryz.prog.wantsStandIn t)= true:=by as_aux_lemma=>kernel_rfl
 have hm:=List.all_eq_true.1 lP t (Array.mem_toList_iff.2 (Array.mem_of_getElem? cA))
 exact (Bool.not_eq_true' _).mp hm
theorem apc:Rows.fnExactRunScriptRow.wfByText (OpenSpec.ofChange Rows.fnExactRunScriptSpec)= true:=by kernel_rfl
theorem aoX:Tryz.pinned.checked.prog.mainIs= some (Rows.fnExactRunScriptCard.stood.harness.1,Rows.fnExactRunScriptCard.stood.harness.2.toList):=by kernel_rfl
theorem aoT:false= Rows.fnExactRunScriptRow.goesBy Tryz.pinned.checked.prog:=by kernel_rfl
theorem runScript_holds:Rows.FnExactRunScriptCardSaid:=
 Claim7.holds_tied_plain_at .later [] _ _ _ _ apb (fun _ h=>by cases h) apc (fun _ h=>by cases h) fnExactRunScript_row_tie rfl ⟨rfl,rfl⟩ aoX rfl aoZ aoT
#print axioms runScript_holds
end Go.Proofs.YtlaaemmmbodaaaaGreatDoor
