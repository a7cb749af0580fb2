/- The law of ReplayLog: for every input the program answers as the reference does, leaves its argument as it was, and returns memory of its own; no conditions. -/
import Derived.Test.YtlaaemmmbodaaaaGreatDoorRp12
set_option maxHeartbeats 16000000
set_option maxRecDepth 100000
set_option linter.unnecessarySimpa false
set_option linter.unusedSimpArgs false
set_option linter.unusedVariables false
namespace Go.Proofs.YtlaaemmmbodaaaaGreatDoor
open Go.RowKit Go.G9
open Go.ChangeShapes Go.WideShapes Go.ChangeAt Go.Deep
open Go.ChangeMaps
set_option maxHeartbeats 4000000
theorem alf:joinedFacts Tryz.pinned.checked.prog 3 Tryz.f3 (OpenSpec.ofChange Rows.fnExactReplayLogSpec).bare Rows.fnExactReplayLogRow= true:=by
 unfold joinedFacts
 iterate 23 (refine (Bool.and_eq_true _ _).mpr ⟨?_,?_⟩)
 all_goals as_aux_lemma=>kernel_rfl
theorem Wn:Tryz.pinned.checked.prog.funcNamed Rows.fnExactReplayLogRow.func= some 3:=by kernel_rfl
theorem alh:Tryz.f3.isInstance Tryz.pinned.checked.prog Rows.fnExactReplayLogRow.origin Rows.fnExactReplayLogRow.targs:=of_decide_eq_true (by as_aux_lemma=>kernel_rfl)
theorem alr:Tryz.f3.isWrapper Tryz.pinned.checked.prog Rows.fnExactReplayLogRow.wrapper Rows.fnExactReplayLogRow.mainSum:=by unfold Func.isWrapper;first | (rw [if_pos (by decide +kernel)];kernel_rfl) | (rw [if_neg (by decide +kernel)];exact⟨rfl,rfl⟩)
theorem alp:Rows.FnExactReplayLogSaid:=
 OpenClaim.holds_of_cond 3 Tryz.f3 rfl rfl rfl rfl rfl rfl rfl ⟨rfl,rfl,rfl,rfl,rfl⟩ rfl rfl rfl rfl rfl Wn Tryz.func3 alf
  alh alr
  (fun os started H enc _ F=>by rw [OpenClaim.pre_eq_preRow];exact ali os started H enc F)
theorem alj:Rows.fnExactReplayLogCard.stood.looks= Tryz.pinned.checked.prog.looks []:=by kernel_rfl
theorem aln (f:FuncId) (fn:Func) (hf:Tryz.pinned.checked.prog.funcNamed Rows.fnExactReplayLogRow.func= some f) (LI:Tryz.pinned.checked.prog.funcs[f]? =some fn):
  Rows.fnExactReplayLogCard.stood.looks= Tryz.pinned.checked.prog.looks []∧∀(j:Nat) t,fn.params[j]? =some t→Tryz.pinned.checked.prog.wantsStandIn t= false:=by
 obtain rfl:f= 3:=Option.some.inj (Wn.symm.trans hf) |>.symm
 obtain rfl:fn= Tryz.f3:=(Option.some.inj (Tryz.func3.symm.trans LI)).symm
 refine⟨alj,fun j t ct=>?_⟩
 have lf:Tryz.f3.params.toList.all (fun t=>!Tryz.prog.wantsStandIn t)= true:=by as_aux_lemma=>kernel_rfl
 have hm:=List.all_eq_true.1 lf t (Array.mem_toList_iff.2 (Array.mem_of_getElem? ct))
 exact (Bool.not_eq_true' _).mp hm
theorem alq:Rows.fnExactReplayLogRow.wfByText (OpenSpec.ofChange Rows.fnExactReplayLogSpec)= true:=by kernel_rfl
theorem alk:Tryz.pinned.checked.prog.mainIs= some (Rows.fnExactReplayLogCard.stood.harness.1,Rows.fnExactReplayLogCard.stood.harness.2.toList):=by kernel_rfl
theorem alg:false= Rows.fnExactReplayLogRow.goesBy Tryz.pinned.checked.prog:=by kernel_rfl
theorem replayLog_holds:Rows.FnExactReplayLogCardSaid:=
 Claim7.holds_tied_plain_at .later [] _ _ _ _ alp (fun _ h=>by cases h) alq (fun _ h=>by cases h) fnExactReplayLog_row_tie rfl ⟨rfl,rfl⟩ alk rfl aln alg
#print axioms replayLog_holds
end Go.Proofs.YtlaaemmmbodaaaaGreatDoor
