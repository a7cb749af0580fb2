/- The law of recovery of lines, its card. -/
import Derived.Test.YtpejnfhenpdobaaDoorDoor
import Derived.Test.YtpejnfhenpdobaaDoorLnL
import Derived.Test.YtpejnfhenpdobaaDoorRdU
namespace Go.Proofs.YtpejnfhenpdobaaDoor
open Go.RowKit Go.G9
open Go.ChangeShapes Go.WideShapes Go.ChangeAt Go.Deep
set_option maxHeartbeats 4000000
theorem logLines_reads (os : Os) {H : Type} (enc : TypeId × Value → H) : ∃ places, DataW.whole enc Tryd.prog ((laidWorld os).forCall (fun _ _ => 0) ⟨#[], #[.slice none 0 0], []⟩).memory Tryd.f11.params.toList Rows.fnLogLinesSpec.vars false (#[.slice none 0 0] : Array Value).toList 8 = some ([.nil], [], places) :=
  reads_of (by kernel_rfl)
theorem logLines_met (os : Os) : laidMet Tryd.prog Rows.fnLogLinesRow.laid ((laidWorld os).forCall (fun _ _ => 0) ⟨#[], #[.slice none 0 0], []⟩).memory :=
  laidMet_of_run' 8 (by kernel_rfl) (by kernel_rfl)
set_option maxRecDepth 100000 in
theorem logLines_lifted (os : Os) (started : os.Started) (H : Type) (enc : TypeId × Value → H) (F : Stop.Interp) :
    ReturnsInHanded {} Tryd.checked os 11 .any ((OpenSpec.ofChange Rows.fnLogLinesSpec).preRow enc Tryd.prog Tryd.f11 Rows.fnLogLinesRow.domain false Rows.fnLogLinesRow.laid) (((OpenSpec.ofChange Rows.fnLogLinesSpec).at F).post enc Tryd.prog Tryd.f11 false true false false) := by
  obtain ⟨places, hx⟩ := logLines_reads os enc
  refine door_lift (C := Tryd.checked) (rt := 4) prog_own started (by kernel_rfl) Tryd.func11
    (witness_row_at (enc := enc) (C := Tryd.checked) false (laidWorld os) #[.slice none 0 0] rfl (by kernel_rfl) (by kernel_rfl) (by kernel_rfl) (OpenSpec.preRow_of_cond 8 hx (by kernel_rfl) (fun k hk => by cases hk) (by kernel_rfl) (logLines_met os)))
    prog_laid (by rw [Tryd.params11]; intro t ht; simp at ht; rcases ht with rfl; all_goals exact ⟨by kernel_rfl, of_decide_eq_true (by kernel_rfl)⟩) rfl Tryd.underlying4 (by kernel_rfl)
    (by rw [Tryd.params11]; intro l g hl hg; match l, g, hl, hg with | [d0], [], _, _ => rfl) ?_
  intro W base args ds p hL hsh hval hA
  rw [Tryd.params11] at hA hval
  obtain ⟨v0, d0, rfl, rfl, h0⟩ := trodAll_one hA
  obtain ⟨a_cs, len_cs, cap_cs, rfl⟩ := okWide_slice Tryd.underlying53 (hval 0 53 v0 rfl rfl)
  obtain ⟨fuel_cs, f_cs⟩ := h0
  obtain ⟨A_cs, c_cs, cs, e_cs, l_cs, R_cs⟩ := rd_slice u8C 1 (by decide) Tryd.underlying53 cells_u8 (fun _ _ _ h => rd_u8 h) f_cs
  simp [Value.cells] at e_cs
  obtain ⟨rfl, rfl, rfl⟩ := e_cs
  exact law_logLines _ _ cs W R_cs (tab_of_laid rfl hL)
theorem logLines_said : Rows.FnLogLinesSaid :=
  OpenClaim.holds_of_cond 11 Tryd.f11 rfl rfl rfl rfl rfl rfl rfl ⟨rfl, rfl, rfl, rfl, rfl⟩ rfl rfl rfl rfl rfl (by kernel_rfl) Tryd.func11 (by kernel_rfl)
    (of_decide_eq_true (by kernel_rfl)) (by unfold Func.isWrapper; first | (rw [if_pos (by decide +kernel)]; kernel_rfl) | (rw [if_neg (by decide +kernel)]; exact ⟨rfl, rfl⟩))
    (fun os started H enc _ F => by rw [OpenClaim.pre_eq_preRow]; exact logLines_lifted os started H enc F)
theorem logLines_plain (f : FuncId) (fn : Func) (hf : Tryd.pinned.checked.prog.funcNamed Rows.fnLogLinesRow.func = some f) (hfn : Tryd.pinned.checked.prog.funcs[f]? = some fn) :
    Rows.fnLogLinesCard.stood.looks = Tryd.pinned.checked.prog.looks [] ∧ ∀ (j : Nat) t, fn.params[j]? = some t → Tryd.pinned.checked.prog.wantsStandIn t = false := by
  obtain rfl : f = 11 := Option.some.inj ((show Tryd.prog.funcNamed Rows.fnLogLinesRow.func = some 11 by kernel_rfl).symm.trans hf) |>.symm
  obtain rfl : fn = Tryd.f11 := (Option.some.inj (Tryd.func11.symm.trans hfn)).symm
  refine ⟨by kernel_rfl, fun j t ht => ?_⟩
  have hall : Tryd.f11.params.toList.all (fun t => !Tryd.prog.wantsStandIn t) = true := by kernel_rfl
  have hm := List.all_eq_true.1 hall t (Array.mem_toList_iff.2 (Array.mem_of_getElem? ht))
  exact (Bool.not_eq_true' _).mp hm
theorem logLines_holds : Rows.FnLogLinesCardSaid :=
  Claim7.holds_tied_plain_at .later [] _ _ _ _ logLines_said (fun _ h => by cases h) (by kernel_rfl) (fun _ h => by cases h) fnLogLines_row_tie rfl ⟨rfl, rfl⟩ (by kernel_rfl) rfl logLines_plain (by kernel_rfl)
#print axioms logLines_holds
end Go.Proofs.YtpejnfhenpdobaaDoor
