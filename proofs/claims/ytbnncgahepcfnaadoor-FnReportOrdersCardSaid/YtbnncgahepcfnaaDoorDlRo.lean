/- The law of ordered reports, its card. -/
import Derived.Test.YtbnncgahepcfnaaDoorDoor
import Derived.Test.YtbnncgahepcfnaaDoorRoL
import Derived.Test.YtbnncgahepcfnaaDoorRdU
namespace Go.Proofs.YtbnncgahepcfnaaDoor
open Go.RowKit Go.G9
open Go.ChangeShapes Go.WideShapes Go.ChangeAt Go.Deep
set_option maxHeartbeats 4000000
theorem reportOrders_reads (os : Os) {H : Type} (enc : TypeId × Value → H) : ∃ places, DataW.whole enc Tryd.prog ((laidWorld os).forCall (fun _ _ => 0) ⟨#[], #[.slice none 0 0], []⟩).memory Tryd.f6.params.toList Rows.fnReportOrdersSpec.vars false (#[.slice none 0 0] : Array Value).toList 8 = some ([.nil], [], places) :=
  reads_of (by kernel_rfl)
theorem reportOrders_met (os : Os) : laidMet Tryd.prog Rows.fnReportOrdersRow.laid ((laidWorld os).forCall (fun _ _ => 0) ⟨#[], #[.slice none 0 0], []⟩).memory :=
  laidMet_of_run' 8 (by kernel_rfl) (by kernel_rfl)
set_option maxRecDepth 100000 in
theorem reportOrders_lifted (os : Os) (started : os.Started) (H : Type) (enc : TypeId × Value → H) (F : Stop.Interp) :
    ReturnsInHanded {} Tryd.checked os 6 .any ((OpenSpec.ofChange Rows.fnReportOrdersSpec).preRow enc Tryd.prog Tryd.f6 Rows.fnReportOrdersRow.domain false Rows.fnReportOrdersRow.laid) (((OpenSpec.ofChange Rows.fnReportOrdersSpec).at F).post enc Tryd.prog Tryd.f6 false true false false) := by
  obtain ⟨places, hx⟩ := reportOrders_reads os enc
  refine door_lift (C := Tryd.checked) (rt := 4) prog_own started (by kernel_rfl) Tryd.func6
    (witness_row_at (enc := enc) (C := Tryd.checked) false (laidWorld os) #[.slice none 0 0] rfl (by kernel_rfl) (by kernel_rfl) (by kernel_rfl) (OpenSpec.preRow_of_cond 8 hx (by kernel_rfl) (fun k hk => by cases hk) (by kernel_rfl) (reportOrders_met os)))
    prog_laid (by rw [Tryd.params6]; intro t ht; simp at ht; rcases ht with rfl; all_goals exact ⟨by kernel_rfl, of_decide_eq_true (by kernel_rfl)⟩) rfl Tryd.underlying4 (by kernel_rfl)
    (by rw [Tryd.params6]; intro l g hl hg; match l, g, hl, hg with | [d0], [], _, _ => rfl) ?_
  intro W base args ds p hL hsh hval hA
  rw [Tryd.params6] at hA hval
  obtain ⟨v0, d0, rfl, rfl, h0⟩ := trodAll_one hA
  obtain ⟨a_cs, len_cs, cap_cs, rfl⟩ := okWide_slice Tryd.underlying41 (hval 0 41 v0 rfl rfl)
  obtain ⟨fuel_cs, f_cs⟩ := h0
  obtain ⟨A_cs, c_cs, cs, e_cs, l_cs, R_cs⟩ := rd_slice u8C 1 (by decide) Tryd.underlying41 cells_u8 (fun _ _ _ h => rd_u8 h) f_cs
  simp [Value.cells] at e_cs
  obtain ⟨rfl, rfl, rfl⟩ := e_cs
  exact law_reportOrders _ _ cs W R_cs (tab_of_laid rfl hL)
theorem reportOrders_said : Rows.FnReportOrdersSaid :=
  OpenClaim.holds_of_cond 6 Tryd.f6 rfl rfl rfl rfl rfl rfl rfl ⟨rfl, rfl, rfl, rfl, rfl⟩ rfl rfl rfl rfl rfl (by kernel_rfl) Tryd.func6 (by kernel_rfl)
    (of_decide_eq_true (by kernel_rfl)) (by unfold Func.isWrapper; first | (rw [if_pos (by decide +kernel)]; kernel_rfl) | (rw [if_neg (by decide +kernel)]; exact ⟨rfl, rfl⟩))
    (fun os started H enc _ F => by rw [OpenClaim.pre_eq_preRow]; exact reportOrders_lifted os started H enc F)
theorem reportOrders_plain (f : FuncId) (fn : Func) (hf : Tryd.pinned.checked.prog.funcNamed Rows.fnReportOrdersRow.func = some f) (hfn : Tryd.pinned.checked.prog.funcs[f]? = some fn) :
    Rows.fnReportOrdersCard.stood.looks = Tryd.pinned.checked.prog.looks [] ∧ ∀ (j : Nat) t, fn.params[j]? = some t → Tryd.pinned.checked.prog.wantsStandIn t = false := by
  obtain rfl : f = 6 := Option.some.inj ((show Tryd.prog.funcNamed Rows.fnReportOrdersRow.func = some 6 by kernel_rfl).symm.trans hf) |>.symm
  obtain rfl : fn = Tryd.f6 := (Option.some.inj (Tryd.func6.symm.trans hfn)).symm
  refine ⟨by kernel_rfl, fun j t ht => ?_⟩
  have hall : Tryd.f6.params.toList.all (fun t => !Tryd.prog.wantsStandIn t) = true := by kernel_rfl
  have hm := List.all_eq_true.1 hall t (Array.mem_toList_iff.2 (Array.mem_of_getElem? ht))
  exact (Bool.not_eq_true' _).mp hm
theorem reportOrders_holds : Rows.FnReportOrdersCardSaid :=
  Claim7.holds_tied_plain_at .later [] _ _ _ _ reportOrders_said (fun _ h => by cases h) (by kernel_rfl) (fun _ h => by cases h) fnReportOrders_row_tie rfl ⟨rfl, rfl⟩ (by kernel_rfl) rfl reportOrders_plain (by kernel_rfl)
#print axioms reportOrders_holds
end Go.Proofs.YtbnncgahepcfnaaDoor
