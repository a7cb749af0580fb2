/- The law of notices, its card. -/
import Derived.Test.YtbnncgahepcfnaaGreatDoorNo24
import Derived.Test.YtbnncgahepcfnaaGreatDoorNo25
import Derived.Test.YtbnncgahepcfnaaGreatDoorNo23
namespace Go.Proofs.YtbnncgahepcfnaaGreatDoor
open Go.RowKit Go.G9
open Go.ChangeShapes Go.WideShapes Go.ChangeAt Go.Deep
open Go.ChangeMaps
set_option maxHeartbeats 4000000
theorem notices_reads (os : Os) {H : Type} (enc : TypeId × Value → H) : ∃ places, DataW.whole enc Tryz.prog ((World.laidAll Tryz.prog os Rows.fnNoticesRow.laid).forCall (fun _ _ => 0) ⟨#[], #[.slice none 0 0], []⟩).memory Tryz.f4.params.toList Rows.fnNoticesSpec.vars false (#[.slice none 0 0] : Array Value).toList 8 = some ([.nil], [], places) :=
  reads_of (by kernel_rfl)
theorem notices_met (os : Os) : laidMet Tryz.prog Rows.fnNoticesRow.laid ((World.laidAll Tryz.prog os Rows.fnNoticesRow.laid).forCall (fun _ _ => 0) ⟨#[], #[.slice none 0 0], []⟩).memory :=
  laidMet_laidAll _ (by kernel_rfl) (by kernel_rfl)
set_option maxRecDepth 100000 in
theorem notices_lifted (os : Os) (started : os.Started) (H : Type) (enc : TypeId × Value → H) (F : Stop.Interp) :
    ReturnsInHanded {} Tryz.checked os 4 .any ((OpenSpec.ofChange Rows.fnNoticesSpec).preRow enc Tryz.prog Tryz.f4 Rows.fnNoticesRow.domain false Rows.fnNoticesRow.laid) (((OpenSpec.ofChange Rows.fnNoticesSpec).at F).post enc Tryz.prog Tryz.f4 false true false false) := by
  obtain ⟨places, hx⟩ := notices_reads os enc
  refine door_lift (C := Tryz.checked) (rt := 4) prog_own started (by kernel_rfl) Tryz.func4
    (witness_row_atRef (enc := enc) (C := Tryz.checked) false (World.laidAll Tryz.prog os Rows.fnNoticesRow.laid) #[.slice none 0 0] (World.laidAll_os _ _ _) (by kernel_rfl) (by kernel_rfl) (by kernel_rfl) (OpenSpec.preRow_of_cond 8 hx (by kernel_rfl) (fun k hk => by cases hk) (by kernel_rfl) (notices_met os)))
    prog_laid (by rw [Tryz.params4]; intro t ht; simp at ht; rcases ht with rfl; all_goals exact ⟨by kernel_rfl, of_decide_eq_true (by kernel_rfl)⟩) rfl Tryz.underlying4 (by kernel_rfl)
    (by rw [Tryz.params4]; intro l g hl hg; match l, g, hl, hg with | [d0], [], _, _ => rfl) ?_
  intro W base args ds p hL hsh hval hA
  rw [Tryz.params4] at hA hval
  obtain ⟨v0, d0, rfl, rfl, h0⟩ := trodAll_one hA
  obtain ⟨a_cs, len_cs, cap_cs, rfl⟩ := okWide_slice Tryz.underlying22 (hval 0 22 v0 rfl rfl)
  obtain ⟨fuel_cs, f_cs⟩ := h0
  obtain ⟨A_cs, c_cs, cs, e_cs, l_cs, R_cs⟩ := rd_slice u8C 1 (by decide) Tryz.underlying22 cells_u8 (fun _ _ _ h => rd_u8 h) f_cs
  simp [Value.cells] at e_cs
  obtain ⟨rfl, rfl, rfl⟩ := e_cs
  exact law_notices _ _ cs W R_cs ⟨tab_of_laid rfl hL, esy_of_laid rfl hL, mxl_of_shaped hsh⟩
theorem notices_said : Rows.FnNoticesSaid :=
  OpenClaim.holds_of_cond 4 Tryz.f4 rfl rfl rfl rfl rfl rfl rfl ⟨rfl, rfl, rfl, rfl, rfl⟩ rfl rfl rfl rfl rfl (by kernel_rfl) Tryz.func4 (by kernel_rfl)
    (of_decide_eq_true (by kernel_rfl)) (by unfold Func.isWrapper; first | (rw [if_pos (by decide +kernel)]; kernel_rfl) | (rw [if_neg (by decide +kernel)]; exact ⟨rfl, rfl⟩))
    (fun os started H enc _ F => by rw [OpenClaim.pre_eq_preRow]; exact notices_lifted os started H enc F)
theorem notices_plain (f : FuncId) (fn : Func) (hf : Tryz.pinned.checked.prog.funcNamed Rows.fnNoticesRow.func = some f) (hfn : Tryz.pinned.checked.prog.funcs[f]? = some fn) :
    Rows.fnNoticesCard.stood.looks = Tryz.pinned.checked.prog.looks [] ∧ ∀ (j : Nat) t, fn.params[j]? = some t → Tryz.pinned.checked.prog.wantsStandIn t = false := by
  obtain rfl : f = 4 := Option.some.inj ((show Tryz.prog.funcNamed Rows.fnNoticesRow.func = some 4 by kernel_rfl).symm.trans hf) |>.symm
  obtain rfl : fn = Tryz.f4 := (Option.some.inj (Tryz.func4.symm.trans hfn)).symm
  refine ⟨by kernel_rfl, fun j t ht => ?_⟩
  have hall : Tryz.f4.params.toList.all (fun t => !Tryz.prog.wantsStandIn t) = true := by kernel_rfl
  have hm := List.all_eq_true.1 hall t (Array.mem_toList_iff.2 (Array.mem_of_getElem? ht))
  exact (Bool.not_eq_true' _).mp hm
theorem notices_holds : Rows.FnNoticesCardSaid :=
  Claim7.holds_tied_plain_at .later [] _ _ _ _ notices_said (fun _ h => by cases h) (by kernel_rfl) (fun _ h => by cases h) fnNotices_row_tie rfl ⟨rfl, rfl⟩ (by kernel_rfl) rfl notices_plain (by kernel_rfl)
#print axioms notices_holds
end Go.Proofs.YtbnncgahepcfnaaGreatDoor
