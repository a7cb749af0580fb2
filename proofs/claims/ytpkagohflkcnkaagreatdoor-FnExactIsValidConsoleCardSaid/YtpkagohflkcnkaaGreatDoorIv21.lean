/- The law of IsValidConsole, its card. -/
import Derived.Test.YtpkagohflkcnkaaGreatDoorIv20
import Derived.Deep.RegionHeld3
namespace Go.Proofs.YtpkagohflkcnkaaGreatDoor
open Go.RowKit Go.G9
open Go.ChangeShapes Go.WideShapes Go.ChangeAt Go.Deep
set_option maxHeartbeats 4000000
theorem isValidConsole_reads (os : Os) {H : Type} (enc : TypeId × Value → H) : ∃ places, DataW.whole enc Tryz.prog ((laidWorld os).forCall (fun _ _ => 0) ⟨#[], #[.agg #[.slice none 0 0, .slice none 0 0, .int .i64 0, .int .i64 0, .int .i64 0, .slice none 0 0, .slice none 0 0, .slice none 0 0, .string ⟨#[]⟩, .string ⟨#[]⟩, .int .i64 0]], []⟩).memory Tryz.f3.params.toList Rows.fnExactIsValidConsoleSpec.vars false (#[.agg #[.slice none 0 0, .slice none 0 0, .int .i64 0, .int .i64 0, .int .i64 0, .slice none 0 0, .slice none 0 0, .slice none 0 0, .string ⟨#[]⟩, .string ⟨#[]⟩, .int .i64 0]] : Array Value).toList 8 = some ([.agg [.agg [.nil, .nil, .agg [.lit (.int .i64 0), .lit (.int .i64 0), .lit (.int .i64 0), .nil, .nil], .nil], .agg [.lit (.string []), .lit (.string []), .lit (.int .i64 0)]]], [], places) :=
  reads_of (by kernel_rfl)
theorem isValidConsole_met (os : Os) : laidMet Tryz.prog Rows.fnExactIsValidConsoleRow.laid ((laidWorld os).forCall (fun _ _ => 0) ⟨#[], #[.agg #[.slice none 0 0, .slice none 0 0, .int .i64 0, .int .i64 0, .int .i64 0, .slice none 0 0, .slice none 0 0, .slice none 0 0, .string ⟨#[]⟩, .string ⟨#[]⟩, .int .i64 0]], []⟩).memory :=
  laidMet_of_run' 8 (by kernel_rfl) (by kernel_rfl)
set_option maxRecDepth 100000 in
theorem isValidConsole_lifted (os : Os) (started : os.Started) (H : Type) (enc : TypeId × Value → H) (F : Stop.Interp) :
    ReturnsInHanded {} Tryz.checked os 3 .any ((OpenSpec.ofChange Rows.fnExactIsValidConsoleSpec).preRow enc Tryz.prog Tryz.f3 Rows.fnExactIsValidConsoleRow.domain false Rows.fnExactIsValidConsoleRow.laid) (((OpenSpec.ofChange Rows.fnExactIsValidConsoleSpec).at F).post enc Tryz.prog Tryz.f3 false true false false) := by
  obtain ⟨places, hx⟩ := isValidConsole_reads os enc
  refine door_lift (C := Tryz.checked) (rt := 4) prog_own started (by kernel_rfl) Tryz.func3
    (witness_row_at (enc := enc) (C := Tryz.checked) false (laidWorld os) #[.agg #[.slice none 0 0, .slice none 0 0, .int .i64 0, .int .i64 0, .int .i64 0, .slice none 0 0, .slice none 0 0, .slice none 0 0, .string ⟨#[]⟩, .string ⟨#[]⟩, .int .i64 0]] rfl (by kernel_rfl) (by kernel_rfl) (by kernel_rfl) (OpenSpec.preRow_of_cond 8 hx (by kernel_rfl) (fun k hk => by cases hk) (by kernel_rfl) (isValidConsole_met os)))
    prog_laid (by rw [Tryz.params3]; intro t ht; simp at ht; rcases ht with rfl; all_goals exact ⟨by kernel_rfl, of_decide_eq_true (by kernel_rfl)⟩) rfl Tryz.underlying4 (by kernel_rfl)
    (by rw [Tryz.params3]; intro l g hl hg; match l, g, hl, hg with | [d0], [], _, _ => rfl) ?_
  intro W base args ds p hL hsh hval hA
  rw [Tryz.params3] at hA hval
  obtain ⟨v0, d0, rfl, rfl, h0⟩ := trodAll_one hA
  obtain ⟨cs_0, rfl, _⟩ := okWide_struct Tryz.underlying34 (hval 0 34 v0 rfl rfl)
  obtain ⟨fuel_0, f_0⟩ := h0
  obtain ⟨x, A0, A1, A2, A3, A4, c0, c1, c2, c3, c4, e_0, s0, s1, l0, l1, l2, l3, l4, R0, R1, R2, R3, R4⟩ := rd_Con f_0
  rw [agg_of_list (cs := cs_0) e_0]
  exact law_isValidConsole x s0 s1 A0 A1 A2 A3 A4 c0 c1 c2 c3 c4 l0 l1 l2 l3 l4 W R0 R1 R2 R3 R4 (tab_of_laid rfl hL)
theorem isValidConsole_said : Rows.FnExactIsValidConsoleSaid :=
  OpenClaim.holds_of_cond 3 Tryz.f3 rfl rfl rfl rfl rfl rfl rfl ⟨rfl, rfl, rfl, rfl, rfl⟩ rfl rfl rfl rfl rfl (by kernel_rfl) Tryz.func3 (by kernel_rfl)
    (of_decide_eq_true (by kernel_rfl)) (by unfold Func.isWrapper; first | (rw [if_pos (by decide +kernel)]; kernel_rfl) | (rw [if_neg (by decide +kernel)]; exact ⟨rfl, rfl⟩))
    (fun os started H enc _ F => by rw [OpenClaim.pre_eq_preRow]; exact isValidConsole_lifted os started H enc F)
theorem isValidConsole_plain (f : FuncId) (fn : Func) (hf : Tryz.pinned.checked.prog.funcNamed Rows.fnExactIsValidConsoleRow.func = some f) (hfn : Tryz.pinned.checked.prog.funcs[f]? = some fn) :
    Rows.fnExactIsValidConsoleCard.stood.looks = Tryz.pinned.checked.prog.looks [] ∧ ∀ (j : Nat) t, fn.params[j]? = some t → Tryz.pinned.checked.prog.wantsStandIn t = false := by
  obtain rfl : f = 3 := Option.some.inj ((show Tryz.prog.funcNamed Rows.fnExactIsValidConsoleRow.func = some 3 by kernel_rfl).symm.trans hf) |>.symm
  obtain rfl : fn = Tryz.f3 := (Option.some.inj (Tryz.func3.symm.trans hfn)).symm
  refine ⟨by kernel_rfl, fun j t ht => ?_⟩
  have hall : Tryz.f3.params.toList.all (fun t => !Tryz.prog.wantsStandIn t) = true := by kernel_rfl
  have hm := List.all_eq_true.1 hall t (Array.mem_toList_iff.2 (Array.mem_of_getElem? ht))
  exact (Bool.not_eq_true' _).mp hm
theorem isValidConsole_holds : Rows.FnExactIsValidConsoleCardSaid :=
  Claim7.holds_tied_plain_at .later [] _ _ _ _ isValidConsole_said (fun _ h => by cases h) (by kernel_rfl) (fun _ h => by cases h) fnExactIsValidConsole_row_tie rfl ⟨rfl, rfl⟩ (by kernel_rfl) rfl isValidConsole_plain (by kernel_rfl)
#print axioms isValidConsole_holds
end Go.Proofs.YtpkagohflkcnkaaGreatDoor
