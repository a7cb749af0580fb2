/- The law of Headline: the program's answer is the reference's. -/
import Derived.Test.YtbnncgahepcfnaaDoorDoor
import Derived.Test.YtbnncgahepcfnaaDoorTxh
import Derived.Test.YtbnncgahepcfnaaDoorLg
import Derived.Test.YtbnncgahepcfnaaDoorRead
import Derived.Deep.RegionHeld3
namespace Go.Proofs.YtbnncgahepcfnaaDoor
open Go.RowKit Go.G9
set_option maxHeartbeats 8000000 in
set_option maxRecDepth 100000 in
theorem law_headline (Axs : Option Addr) (cxs : Nat) (xs : List Res) (hxs : xs.length ≤ maxLen) (w : World) (Rxs : Rds 5 Res.cells w Axs xs) (HT : Tab w) :
  Calls Tryd.prog 5 #[.slice Axs xs.length cxs] w fun e w' => e = .returned (.bool true) ∧ Below w.heap.size w w' := by
  obtain ⟨vs, vb, hv⟩ := hlOut_form xs
  have HV := Lib.hid hv; clear hv
  go_enter Tryd.func5, Tryd.ntmps5
  go_wp2_with fail
  refine (szMotionResultS_is Axs cxs xs hxs 1048576 (by omega) (by omega) _ (Rxs.below (by repeat (first | exact Below.refl _ _ | refine Below.alloc ?_ (by first | exact Nat.le_refl _ | (simp <;> omega)) _ | refine Below.setCell ?_ (by first | exact Nat.le_refl _ | (simp <;> omega)) _)))).mono ?_
  rintro e w1 ⟨r0, rfl, hr0, hs0, hl0, hb1⟩
  have hq1 : Below w.heap.size w w1 := bth (by repeat (first | exact Below.refl _ _ | refine Below.alloc ?_ (by first | exact Nat.le_refl _ | (simp <;> omega)) _ | refine Below.setCell ?_ (by first | exact Nat.le_refl _ | (simp <;> omega)) _)) hb1
  have z1 := hq1.size
  have HB : Below w.heap.size w w1 := hq1
  by_cases h00 : r0 < 0
  · go_wp2
    go_ret
    exact ⟨rfl, bth HB (by repeat (first | exact Below.refl _ _ | refine Below.alloc ?_ (by first | exact Nat.le_refl _ | (simp <;> omega)) _ | refine Below.setCell ?_ (by first | exact Nat.le_refl _ | (simp <;> omega)) _))⟩
  have hxs' : xs.length ≤ 1048576 := by omega
  clear hl0
  go_wp2_with fail
  refine (toMotionResultS_is Axs cxs xs hxs' _ (Rxs.below (bth HB (by repeat (first | exact Below.refl _ _ | refine Below.alloc ?_ (by first | exact Nat.le_refl _ | (simp <;> omega)) _ | refine Below.setCell ?_ (by first | exact Nat.le_refl _ | (simp <;> omega)) _))))).mono ?_
  rintro e w2 ⟨As0, rfl, Os0, hb2⟩
  have hq2 : Below w1.heap.size w1 w2 := bth (by repeat (first | exact Below.refl _ _ | refine Below.alloc ?_ (by first | exact Nat.le_refl _ | (simp <;> omega)) _ | refine Below.setCell ?_ (by first | exact Nat.le_refl _ | (simp <;> omega)) _)) hb2
  have z2 := hq2.size
  replace HB := bth HB hq2
  have ins0 : Within [.slice As0 xs.length xs.length] (w1.heap.size) (w2.heap.size) := by
    intro v hv k hk
    simp only [List.mem_cons, List.not_mem_nil, or_false] at hv
    subst hv
    have h := Os0.lt k hk; (try simp at h); omega
  go_wp2_with fail
  refine (sHeadline_is As0 xs.length xs hxs' _ HV.out _ (Os0.rds.below (by repeat (first | exact Below.refl _ _ | refine Below.alloc ?_ (by first | exact Nat.le_refl _ | (simp <;> omega)) _ | refine Below.setCell ?_ (by first | exact Nat.le_refl _ | (simp <;> omega)) _)))).mono ?_
  rintro e w3 ⟨rfl, hb3⟩
  have hq3 : Below w2.heap.size w2 w3 := bth (by repeat (first | exact Below.refl _ _ | refine Below.alloc ?_ (by first | exact Nat.le_refl _ | (simp <;> omega)) _ | refine Below.setCell ?_ (by first | exact Nat.le_refl _ | (simp <;> omega)) _)) hb3
  have z3 := hq3.size
  replace HB := bth HB hq3
  replace Os0 := Os0.later hq3
  go_wp2_with fail
  refine (toMotionResultS_is Axs cxs xs hxs' _ (Rxs.below (bth HB (by repeat (first | exact Below.refl _ _ | refine Below.alloc ?_ (by first | exact Nat.le_refl _ | (simp <;> omega)) _ | refine Below.setCell ?_ (by first | exact Nat.le_refl _ | (simp <;> omega)) _))))).mono ?_
  rintro e w4 ⟨Ax0, rfl, Ox0, hb4⟩
  have hq4 : Below w3.heap.size w3 w4 := bth (by repeat (first | exact Below.refl _ _ | refine Below.alloc ?_ (by first | exact Nat.le_refl _ | (simp <;> omega)) _ | refine Below.setCell ?_ (by first | exact Nat.le_refl _ | (simp <;> omega)) _)) hb4
  have z4 := hq4.size
  replace HB := bth HB hq4
  have inx0 : Within [.slice Ax0 xs.length xs.length] (w3.heap.size) (w4.heap.size) := by
    intro v hv k hk
    simp only [List.mem_cons, List.not_mem_nil, or_false] at hv
    subst hv
    have h := Ox0.lt k hk; (try simp at h); omega
  go_wp2_with fail
  refine (iHeadline_is Ax0 xs.length xs hxs' _ HV.out _ (Ox0.rds.below (by repeat (first | exact Below.refl _ _ | refine Below.alloc ?_ (by first | exact Nat.le_refl _ | (simp <;> omega)) _ | refine Below.setCell ?_ (by first | exact Nat.le_refl _ | (simp <;> omega)) _))) (HT.below (bth HB (by repeat (first | exact Below.refl _ _ | refine Below.alloc ?_ (by first | exact Nat.le_refl _ | (simp <;> omega)) _ | refine Below.setCell ?_ (by first | exact Nat.le_refl _ | (simp <;> omega)) _))))).mono ?_
  rintro e w5 ⟨rfl, hb5⟩
  have hq5 : Below w4.heap.size w4 w5 := bth (by repeat (first | exact Below.refl _ _ | refine Below.alloc ?_ (by first | exact Nat.le_refl _ | (simp <;> omega)) _ | refine Below.setCell ?_ (by first | exact Nat.le_refl _ | (simp <;> omega)) _)) hb5
  have z5 := hq5.size
  replace HB := bth HB hq5
  replace Ox0 := Ox0.later hq5
  go_wp2_with fail
  refine (toMotionResultS_is Axs cxs xs hxs' _ (Rxs.below (bth HB (by repeat (first | exact Below.refl _ _ | refine Below.alloc ?_ (by first | exact Nat.le_refl _ | (simp <;> omega)) _ | refine Below.setCell ?_ (by first | exact Nat.le_refl _ | (simp <;> omega)) _))))).mono ?_
  rintro e w6 ⟨Ay0, rfl, Oy0, hb6⟩
  have hq6 : Below w5.heap.size w5 w6 := bth (by repeat (first | exact Below.refl _ _ | refine Below.alloc ?_ (by first | exact Nat.le_refl _ | (simp <;> omega)) _ | refine Below.setCell ?_ (by first | exact Nat.le_refl _ | (simp <;> omega)) _)) hb6
  have z6 := hq6.size
  replace HB := bth HB hq6
  replace Ox0 := Ox0.later hq6
  have iny0 : Within [.slice Ay0 xs.length xs.length] (w5.heap.size) (w6.heap.size) := by
    intro v hv k hk
    simp only [List.mem_cons, List.not_mem_nil, or_false] at hv
    subst hv
    have h := Oy0.lt k hk; (try simp at h); omega
  go_wp2_with fail
  refine (eqMotionResultS_is Ax0 Ay0 xs.length xs.length xs hxs' _ (Ox0.rds.below (by repeat (first | exact Below.refl _ _ | refine Below.alloc ?_ (by first | exact Nat.le_refl _ | (simp <;> omega)) _ | refine Below.setCell ?_ (by first | exact Nat.le_refl _ | (simp <;> omega)) _))) (Oy0.rds.below (by repeat (first | exact Below.refl _ _ | refine Below.alloc ?_ (by first | exact Nat.le_refl _ | (simp <;> omega)) _ | refine Below.setCell ?_ (by first | exact Nat.le_refl _ | (simp <;> omega)) _)))).mono ?_
  rintro e w7 ⟨rfl, hb7⟩
  have hq7 : Below w6.heap.size w6 w7 := bth (by repeat (first | exact Below.refl _ _ | refine Below.alloc ?_ (by first | exact Nat.le_refl _ | (simp <;> omega)) _ | refine Below.setCell ?_ (by first | exact Nat.le_refl _ | (simp <;> omega)) _)) hb7
  have z7 := hq7.size
  replace HB := bth HB hq7
  replace Ox0 := Ox0.later hq7
  replace Oy0 := Oy0.later hq7
  go_wp2
  go_ret
  exact ⟨rfl, bth HB (by repeat (first | exact Below.refl _ _ | refine Below.alloc ?_ (by first | exact Nat.le_refl _ | (simp <;> omega)) _ | refine Below.setCell ?_ (by first | exact Nat.le_refl _ | (simp <;> omega)) _))⟩
open Go.ChangeShapes Go.WideShapes Go.ChangeAt Go.Deep
theorem headline_reads (os : Os) {H : Type} (enc : TypeId × Value → H) : ∃ places, DataW.whole enc Tryd.prog ((laidWorld os).forCall (fun _ _ => 0) ⟨#[], #[.slice none 0 0], []⟩).memory Tryd.f5.params.toList Rows.fnExactHeadlineSpec.vars false (#[.slice none 0 0] : Array Value).toList 8 = some ([.nil], [], places) :=
  reads_of (by kernel_rfl)
theorem headline_met (os : Os) : laidMet Tryd.prog Rows.fnExactHeadlineRow.laid ((laidWorld os).forCall (fun _ _ => 0) ⟨#[], #[.slice none 0 0], []⟩).memory :=
  laidMet_of_run' 8 (by kernel_rfl) (by kernel_rfl)
set_option maxRecDepth 100000 in
theorem headline_lifted (os : Os) (started : os.Started) (H : Type) (enc : TypeId × Value → H) (F : Stop.Interp) :
    ReturnsInHanded {} Tryd.checked os 5 .any ((OpenSpec.ofChange Rows.fnExactHeadlineSpec).preRow enc Tryd.prog Tryd.f5 Rows.fnExactHeadlineRow.domain false Rows.fnExactHeadlineRow.laid) (((OpenSpec.ofChange Rows.fnExactHeadlineSpec).at F).post enc Tryd.prog Tryd.f5 false true false false) := by
  obtain ⟨places, hx⟩ := headline_reads os enc
  refine door_lift (C := Tryd.checked) (rt := 4) prog_own started (by kernel_rfl) Tryd.func5
    (witness_row_at (enc := enc) (C := Tryd.checked) false (laidWorld os) #[.slice none 0 0] rfl (by kernel_rfl) (by kernel_rfl) (by kernel_rfl) (OpenSpec.preRow_of_cond 8 hx (by kernel_rfl) (fun k hk => by cases hk) (by kernel_rfl) (headline_met os)))
    prog_laid (by rw [Tryd.params5]; intro t ht; simp at ht; rcases ht with rfl; all_goals exact ⟨by kernel_rfl, of_decide_eq_true (by kernel_rfl)⟩) rfl Tryd.underlying4 (by kernel_rfl)
    (by rw [Tryd.params5]; intro l g hl hg; match l, g, hl, hg with | [d0], [], _, _ => rfl) ?_
  intro W base args ds p hL hsh hval hA
  rw [Tryd.params5] at hA hval
  obtain ⟨v0, d0, rfl, rfl, h0⟩ := trodAll_one hA
  obtain ⟨a_xs, len_xs, cap_xs, rfl⟩ := okWide_slice Tryd.underlying34 (hval 0 34 v0 rfl rfl)
  obtain ⟨fuel_xs, f_xs⟩ := h0
  obtain ⟨A_xs, c_xs, xs, e_xs, l_xs, R_xs⟩ := rd_slice Res.cells 5 (by decide) Tryd.underlying34 cells_Res (fun _ _ _ h => rd_Res h) f_xs
  simp [Value.cells] at e_xs
  obtain ⟨rfl, rfl, rfl⟩ := e_xs
  exact law_headline _ _ xs l_xs W R_xs (tab_of_laid rfl hL)
theorem headline_said : Rows.FnExactHeadlineSaid :=
  OpenClaim.holds_of_cond 5 Tryd.f5 rfl rfl rfl rfl rfl rfl rfl ⟨rfl, rfl, rfl, rfl, rfl⟩ rfl rfl rfl rfl rfl (by kernel_rfl) Tryd.func5 (by kernel_rfl)
    (of_decide_eq_true (by kernel_rfl)) (by unfold Func.isWrapper; first | (rw [if_pos (by decide +kernel)]; kernel_rfl) | (rw [if_neg (by decide +kernel)]; exact ⟨rfl, rfl⟩))
    (fun os started H enc _ F => by rw [OpenClaim.pre_eq_preRow]; exact headline_lifted os started H enc F)
theorem headline_plain (f : FuncId) (fn : Func) (hf : Tryd.pinned.checked.prog.funcNamed Rows.fnExactHeadlineRow.func = some f) (hfn : Tryd.pinned.checked.prog.funcs[f]? = some fn) :
    Rows.fnExactHeadlineCard.stood.looks = Tryd.pinned.checked.prog.looks [] ∧ ∀ (j : Nat) t, fn.params[j]? = some t → Tryd.pinned.checked.prog.wantsStandIn t = false := by
  obtain rfl : f = 5 := Option.some.inj ((show Tryd.prog.funcNamed Rows.fnExactHeadlineRow.func = some 5 by kernel_rfl).symm.trans hf) |>.symm
  obtain rfl : fn = Tryd.f5 := (Option.some.inj (Tryd.func5.symm.trans hfn)).symm
  refine ⟨by kernel_rfl, fun j t ht => ?_⟩
  have hall : Tryd.f5.params.toList.all (fun t => !Tryd.prog.wantsStandIn t) = true := by kernel_rfl
  have hm := List.all_eq_true.1 hall t (Array.mem_toList_iff.2 (Array.mem_of_getElem? ht))
  exact (Bool.not_eq_true' _).mp hm
theorem headline_holds : Rows.FnExactHeadlineCardSaid :=
  Claim7.holds_tied_plain_at .later [] _ _ _ _ headline_said (fun _ h => by cases h) (by kernel_rfl) (fun _ h => by cases h) fnExactHeadline_row_tie rfl ⟨rfl, rfl⟩ (by kernel_rfl) rfl headline_plain (by kernel_rfl)
#print axioms headline_holds
end Go.Proofs.YtbnncgahepcfnaaDoor
