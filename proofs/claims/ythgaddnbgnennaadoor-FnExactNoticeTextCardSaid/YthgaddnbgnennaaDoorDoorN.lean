/- The law of NoticeText: the program's answer is the reference's, for every notice. -/
import Derived.Test.YthgaddnbgnennaaDoorDoor
import Derived.Test.YthgaddnbgnennaaDoorTxn
import Derived.Test.YthgaddnbgnennaaDoorLg
import Derived.Test.YthgaddnbgnennaaDoorRead
import Derived.Deep.RegionHeld3
namespace Go.Proofs.YthgaddnbgnennaaDoor
open Go.RowKit Go.G9
theorem szNoticeR_is (n : Ntc) (l : Int) (h0 : 0 ≤ l) (h1 : l ≤ 1048576) (w : World) : Calls Tryd.prog 6 #[.agg #[.int .i64 n.id, .string n.topic, .int .i64 n.given, .int .i64 n.days], .int .i64 l] w fun e w' => ∃ r : Int, e = .returned (.int .i64 r) ∧ -1 ≤ r ∧ r ≤ l ∧ (r < 0 ∨ True) ∧ Below w.heap.size w w' :=
  (szNotice_is n.id n.given n.days l n.topic n.ok h0 h1 w).mono fun _ _ ⟨r, e, h, hb⟩ => ⟨r, e, h.1, h.2, .inr trivial, hb⟩
theorem toNoticeR_is (n : Ntc) (w : World) : Calls Tryd.prog 8 #[.agg #[.int .i64 n.id, .string n.topic, .int .i64 n.given, .int .i64 n.days]] w fun e w' => e = .returned (.agg #[.int .i64 n.id, .string n.topic, .int .i64 n.given, .int .i64 n.days]) ∧ Below w.heap.size w w' := toNotice_is n.id n.given n.days n.topic w
set_option maxHeartbeats 8000000 in
set_option maxRecDepth 100000 in
theorem law_noticeText (n : Ntc) (w : World) (HT : Tab w) :
  Calls Tryd.prog 3 #[.agg #[.int .i64 n.id, .string n.topic, .int .i64 n.given, .int .i64 n.days]] w fun e w' => e = .returned (.bool true) ∧ Below w.heap.size w w' := by
  obtain ⟨vs, vb, hv⟩ := ntOut_form n
  have HV := Lib.hid hv; clear hv
  go_enter Tryd.func3, Tryd.ntmps3
  go_wp2_with fail
  refine (szNoticeR_is n  1048576 (by omega) (by omega) _).mono ?_
  rintro e w1 ⟨r0, rfl, hr0, hs0, hl0, hb1⟩
  have hq1 : Below w.heap.size w w1 := bth (by repeat (first | exact Below.refl _ _ | refine Below.alloc ?_ (by first | exact Nat.le_refl _ | (simp <;> omega)) _ | refine Below.setCell ?_ (by first | exact Nat.le_refl _ | (simp <;> omega)) _)) hb1
  have z1 := hq1.size
  have HB : Below w.heap.size w w1 := hq1
  have X1 : Blk w1 (w.heap.size) 23 #[.int .i64 n.id, .string n.topic, .int .i64 n.given, .int .i64 n.days] := Blk.below (by repeat (first | exact Blk.new _ _ _ | refine Blk.alloc ?_ _)) hb1 (by simp <;> omega)
  have yX1 := X1.lt
  have X1_0 := (X1.cell 0).trans (show _ = some (.int .i64 n.id) from rfl)
  have X1_1 := (X1.cell 1).trans (show _ = some (.string n.topic) from rfl)
  have X1_2 := (X1.cell 2).trans (show _ = some (.int .i64 n.given) from rfl)
  have X1_3 := (X1.cell 3).trans (show _ = some (.int .i64 n.days) from rfl)
  by_cases h00 : r0 < 0
  · go_wp2
    go_ret
    exact ⟨rfl, bth HB (by repeat (first | exact Below.refl _ _ | refine Below.alloc ?_ (by first | exact Nat.le_refl _ | (simp <;> omega)) _ | refine Below.setCell ?_ (by first | exact Nat.le_refl _ | (simp <;> omega)) _))⟩
  clear X1_0 X1_1 X1_2 X1_3
  clear hl0
  have X1_0 := (X1.cell 0).trans (show _ = some (.int .i64 n.id) from rfl)
  have X1_1 := (X1.cell 1).trans (show _ = some (.string n.topic) from rfl)
  have X1_2 := (X1.cell 2).trans (show _ = some (.int .i64 n.given) from rfl)
  have X1_3 := (X1.cell 3).trans (show _ = some (.int .i64 n.days) from rfl)
  go_wp2_with fail
  refine (toNoticeR_is n  _ ).mono ?_
  rintro e w2 ⟨rfl, hb2⟩
  clear X1_0 X1_1 X1_2 X1_3
  have hq2 : Below w1.heap.size w1 w2 := bth (by repeat (first | exact Below.refl _ _ | refine Below.alloc ?_ (by first | exact Nat.le_refl _ | (simp <;> omega)) _ | refine Below.setCell ?_ (by first | exact Nat.le_refl _ | (simp <;> omega)) _)) hb2
  have z2 := hq2.size
  replace HB := bth HB hq2
  replace X1 := X1.below hq2 X1.lt
  have X1_0 := (X1.cell 0).trans (show _ = some (.int .i64 n.id) from rfl)
  have X1_1 := (X1.cell 1).trans (show _ = some (.string n.topic) from rfl)
  have X1_2 := (X1.cell 2).trans (show _ = some (.int .i64 n.given) from rfl)
  have X1_3 := (X1.cell 3).trans (show _ = some (.int .i64 n.days) from rfl)
  go_wp2_with fail
  refine (sNoticeText_is n  _ HV.out _ ).mono ?_
  rintro e w3 ⟨rfl, hb3⟩
  clear X1_0 X1_1 X1_2 X1_3
  have hq3 : Below w2.heap.size w2 w3 := bth (by repeat (first | exact Below.refl _ _ | refine Below.alloc ?_ (by first | exact Nat.le_refl _ | (simp <;> omega)) _ | refine Below.setCell ?_ (by first | exact Nat.le_refl _ | (simp <;> omega)) _)) hb3
  have z3 := hq3.size
  replace HB := bth HB hq3
  replace X1 := X1.below hq3 X1.lt
  have X1_0 := (X1.cell 0).trans (show _ = some (.int .i64 n.id) from rfl)
  have X1_1 := (X1.cell 1).trans (show _ = some (.string n.topic) from rfl)
  have X1_2 := (X1.cell 2).trans (show _ = some (.int .i64 n.given) from rfl)
  have X1_3 := (X1.cell 3).trans (show _ = some (.int .i64 n.days) from rfl)
  go_wp2_with fail
  refine (toNoticeR_is n  _ ).mono ?_
  rintro e w4 ⟨rfl, hb4⟩
  clear X1_0 X1_1 X1_2 X1_3
  have hq4 : Below w3.heap.size w3 w4 := bth (by repeat (first | exact Below.refl _ _ | refine Below.alloc ?_ (by first | exact Nat.le_refl _ | (simp <;> omega)) _ | refine Below.setCell ?_ (by first | exact Nat.le_refl _ | (simp <;> omega)) _)) hb4
  have z4 := hq4.size
  replace HB := bth HB hq4
  replace X1 := X1.below hq4 X1.lt
  have X1_0 := (X1.cell 0).trans (show _ = some (.int .i64 n.id) from rfl)
  have X1_1 := (X1.cell 1).trans (show _ = some (.string n.topic) from rfl)
  have X1_2 := (X1.cell 2).trans (show _ = some (.int .i64 n.given) from rfl)
  have X1_3 := (X1.cell 3).trans (show _ = some (.int .i64 n.days) from rfl)
  go_wp2_with fail
  refine (iNoticeText_is n  _ HV.out _  (HT.below (bth HB (by repeat (first | exact Below.refl _ _ | refine Below.alloc ?_ (by first | exact Nat.le_refl _ | (simp <;> omega)) _ | refine Below.setCell ?_ (by first | exact Nat.le_refl _ | (simp <;> omega)) _))))).mono ?_
  rintro e w5 ⟨rfl, hb5⟩
  clear X1_0 X1_1 X1_2 X1_3
  have hq5 : Below w4.heap.size w4 w5 := bth (by repeat (first | exact Below.refl _ _ | refine Below.alloc ?_ (by first | exact Nat.le_refl _ | (simp <;> omega)) _ | refine Below.setCell ?_ (by first | exact Nat.le_refl _ | (simp <;> omega)) _)) hb5
  have z5 := hq5.size
  replace HB := bth HB hq5
  replace X1 := X1.below hq5 X1.lt
  have X1_0 := (X1.cell 0).trans (show _ = some (.int .i64 n.id) from rfl)
  have X1_1 := (X1.cell 1).trans (show _ = some (.string n.topic) from rfl)
  have X1_2 := (X1.cell 2).trans (show _ = some (.int .i64 n.given) from rfl)
  have X1_3 := (X1.cell 3).trans (show _ = some (.int .i64 n.days) from rfl)
  go_wp2
  go_ret
  exact ⟨rfl, bth HB (by repeat (first | exact Below.refl _ _ | refine Below.alloc ?_ (by first | exact Nat.le_refl _ | (simp <;> omega)) _ | refine Below.setCell ?_ (by first | exact Nat.le_refl _ | (simp <;> omega)) _))⟩
open Go.ChangeShapes Go.WideShapes Go.ChangeAt Go.Deep
theorem noticeText_reads (os : Os) {H : Type} (enc : TypeId × Value → H) : ∃ places, DataW.whole enc Tryd.prog ((laidWorld os).forCall (fun _ _ => 0) ⟨#[], #[.agg #[.int .i64 0, .string ⟨#[]⟩, .int .i64 0, .int .i64 0]], []⟩).memory Tryd.f3.params.toList Rows.fnExactNoticeTextSpec.vars false (#[.agg #[.int .i64 0, .string ⟨#[]⟩, .int .i64 0, .int .i64 0]] : Array Value).toList 8 = some ([.agg [.lit (.int .i64 0), .lit (.string []), .lit (.int .i64 0), .lit (.int .i64 0)]], [], places) :=
  ⟨[], by kernel_rfl⟩
theorem noticeText_met (os : Os) : laidMet Tryd.prog Rows.fnExactNoticeTextRow.laid ((laidWorld os).forCall (fun _ _ => 0) ⟨#[], #[.agg #[.int .i64 0, .string ⟨#[]⟩, .int .i64 0, .int .i64 0]], []⟩).memory :=
  laidMet_of_run' 8 (by kernel_rfl) (by kernel_rfl)
set_option maxRecDepth 100000 in
theorem noticeText_lifted (os : Os) (started : os.Started) (H : Type) (enc : TypeId × Value → H) (F : Stop.Interp) :
    ReturnsInHanded {} Tryd.checked os 3 .any ((OpenSpec.ofChange Rows.fnExactNoticeTextSpec).preRow enc Tryd.prog Tryd.f3 Rows.fnExactNoticeTextRow.domain false Rows.fnExactNoticeTextRow.laid) (((OpenSpec.ofChange Rows.fnExactNoticeTextSpec).at F).post enc Tryd.prog Tryd.f3 false true false false) := by
  obtain ⟨places, hx⟩ := noticeText_reads os enc
  refine door_lift (C := Tryd.checked) (rt := 4) prog_own started (by kernel_rfl) Tryd.func3
    (witness_row_at (enc := enc) (C := Tryd.checked) false (laidWorld os) #[.agg #[.int .i64 0, .string ⟨#[]⟩, .int .i64 0, .int .i64 0]] rfl (by kernel_rfl) (by kernel_rfl) (by kernel_rfl) (OpenSpec.preRow_of_cond 8 hx (by kernel_rfl) (fun k hk => by cases hk) (by kernel_rfl) (noticeText_met os)))
    prog_laid (by rw [Tryd.params3]; intro t ht; simp at ht; rcases ht with rfl; all_goals exact ⟨by kernel_rfl, of_decide_eq_true (by kernel_rfl)⟩) rfl Tryd.underlying4 rfl
    (by rw [Tryd.params3]; intro l hl; match l, hl with | [d0], _ => rfl) ?_
  intro W base args ds p hL hsh hval hA
  rw [Tryd.params3] at hA hval
  obtain ⟨v0, d0, rfl, rfl, h0⟩ := trodAll_one hA
  obtain ⟨cs_0, rfl, _⟩ := okWide_struct Tryd.underlying23 (hval 0 23 v0 rfl rfl)
  obtain ⟨fuel_0, f_0⟩ := h0
  obtain ⟨n, e_0⟩ := rd_Ntc f_0
  rw [agg_of_list (cs := cs_0) e_0]
  exact law_noticeText n W (tab_of_laid rfl hL)
theorem noticeText_said : Rows.FnExactNoticeTextSaid :=
  OpenClaim.holds_of_cond 3 Tryd.f3 rfl rfl rfl rfl rfl rfl rfl ⟨rfl, rfl, rfl, rfl, rfl⟩ rfl rfl rfl rfl rfl (by kernel_rfl) Tryd.func3 (by kernel_rfl)
    (of_decide_eq_true (by kernel_rfl)) (by unfold Func.isWrapper; first | (rw [if_pos (by decide +kernel)]; kernel_rfl) | (rw [if_neg (by decide +kernel)]; exact ⟨rfl, rfl⟩))
    (fun os started H enc _ F => by rw [OpenClaim.pre_eq_preRow]; exact noticeText_lifted os started H enc F)
theorem noticeText_plain (f : FuncId) (fn : Func) (hf : Tryd.pinned.checked.prog.funcNamed Rows.fnExactNoticeTextRow.func = some f) (hfn : Tryd.pinned.checked.prog.funcs[f]? = some fn) :
    false = Tryd.pinned.checked.prog.looks [] ∧ ∀ (j : Nat) t, fn.params[j]? = some t → Tryd.pinned.checked.prog.wantsStandIn t = false := by
  obtain rfl : f = 3 := Option.some.inj ((show Tryd.prog.funcNamed Rows.fnExactNoticeTextRow.func = some 3 by kernel_rfl).symm.trans hf) |>.symm
  obtain rfl : fn = Tryd.f3 := (Option.some.inj (Tryd.func3.symm.trans hfn)).symm
  refine ⟨by kernel_rfl, fun j t ht => ?_⟩
  have hall : Tryd.f3.params.toList.all (fun t => !Tryd.prog.wantsStandIn t) = true := by kernel_rfl
  have hm := List.all_eq_true.1 hall t (Array.mem_toList_iff.2 (Array.mem_of_getElem? ht))
  exact (Bool.not_eq_true' _).mp hm
theorem noticeText_holds : Rows.FnExactNoticeTextCardSaid :=
  Claim7.holds_tied_plain_at .later [] _ _ _ _ noticeText_said (fun _ h => by cases h) (by kernel_rfl) (fun _ h => by cases h) fnExactNoticeText_row_tie rfl ⟨rfl, rfl⟩ (by kernel_rfl) rfl noticeText_plain (by kernel_rfl)
#print axioms noticeText_holds
end Go.Proofs.YthgaddnbgnennaaDoor
