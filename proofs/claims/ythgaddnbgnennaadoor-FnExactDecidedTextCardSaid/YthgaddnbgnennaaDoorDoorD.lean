/- The law of DecidedText: the program's answer is the reference's, and the argument is left as it was. -/
import Derived.Test.YthgaddnbgnennaaDoorDoor
import Derived.Test.YthgaddnbgnennaaDoorTxd
import Derived.Test.YthgaddnbgnennaaDoorMkD
import Derived.Test.YthgaddnbgnennaaDoorRead
import Derived.Deep.RegionHeld3
namespace Go.Proofs.YthgaddnbgnennaaDoor
open Go.RowKit Go.G9
set_option maxHeartbeats 8000000 in
set_option maxRecDepth 100000 in
theorem law_decidedText (d : Dec) (Ad_0 Ad_1 : Option Addr) (cd_0 cd_1 : Nat) (hd_0 : d.yes.length ≤ maxLen) (hd_1 : d.no.length ≤ maxLen) (w : World) (Rd_0 : Rds 1 intC w Ad_0 d.yes) (Rd_1 : Rds 1 intC w Ad_1 d.no) (HT : Tab w) :
  Calls Tryd.prog 4 #[.agg #[.int .i64 d.id, .int .i64 d.day, .int .i64 d.need, .slice Ad_0 d.yes.length cd_0, .slice Ad_1 d.no.length cd_1, .bool d.done]] w fun e w' => e = .returned (.bool true) ∧ Below w.heap.size w w' := by
  obtain ⟨vs, vb, hv⟩ := dtOut_form d
  have HV := Lib.hid hv; clear hv
  go_enter Tryd.func4, Tryd.ntmps4
  go_wp2_with fail
  refine (szDecided_is d Ad_0 Ad_1 cd_0 cd_1 hd_0 hd_1 1048576 (by omega) (by omega) _).mono ?_
  rintro e w1 ⟨r0, rfl, hr0, hs0, hl0, hb1⟩
  have hq1 : Below w.heap.size w w1 := bth (by repeat (first | exact Below.refl _ _ | refine Below.alloc ?_ (by first | exact Nat.le_refl _ | (simp <;> omega)) _ | refine Below.setCell ?_ (by first | exact Nat.le_refl _ | (simp <;> omega)) _)) hb1
  have z1 := hq1.size
  have HB : Below w.heap.size w w1 := hq1
  have X1 : Blk w1 (w.heap.size) 32 #[.int .i64 d.id, .int .i64 d.day, .int .i64 d.need, .slice Ad_0 d.yes.length cd_0, .slice Ad_1 d.no.length cd_1, .bool d.done] := Blk.below (by repeat (first | exact Blk.new _ _ _ | refine Blk.alloc ?_ _)) hb1 (by simp <;> omega)
  have yX1 := X1.lt
  have X1_0 := (X1.cell 0).trans (show _ = some (.int .i64 d.id) from rfl)
  have X1_1 := (X1.cell 1).trans (show _ = some (.int .i64 d.day) from rfl)
  have X1_2 := (X1.cell 2).trans (show _ = some (.int .i64 d.need) from rfl)
  have X1_3 := (X1.cell 3).trans (show _ = some (.slice Ad_0 d.yes.length cd_0) from rfl)
  have X1_4 := (X1.cell 4).trans (show _ = some (.slice Ad_1 d.no.length cd_1) from rfl)
  have X1_5 := (X1.cell 5).trans (show _ = some (.bool d.done) from rfl)
  by_cases h00 : r0 < 0
  · go_wp2
    go_ret
    exact ⟨rfl, bth HB (by repeat (first | exact Below.refl _ _ | refine Below.alloc ?_ (by first | exact Nat.le_refl _ | (simp <;> omega)) _ | refine Below.setCell ?_ (by first | exact Nat.le_refl _ | (simp <;> omega)) _))⟩
  clear X1_0 X1_1 X1_2 X1_3 X1_4 X1_5
  have hd_0' : d.yes.length ≤ 1048576 := by omega
  have hd_1' : d.no.length ≤ 1048576 := by omega
  clear hl0
  have X1_0 := (X1.cell 0).trans (show _ = some (.int .i64 d.id) from rfl)
  have X1_1 := (X1.cell 1).trans (show _ = some (.int .i64 d.day) from rfl)
  have X1_2 := (X1.cell 2).trans (show _ = some (.int .i64 d.need) from rfl)
  have X1_3 := (X1.cell 3).trans (show _ = some (.slice Ad_0 d.yes.length cd_0) from rfl)
  have X1_4 := (X1.cell 4).trans (show _ = some (.slice Ad_1 d.no.length cd_1) from rfl)
  have X1_5 := (X1.cell 5).trans (show _ = some (.bool d.done) from rfl)
  go_wp2_with fail
  refine (toDecidedA_is d Ad_0 Ad_1 cd_0 cd_1 hd_0' hd_1' _ (Rd_0.below (bth HB (by repeat (first | exact Below.refl _ _ | refine Below.alloc ?_ (by first | exact Nat.le_refl _ | (simp <;> omega)) _ | refine Below.setCell ?_ (by first | exact Nat.le_refl _ | (simp <;> omega)) _)))) (Rd_1.below (bth HB (by repeat (first | exact Below.refl _ _ | refine Below.alloc ?_ (by first | exact Nat.le_refl _ | (simp <;> omega)) _ | refine Below.setCell ?_ (by first | exact Nat.le_refl _ | (simp <;> omega)) _))))).mono ?_
  rintro e w2 ⟨As0_0, As0_1, rfl, Os0_0, Os0_1, aps0, hb2⟩
  clear X1_0 X1_1 X1_2 X1_3 X1_4 X1_5
  have hq2 : Below w1.heap.size w1 w2 := bth (by repeat (first | exact Below.refl _ _ | refine Below.alloc ?_ (by first | exact Nat.le_refl _ | (simp <;> omega)) _ | refine Below.setCell ?_ (by first | exact Nat.le_refl _ | (simp <;> omega)) _)) hb2
  have z2 := hq2.size
  replace HB := bth HB hq2
  replace X1 := X1.below hq2 X1.lt
  have ins0 : Within [.slice As0_0 d.yes.length d.yes.length, .slice As0_1 d.no.length d.no.length] (w1.heap.size) (w2.heap.size) := by
    intro v hv k hk
    simp only [List.mem_cons, List.not_mem_nil, or_false] at hv
    rcases hv with rfl | hv
    · have h := Os0_0.lt k hk; (try simp at h); omega
    subst hv
    have h := Os0_1.lt k hk; (try simp at h); omega
  have X1_0 := (X1.cell 0).trans (show _ = some (.int .i64 d.id) from rfl)
  have X1_1 := (X1.cell 1).trans (show _ = some (.int .i64 d.day) from rfl)
  have X1_2 := (X1.cell 2).trans (show _ = some (.int .i64 d.need) from rfl)
  have X1_3 := (X1.cell 3).trans (show _ = some (.slice Ad_0 d.yes.length cd_0) from rfl)
  have X1_4 := (X1.cell 4).trans (show _ = some (.slice Ad_1 d.no.length cd_1) from rfl)
  have X1_5 := (X1.cell 5).trans (show _ = some (.bool d.done) from rfl)
  go_wp2_with fail
  refine (sDecidedText_is d As0_0 As0_1 d.yes.length d.no.length hd_0' hd_1' _ HV.out _ (Os0_0.rds.below (by repeat (first | exact Below.refl _ _ | refine Below.alloc ?_ (by first | exact Nat.le_refl _ | (simp <;> omega)) _ | refine Below.setCell ?_ (by first | exact Nat.le_refl _ | (simp <;> omega)) _))) (Os0_1.rds.below (by repeat (first | exact Below.refl _ _ | refine Below.alloc ?_ (by first | exact Nat.le_refl _ | (simp <;> omega)) _ | refine Below.setCell ?_ (by first | exact Nat.le_refl _ | (simp <;> omega)) _)))).mono ?_
  rintro e w3 ⟨rfl, hb3⟩
  clear X1_0 X1_1 X1_2 X1_3 X1_4 X1_5
  have hq3 : Below w2.heap.size w2 w3 := bth (by repeat (first | exact Below.refl _ _ | refine Below.alloc ?_ (by first | exact Nat.le_refl _ | (simp <;> omega)) _ | refine Below.setCell ?_ (by first | exact Nat.le_refl _ | (simp <;> omega)) _)) hb3
  have z3 := hq3.size
  replace HB := bth HB hq3
  replace Os0_0 := Os0_0.later hq3
  replace Os0_1 := Os0_1.later hq3
  replace X1 := X1.below hq3 X1.lt
  have X1_0 := (X1.cell 0).trans (show _ = some (.int .i64 d.id) from rfl)
  have X1_1 := (X1.cell 1).trans (show _ = some (.int .i64 d.day) from rfl)
  have X1_2 := (X1.cell 2).trans (show _ = some (.int .i64 d.need) from rfl)
  have X1_3 := (X1.cell 3).trans (show _ = some (.slice Ad_0 d.yes.length cd_0) from rfl)
  have X1_4 := (X1.cell 4).trans (show _ = some (.slice Ad_1 d.no.length cd_1) from rfl)
  have X1_5 := (X1.cell 5).trans (show _ = some (.bool d.done) from rfl)
  go_wp2_with fail
  refine (toDecidedA_is d Ad_0 Ad_1 cd_0 cd_1 hd_0' hd_1' _ (Rd_0.below (bth HB (by repeat (first | exact Below.refl _ _ | refine Below.alloc ?_ (by first | exact Nat.le_refl _ | (simp <;> omega)) _ | refine Below.setCell ?_ (by first | exact Nat.le_refl _ | (simp <;> omega)) _)))) (Rd_1.below (bth HB (by repeat (first | exact Below.refl _ _ | refine Below.alloc ?_ (by first | exact Nat.le_refl _ | (simp <;> omega)) _ | refine Below.setCell ?_ (by first | exact Nat.le_refl _ | (simp <;> omega)) _))))).mono ?_
  rintro e w4 ⟨Ax0_0, Ax0_1, rfl, Ox0_0, Ox0_1, apx0, hb4⟩
  clear X1_0 X1_1 X1_2 X1_3 X1_4 X1_5
  have hq4 : Below w3.heap.size w3 w4 := bth (by repeat (first | exact Below.refl _ _ | refine Below.alloc ?_ (by first | exact Nat.le_refl _ | (simp <;> omega)) _ | refine Below.setCell ?_ (by first | exact Nat.le_refl _ | (simp <;> omega)) _)) hb4
  have z4 := hq4.size
  replace HB := bth HB hq4
  replace X1 := X1.below hq4 X1.lt
  have inx0 : Within [.slice Ax0_0 d.yes.length d.yes.length, .slice Ax0_1 d.no.length d.no.length] (w3.heap.size) (w4.heap.size) := by
    intro v hv k hk
    simp only [List.mem_cons, List.not_mem_nil, or_false] at hv
    rcases hv with rfl | hv
    · have h := Ox0_0.lt k hk; (try simp at h); omega
    subst hv
    have h := Ox0_1.lt k hk; (try simp at h); omega
  have X1_l0 : w.heap.size < w4.heap.size := by have h := X1.lt; omega
  have X1_0 := (X1.cell 0).trans (show _ = some (.int .i64 d.id) from rfl)
  have X1_1 := (X1.cell 1).trans (show _ = some (.int .i64 d.day) from rfl)
  have X1_2 := (X1.cell 2).trans (show _ = some (.int .i64 d.need) from rfl)
  have X1_3 := (X1.cell 3).trans (show _ = some (.slice Ad_0 d.yes.length cd_0) from rfl)
  have X1_4 := (X1.cell 4).trans (show _ = some (.slice Ad_1 d.no.length cd_1) from rfl)
  have X1_5 := (X1.cell 5).trans (show _ = some (.bool d.done) from rfl)
  go_wp2_with fail
  refine (iDecidedText_is d Ax0_0 Ax0_1 d.yes.length d.no.length hd_0' hd_1' _ HV.out _ (Ox0_0.rds.below (by repeat (first | exact Below.refl _ _ | refine Below.alloc ?_ (by first | exact Nat.le_refl _ | (simp <;> omega)) _ | refine Below.setCell ?_ (by first | exact Nat.le_refl _ | (simp <;> omega)) _))) (Ox0_1.rds.below (by repeat (first | exact Below.refl _ _ | refine Below.alloc ?_ (by first | exact Nat.le_refl _ | (simp <;> omega)) _ | refine Below.setCell ?_ (by first | exact Nat.le_refl _ | (simp <;> omega)) _))) (HT.below (bth HB (by repeat (first | exact Below.refl _ _ | refine Below.alloc ?_ (by first | exact Nat.le_refl _ | (simp <;> omega)) _ | refine Below.setCell ?_ (by first | exact Nat.le_refl _ | (simp <;> omega)) _))))).mono ?_
  rintro e w5 ⟨rfl, hb5⟩
  clear X1_l0 X1_0 X1_1 X1_2 X1_3 X1_4 X1_5
  have hq5 : Below w4.heap.size w4 w5 := bth (by repeat (first | exact Below.refl _ _ | refine Below.alloc ?_ (by first | exact Nat.le_refl _ | (simp <;> omega)) _ | refine Below.setCell ?_ (by first | exact Nat.le_refl _ | (simp <;> omega)) _)) hb5
  have z5 := hq5.size
  replace HB := bth HB hq5
  replace Ox0_0 := Ox0_0.later hq5
  replace Ox0_1 := Ox0_1.later hq5
  replace X1 := X1.below hq5 X1.lt
  have X2 : Blk w5 (w4.heap.size) 35 #[.int .i64 d.id, .int .i64 d.day, .int .i64 d.need, .slice Ax0_0 d.yes.length d.yes.length, .slice Ax0_1 d.no.length d.no.length, .bool d.done] := Blk.below (by repeat (first | exact Blk.new _ _ _ | refine Blk.alloc ?_ _)) hb5 (by simp <;> omega)
  have yX2 := X2.lt
  have X1_a : ∀ W, Below w5.heap.size w5 W → Blk W (w.heap.size) 32 #[.int .i64 d.id, .int .i64 d.day, .int .i64 d.need, .slice Ad_0 d.yes.length cd_0, .slice Ad_1 d.no.length cd_1, .bool d.done] := fun W h => X1.below h X1.lt
  have X2_a : ∀ W, Below w5.heap.size w5 W → Blk W (w4.heap.size) 35 #[.int .i64 d.id, .int .i64 d.day, .int .i64 d.need, .slice Ax0_0 d.yes.length d.yes.length, .slice Ax0_1 d.no.length d.no.length, .bool d.done] := fun W h => X2.below h X2.lt
  have X1_0 := fun W hW => ((X1_a W hW).cell 0).trans (show _ = some (.int .i64 d.id) from rfl)
  have X1_1 := fun W hW => ((X1_a W hW).cell 1).trans (show _ = some (.int .i64 d.day) from rfl)
  have X1_2 := fun W hW => ((X1_a W hW).cell 2).trans (show _ = some (.int .i64 d.need) from rfl)
  have X1_3 := fun W hW => ((X1_a W hW).cell 3).trans (show _ = some (.slice Ad_0 d.yes.length cd_0) from rfl)
  have X1_4 := fun W hW => ((X1_a W hW).cell 4).trans (show _ = some (.slice Ad_1 d.no.length cd_1) from rfl)
  have X1_5 := fun W hW => ((X1_a W hW).cell 5).trans (show _ = some (.bool d.done) from rfl)
  have X2_0 := fun W hW => ((X2_a W hW).cell 0).trans (show _ = some (.int .i64 d.id) from rfl)
  have X2_1 := fun W hW => ((X2_a W hW).cell 1).trans (show _ = some (.int .i64 d.day) from rfl)
  have X2_2 := fun W hW => ((X2_a W hW).cell 2).trans (show _ = some (.int .i64 d.need) from rfl)
  have X2_3 := fun W hW => ((X2_a W hW).cell 3).trans (show _ = some (.slice Ax0_0 d.yes.length d.yes.length) from rfl)
  have X2_4 := fun W hW => ((X2_a W hW).cell 4).trans (show _ = some (.slice Ax0_1 d.no.length d.no.length) from rfl)
  have X2_5 := fun W hW => ((X2_a W hW).cell 5).trans (show _ = some (.bool d.done) from rfl)
  clear X1_a X2_a
  go_wp2
  go_region_held3 (fun W => Below w5.heap.size w5 W) (first | exact (Below.refl _ _).drew | assumption) ((first
    | (go_at_call 12; refine (toDecidedA_is d Ad_0 Ad_1 cd_0 cd_1 hd_0' hd_1' _ (Rd_0.below (bth HB (Below.refl _ _).drew)) (Rd_1.below (bth HB (Below.refl _ _).drew))).mono ?_; rintro e w6 ⟨Ay0_0, Ay0_1, rfl, Oy0_0, Oy0_1, _, hb6⟩; have hk6 : Below w5.heap.size w5 w6 := bth (Below.refl _ _).drew hb6)
    | (go_at_call 14; refine (eqDecided_is d Ax0_0 Ax0_1 Ay0_0 Ay0_1 d.yes.length d.no.length d.yes.length d.no.length hd_0' hd_1' _ (Ox0_0.rds.below hk6) (Ox0_1.rds.below hk6) Oy0_0.rds Oy0_1.rds).mono ?_; rintro e w7 ⟨rfl, hb7⟩; have hk7 : Below w5.heap.size w5 w7 := bth hk6 hb7)))
  clear X1_0 X1_1 X1_2 X1_3 X1_4 X1_5 X2_0 X2_1 X2_2 X2_3 X2_4 X2_5
  have z7 := hk7.size
  replace HB := bth HB hk7
  replace Ox0_0 := Ox0_0.later hk7
  replace Ox0_1 := Ox0_1.later hk7
  replace X1 := X1.below hk7 X1.lt
  replace X2 := X2.below hk7 X2.lt
  have X1_0 := (X1.cell 0).trans (show _ = some (.int .i64 d.id) from rfl)
  have X1_1 := (X1.cell 1).trans (show _ = some (.int .i64 d.day) from rfl)
  have X1_2 := (X1.cell 2).trans (show _ = some (.int .i64 d.need) from rfl)
  have X1_3 := (X1.cell 3).trans (show _ = some (.slice Ad_0 d.yes.length cd_0) from rfl)
  have X1_4 := (X1.cell 4).trans (show _ = some (.slice Ad_1 d.no.length cd_1) from rfl)
  have X1_5 := (X1.cell 5).trans (show _ = some (.bool d.done) from rfl)
  have X2_0 := (X2.cell 0).trans (show _ = some (.int .i64 d.id) from rfl)
  have X2_1 := (X2.cell 1).trans (show _ = some (.int .i64 d.day) from rfl)
  have X2_2 := (X2.cell 2).trans (show _ = some (.int .i64 d.need) from rfl)
  have X2_3 := (X2.cell 3).trans (show _ = some (.slice Ax0_0 d.yes.length d.yes.length) from rfl)
  have X2_4 := (X2.cell 4).trans (show _ = some (.slice Ax0_1 d.no.length d.no.length) from rfl)
  have X2_5 := (X2.cell 5).trans (show _ = some (.bool d.done) from rfl)
  go_wp2
  go_ret
  exact ⟨rfl, bth HB (by repeat (first | exact Below.refl _ _ | refine Below.alloc ?_ (by first | exact Nat.le_refl _ | (simp <;> omega)) _ | refine Below.setCell ?_ (by first | exact Nat.le_refl _ | (simp <;> omega)) _))⟩
open Go.ChangeShapes Go.WideShapes Go.ChangeAt Go.Deep
theorem decidedText_reads (os : Os) {H : Type} (enc : TypeId × Value → H) : ∃ places, DataW.whole enc Tryd.prog ((laidWorld os).forCall (fun _ _ => 0) ⟨#[], #[.agg #[.int .i64 0, .int .i64 0, .int .i64 0, .slice none 0 0, .slice none 0 0, .bool false]], []⟩).memory Tryd.f4.params.toList Rows.fnExactDecidedTextSpec.vars false (#[.agg #[.int .i64 0, .int .i64 0, .int .i64 0, .slice none 0 0, .slice none 0 0, .bool false]] : Array Value).toList 8 = some ([.agg [.lit (.int .i64 0), .lit (.int .i64 0), .lit (.int .i64 0), .nil, .nil, .lit (.bool false)]], [], places) :=
  ⟨[], by kernel_rfl⟩
theorem decidedText_met (os : Os) : laidMet Tryd.prog Rows.fnExactDecidedTextRow.laid ((laidWorld os).forCall (fun _ _ => 0) ⟨#[], #[.agg #[.int .i64 0, .int .i64 0, .int .i64 0, .slice none 0 0, .slice none 0 0, .bool false]], []⟩).memory :=
  laidMet_of_run' 8 (by kernel_rfl) (by kernel_rfl)
set_option maxRecDepth 100000 in
theorem decidedText_lifted (os : Os) (started : os.Started) (H : Type) (enc : TypeId × Value → H) (F : Stop.Interp) :
    ReturnsInHanded {} Tryd.checked os 4 .any ((OpenSpec.ofChange Rows.fnExactDecidedTextSpec).preRow enc Tryd.prog Tryd.f4 Rows.fnExactDecidedTextRow.domain false Rows.fnExactDecidedTextRow.laid) (((OpenSpec.ofChange Rows.fnExactDecidedTextSpec).at F).post enc Tryd.prog Tryd.f4 false true false false) := by
  obtain ⟨places, hx⟩ := decidedText_reads os enc
  refine door_lift (C := Tryd.checked) (rt := 4) prog_own started (by kernel_rfl) Tryd.func4
    (witness_row_at (enc := enc) (C := Tryd.checked) false (laidWorld os) #[.agg #[.int .i64 0, .int .i64 0, .int .i64 0, .slice none 0 0, .slice none 0 0, .bool false]] rfl (by kernel_rfl) (by kernel_rfl) (by kernel_rfl) (OpenSpec.preRow_of_cond 8 hx (by kernel_rfl) (fun k hk => by cases hk) (by kernel_rfl) (decidedText_met os)))
    prog_laid (by rw [Tryd.params4]; intro t ht; simp at ht; rcases ht with rfl; all_goals exact ⟨by kernel_rfl, of_decide_eq_true (by kernel_rfl)⟩) rfl Tryd.underlying4 rfl
    (by rw [Tryd.params4]; intro l hl; match l, hl with | [d0], _ => rfl) ?_
  intro W base args ds p hL hsh hval hA
  rw [Tryd.params4] at hA hval
  obtain ⟨v0, d0, rfl, rfl, h0⟩ := trodAll_one hA
  obtain ⟨cs_0, rfl, _⟩ := okWide_struct Tryd.underlying32 (hval 0 32 v0 rfl rfl)
  obtain ⟨fuel_0, f_0⟩ := h0
  obtain ⟨d, Y, N, yc, nc, e_0, l3, l4, R3, R4, _, _⟩ := rd_Dec f_0
  rw [agg_of_list (cs := cs_0) e_0]
  exact law_decidedText d Y N yc nc l3 l4 W R3 R4 (tab_of_laid rfl hL)
theorem decidedText_said : Rows.FnExactDecidedTextSaid :=
  OpenClaim.holds_of_cond 4 Tryd.f4 rfl rfl rfl rfl rfl rfl rfl ⟨rfl, rfl, rfl, rfl, rfl⟩ rfl rfl rfl rfl rfl (by kernel_rfl) Tryd.func4 (by kernel_rfl)
    (of_decide_eq_true (by kernel_rfl)) (by unfold Func.isWrapper; first | (rw [if_pos (by decide +kernel)]; kernel_rfl) | (rw [if_neg (by decide +kernel)]; exact ⟨rfl, rfl⟩))
    (fun os started H enc _ F => by rw [OpenClaim.pre_eq_preRow]; exact decidedText_lifted os started H enc F)
theorem decidedText_plain (f : FuncId) (fn : Func) (hf : Tryd.pinned.checked.prog.funcNamed Rows.fnExactDecidedTextRow.func = some f) (hfn : Tryd.pinned.checked.prog.funcs[f]? = some fn) :
    false = Tryd.pinned.checked.prog.looks [] ∧ ∀ (j : Nat) t, fn.params[j]? = some t → Tryd.pinned.checked.prog.wantsStandIn t = false := by
  obtain rfl : f = 4 := Option.some.inj ((show Tryd.prog.funcNamed Rows.fnExactDecidedTextRow.func = some 4 by kernel_rfl).symm.trans hf) |>.symm
  obtain rfl : fn = Tryd.f4 := (Option.some.inj (Tryd.func4.symm.trans hfn)).symm
  refine ⟨by kernel_rfl, fun j t ht => ?_⟩
  have hall : Tryd.f4.params.toList.all (fun t => !Tryd.prog.wantsStandIn t) = true := by kernel_rfl
  have hm := List.all_eq_true.1 hall t (Array.mem_toList_iff.2 (Array.mem_of_getElem? ht))
  exact (Bool.not_eq_true' _).mp hm
theorem decidedText_holds : Rows.FnExactDecidedTextCardSaid :=
  Claim7.holds_tied_plain_at .later [] _ _ _ _ decidedText_said (fun _ h => by cases h) (by kernel_rfl) (fun _ h => by cases h) fnExactDecidedText_row_tie rfl ⟨rfl, rfl⟩ (by kernel_rfl) rfl decidedText_plain (by kernel_rfl)
#print axioms decidedText_holds
end Go.Proofs.YthgaddnbgnennaaDoor
