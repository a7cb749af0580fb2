/- The law of SwitchesNeeded: the program's answer is the reference's, and the argument is left as it was. -/
import Derived.Test.YthgaddnbgnennaaSw
import Derived.Test.YthgaddnbgnennaaRead
import Derived.Deep.RegionHeld3
namespace Go.Proofs.Ythgaddnbgnennaa
open Go.RowKit Go.G9
set_option maxHeartbeats 1000000 in
theorem law_switchesNeeded (d : Dec) (Y N : Option Addr) (yc nc : Nat) (hy : d.yes.length ≤ maxLen) (hn : d.no.length ≤ maxLen) (w : World) (hRy : Rds 1 intC w Y d.yes) (hRn : Rds 1 intC w N d.no) :
  Calls Try.prog 6 #[.agg #[.int .i64 d.id, .int .i64 d.day, .int .i64 d.need, .slice Y d.yes.length yc, .slice N d.no.length nc, .bool d.done]] w fun e w' => e = .returned (.bool true) ∧ Below w.heap.size w w' := by
  obtain ⟨a, b, hv⟩ := swOut_form d
  have HV := Lib.hid hv; clear hv
  go_enter Try.func6, Try.ntmps6
  go_wp2_with fail
  refine (szDecided_is d Y N yc nc hy hn 1048576 (by omega) (by omega) _).mono ?_
  rintro e w1 ⟨r, rfl, _, _, hr, hb1⟩
  have hA := Blk.below (Blk.new w 24 #[.int .i64 d.id, .int .i64 d.day, .int .i64 d.need, .slice Y d.yes.length yc, .slice N d.no.length nc, .bool d.done]) hb1 (by simp)
  have hb1' := bth (bl1 _ _) hb1
  by_cases h0 : r < 0
  · go_wp2
    go_ret
    exact ⟨rfl, hb1'⟩
  · obtain ⟨hy', hn'⟩ : d.yes.length ≤ 1048576 ∧ d.no.length ≤ 1048576 := by omega
    clear hr
    have a0 := hA.cell 0
    have a1 := hA.cell 1
    have a2 := hA.cell 2
    have a3 := hA.cell 3
    have a4 := hA.cell 4
    have a5 := hA.cell 5
    simp at a0 a1 a2 a3 a4 a5
    go_wp2_with fail
    refine (toDecided_is d Y N yc nc hy' hn' _ (hRy.below hb1') (hRn.below hb1')).mono ?_
    rintro e w2 ⟨Y2, N2, rfl, hY2, hN2, _, hb2⟩
    have hb2' := bth hb1' hb2
    have hA2 := hA.below hb2 hA.lt
    go_wp2_with fail
    refine (sSwitches_is d Y2 N2 _ _ hy' hn' hY2.nilOk hN2.nilOk  _ HV.out _ hY2.rds hN2.rds).mono ?_
    rintro e w3 ⟨rfl, hb3⟩
    have hb3' := bth hb2' hb3
    have hA3 := hA2.below hb3 hA2.lt
    clear a0 a1 a2 a3 a4 a5
    have a0 := hA3.cell 0
    have a1 := hA3.cell 1
    have a2 := hA3.cell 2
    have a3 := hA3.cell 3
    have a4 := hA3.cell 4
    have a5 := hA3.cell 5
    simp at a0 a1 a2 a3 a4 a5
    go_wp2_with fail
    refine (toDecided_is d Y N yc nc hy' hn' _ (hRy.below hb3') (hRn.below hb3')).mono ?_
    rintro e w4 ⟨Y4, N4, rfl, hY4, hN4, _, hb4⟩
    have hb4' := bth hb3' hb4
    have hA4 := hA3.below hb4 hA3.lt
    go_wp2_with fail
    refine (iSwitches_is d Y4 N4 _ _ hy' hn'  _ HV.out _ (hY4.rds.alloc _) (hN4.rds.alloc _)).mono ?_
    rintro e w5 ⟨rfl, hb5⟩
    have hb5' := bth hb4' (bth (bl1 _ _) hb5)
    have hA5 := (hA4.alloc _).below hb5 (hA4.alloc _).lt
    have hX5 := Blk.below (Blk.new w4 28 #[.int .i64 d.id, .int .i64 d.day, .int .i64 d.need, .slice Y4 d.yes.length d.yes.length, .slice N4 d.no.length d.no.length, .bool d.done]) hb5 (by simp)
    clear a0 a1 a2 a3 a4 a5
    have hA6 : ∀ W, Below w5.heap.size w5 W → Blk W w.heap.size 24 #[.int .i64 d.id, .int .i64 d.day, .int .i64 d.need, .slice Y d.yes.length yc, .slice N d.no.length nc, .bool d.done] := fun W h => hA5.below h hA5.lt
    have hX6 : ∀ W, Below w5.heap.size w5 W → Blk W w4.heap.size 28 #[.int .i64 d.id, .int .i64 d.day, .int .i64 d.need, .slice Y4 d.yes.length d.yes.length, .slice N4 d.no.length d.no.length, .bool d.done] := fun W h => hX5.below h hX5.lt
    have a0 := fun W hW => (hA6 W hW).cell 0
    have a1 := fun W hW => (hA6 W hW).cell 1
    have a2 := fun W hW => (hA6 W hW).cell 2
    have a3 := fun W hW => (hA6 W hW).cell 3
    have a4 := fun W hW => (hA6 W hW).cell 4
    have a5 := fun W hW => (hA6 W hW).cell 5
    simp at a0 a1 a2 a3 a4 a5
    have b0 := fun W hW => (hX6 W hW).cell 0
    have b1 := fun W hW => (hX6 W hW).cell 1
    have b2 := fun W hW => (hX6 W hW).cell 2
    have b3 := fun W hW => (hX6 W hW).cell 3
    have b4 := fun W hW => (hX6 W hW).cell 4
    have b5 := fun W hW => (hX6 W hW).cell 5
    simp at b0 b1 b2 b3 b4 b5
    clear hA6 hX6
    go_wp2
    go_region_held3 (fun W => Below w5.heap.size w5 W) (first | exact (Below.refl _ _).drew | assumption) ((first
      | (go_at_call 13; refine (toDecided_is d Y N yc nc hy' hn' _ (hRy.below hb5'.drew) (hRn.below hb5'.drew)).mono ?_; rintro e w6 ⟨Y6, N6, rfl, hY6, hN6, _, hb6⟩; have hk6 : Below w5.heap.size w5 w6 := bth (Below.refl _ _).drew hb6)
      | (go_at_call 15; refine (eqDecided_is d Y4 N4 Y6 N6 _ _ _ _ hy' hn' _ (hY4.rds.below (bth (bth (bl1 _ _) hb5) hk6)) (hN4.rds.below (bth (bth (bl1 _ _) hb5) hk6)) hY6.rds hN6.rds).mono ?_; rintro e w7 ⟨rfl, hb7⟩; have hk7 : Below w5.heap.size w5 w7 := bth hk6 hb7)))
    go_wp2
    go_ret
    exact ⟨rfl, bth hb5' hk7⟩
open Go.ChangeShapes Go.WideShapes Go.ChangeAt Go.Deep
set_option maxRecDepth 100000 in
theorem switchesNeeded_lifted (os : Os) (started : os.Started) (H : Type) (enc : TypeId × Value → H) :
    ReturnsInHanded {} Try.checked os 6 .any (Rows.fnExactSwitchesNeededSpec.pre6 enc Try.prog Try.f6 Rows.fnExactSwitchesNeededRow.domain false) (Rows.fnExactSwitchesNeededSpec.post enc Try.prog Try.f6 false true false false) := by
  refine law_lift (C := Try.checked) (rt := 4) prog_own started (by kernel_rfl) Try.func6
    (ChangeSpec.witness6 (enc := enc) (C := Try.checked) false ⟨#[], #[.agg #[.int .i64 0, .int .i64 0, .int .i64 0, .slice none 0 0, .slice none 0 0, .bool false]], []⟩ 8 (by kernel_rfl) (by kernel_rfl) (by kernel_rfl) (by kernel_rfl))
    prog_laid (by rw [Try.params6]; intro t ht; simp at ht; rcases ht with rfl; all_goals exact ⟨by kernel_rfl, of_decide_eq_true (by kernel_rfl)⟩) rfl Try.underlying4 rfl
    (by rw [Try.params6]; intro l hl; match l, hl with | [d0], _ => rfl) ?_
  intro W base args ds p hval hA
  rw [Try.params6] at hA hval
  obtain ⟨v0, d0, rfl, rfl, h0⟩ := trodAll_one hA
  obtain ⟨cs_0, rfl, _⟩ := okWide_struct Try.underlying24 (hval 0 24 v0 rfl rfl)
  obtain ⟨fuel_0, f_0⟩ := h0
  obtain ⟨d, Y, N, yc, nc, e_0, l3, l4, R3, R4, _, _⟩ := rd_Dec f_0
  rw [agg_of_list (cs := cs_0) e_0]
  exact law_switchesNeeded d Y N yc nc l3 l4  W R3 R4
theorem switchesNeeded_holds : Rows.FnExactSwitchesNeededSaid :=
  OpenClaim.holds_of_wide 6 Try.f6 rfl rfl rfl rfl rfl rfl rfl ⟨rfl, rfl, rfl, rfl, rfl⟩ rfl rfl rfl rfl rfl (by kernel_rfl) Try.func6 (by kernel_rfl)
    (of_decide_eq_true (by kernel_rfl)) (by unfold Func.isWrapper; rw [if_neg (of_decide_eq_false (by kernel_rfl))]; exact ⟨rfl, rfl⟩)
    (fun os started H enc _ => switchesNeeded_lifted os started H enc)
#print axioms switchesNeeded_holds
end Go.Proofs.Ythgaddnbgnennaa
