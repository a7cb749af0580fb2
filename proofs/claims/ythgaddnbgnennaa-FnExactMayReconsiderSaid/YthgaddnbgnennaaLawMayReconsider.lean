/- The law of MayReconsider: the program's answer is the reference's, and the argument is left as it was. -/
import Derived.Test.YthgaddnbgnennaaDec7
import Derived.Test.YthgaddnbgnennaaRead
import Derived.Deep.RegionHeld3
namespace Go.Proofs.Ythgaddnbgnennaa
open Go.RowKit Go.G9
set_option maxHeartbeats 1000000 in
theorem law_mayReconsider (d : Dec) (Y N : Option Addr) (yc nc : Nat) (hy : d.yes.length ≤ maxLen) (hn : d.no.length ≤ maxLen) (m : Int) (t : Int) (w : World) (hRy : Rds 1 intC w Y d.yes) (hRn : Rds 1 intC w N d.no) :
  Calls Try.prog 3 #[.agg #[.int .i64 d.id, .int .i64 d.day, .int .i64 d.need, .slice Y d.yes.length yc, .slice N d.no.length nc, .bool d.done], .int .i64 m, .int .i64 t] w fun e w' => e = .returned (.bool true) ∧ Below w.heap.size w w' := by
  obtain ⟨va, vb, hv⟩ := mayOut_form d m t
  have HV := Lib.hid hv; clear hv
  go_enter Try.func3, Try.ntmps3
  go_wp2_with fail
  refine (szDecided_is d Y N yc nc hy hn 1048576 (by omega) (by omega) _).mono ?_
  rintro e w1 ⟨r, rfl, _, _, hr, hb1⟩
  have hA := Blk.below (Blk.new w 24 #[.int .i64 d.id, .int .i64 d.day, .int .i64 d.need, .slice Y d.yes.length yc, .slice N d.no.length nc, .bool d.done]) hb1 (by simp)
  have hb1' := bth (bl1 _ _) hb1
  by_cases h0 : r < 0
  · go_wp2
    go_ret
    exact ⟨rfl, hb1'⟩
  · obtain ⟨hy', hn'⟩ : d.yes.length ≤ 1048576 ∧ d.no.length ≤ 1048576 := by omega
    clear hr
    have a0 := hA.cell 0
    have a1 := hA.cell 1
    have a2 := hA.cell 2
    have a3 := hA.cell 3
    have a4 := hA.cell 4
    have a5 := hA.cell 5
    simp at a0 a1 a2 a3 a4 a5
    go_wp2_with fail
    refine (toDecided_is d Y N yc nc hy' hn' _ (hRy.below hb1') (hRn.below hb1')).mono ?_
    rintro e w2 ⟨Y2, N2, rfl, hY2, hN2, _, hb2⟩
    have hb2' := bth hb1' hb2
    have hA2 := hA.below hb2 hA.lt
    go_wp2_with fail
    refine (sMay_is d Y2 N2 _ _ hy' hn' hY2.nilOk hN2.nilOk m t _ HV.out _ hY2.rds hN2.rds).mono ?_
    rintro e w3 ⟨rfl, hb3⟩
    have hb3' := bth hb2' hb3
    have hA3 := hA2.below hb3 hA2.lt
    clear a0 a1 a2 a3 a4 a5
    have a0 := hA3.cell 0
    have a1 := hA3.cell 1
    have a2 := hA3.cell 2
    have a3 := hA3.cell 3
    have a4 := hA3.cell 4
    have a5 := hA3.cell 5
    simp at a0 a1 a2 a3 a4 a5
    go_wp2_with fail
    refine (toDecided_is d Y N yc nc hy' hn' _ (hRy.below hb3') (hRn.below hb3')).mono ?_
    rintro e w4 ⟨Y4, N4, rfl, hY4, hN4, _, hb4⟩
    have hb4' := bth hb3' hb4
    have hA4 := hA3.below hb4 hA3.lt
    go_wp2_with fail
    refine (iMay_is d Y4 N4 _ _ hy' hn' m t _ HV.out _ (hY4.rds.alloc _) (hN4.rds.alloc _)).mono ?_
    rintro e w5 ⟨rfl, hb5⟩
    have hb5' := bth hb4' (bth (bl1 _ _) hb5)
    have hA5 := (hA4.alloc _).below hb5 (hA4.alloc _).lt
    have hX5 := Blk.below (Blk.new w4 28 #[.int .i64 d.id, .int .i64 d.day, .int .i64 d.need, .slice Y4 d.yes.length d.yes.length, .slice N4 d.no.length d.no.length, .bool d.done]) hb5 (by simp)
    clear a0 a1 a2 a3 a4 a5
    have hA6 : ∀ W, Below w5.heap.size w5 W → Blk W w.heap.size 24 #[.int .i64 d.id, .int .i64 d.day, .int .i64 d.need, .slice Y d.yes.length yc, .slice N d.no.length nc, .bool d.done] := fun W h => hA5.below h hA5.lt
    have hX6 : ∀ W, Below w5.heap.size w5 W → Blk W w4.heap.size 28 #[.int .i64 d.id, .int .i64 d.day, .int .i64 d.need, .slice Y4 d.yes.length d.yes.length, .slice N4 d.no.length d.no.length, .bool d.done] := fun W h => hX5.below h hX5.lt
    have a0 := fun W hW => (hA6 W hW).cell 0
    have a1 := fun W hW => (hA6 W hW).cell 1
    have a2 := fun W hW => (hA6 W hW).cell 2
    have a3 := fun W hW => (hA6 W hW).cell 3
    have a4 := fun W hW => (hA6 W hW).cell 4
    have a5 := fun W hW => (hA6 W hW).cell 5
    simp at a0 a1 a2 a3 a4 a5
    have b0 := fun W hW => (hX6 W hW).cell 0
    have b1 := fun W hW => (hX6 W hW).cell 1
    have b2 := fun W hW => (hX6 W hW).cell 2
    have b3 := fun W hW => (hX6 W hW).cell 3
    have b4 := fun W hW => (hX6 W hW).cell 4
    have b5 := fun W hW => (hX6 W hW).cell 5
    simp at b0 b1 b2 b3 b4 b5
    clear hA6 hX6
    go_wp2
    go_region_held3 (fun W => Below w5.heap.size w5 W) (first | exact (Below.refl _ _).drew | assumption) ((first
      | (go_at_call 13; refine (toDecided_is d Y N yc nc hy' hn' _ (hRy.below hb5'.drew) (hRn.below hb5'.drew)).mono ?_; rintro e w6 ⟨Y6, N6, rfl, hY6, hN6, _, hb6⟩; have hk6 : Below w5.heap.size w5 w6 := bth (Below.refl _ _).drew hb6)
      | (go_at_call 15; refine (eqDecided_is d Y4 N4 Y6 N6 _ _ _ _ hy' hn' _ (hY4.rds.below (bth (bth (bl1 _ _) hb5) hk6)) (hN4.rds.below (bth (bth (bl1 _ _) hb5) hk6)) hY6.rds hN6.rds).mono ?_; rintro e w7 ⟨rfl, hb7⟩; have hk7 : Below w5.heap.size w5 w7 := bth hk6 hb7)))
    go_wp2
    go_ret
    exact ⟨rfl, bth hb5' hk7⟩
open Go.ChangeShapes Go.WideShapes Go.ChangeAt Go.Deep
set_option maxRecDepth 100000 in
theorem mayReconsider_lifted (os : Os) (started : os.Started) (H : Type) (enc : TypeId × Value → H) :
    ReturnsInHanded {} Try.checked os 3 .any (Rows.fnExactMayReconsiderSpec.pre6 enc Try.prog Try.f3 Rows.fnExactMayReconsiderRow.domain false) (Rows.fnExactMayReconsiderSpec.post enc Try.prog Try.f3 false true false false) := by
  refine law_lift (C := Try.checked) (rt := 4) prog_own started (by kernel_rfl) Try.func3
    (ChangeSpec.witness6 (enc := enc) (C := Try.checked) false ⟨#[], #[.agg #[.int .i64 0, .int .i64 0, .int .i64 0, .slice none 0 0, .slice none 0 0, .bool false],  .int .i64 0,  .int .i64 0], []⟩ 8 (by kernel_rfl) (by kernel_rfl) (by kernel_rfl) (by kernel_rfl))
    prog_laid (by rw [Try.params3]; intro t ht; simp at ht; rcases ht with rfl | rfl | rfl; all_goals exact ⟨by kernel_rfl, of_decide_eq_true (by kernel_rfl)⟩) rfl Try.underlying4 rfl
    (by rw [Try.params3]; intro l hl; match l, hl with | [d0, d1, d2], _ => rfl) ?_
  intro W base args ds p hval hA
  rw [Try.params3] at hA hval
  obtain ⟨v0, v1, v2, d0, d1, d2, p0, p1, p2, rfl, rfl, rfl, h0, h1, h2⟩ := trodAll_three hA
  obtain ⟨m, rfl, rfl, rfl, wm⟩ := open_int Try.underlying3 (hval 1 3 v1 rfl rfl) h1
  obtain ⟨t, rfl, rfl, rfl, wt⟩ := open_int Try.underlying3 (hval 2 3 v2 rfl rfl) h2
  obtain ⟨cs_0, rfl, _⟩ := okWide_struct Try.underlying24 (hval 0 24 v0 rfl rfl)
  obtain ⟨fuel_0, f_0⟩ := h0
  obtain ⟨d, Y, N, yc, nc, e_0, l3, l4, R3, R4, _, _⟩ := rd_Dec f_0
  rw [agg_of_list (cs := cs_0) e_0]
  exact law_mayReconsider d Y N yc nc l3 l4 m t W R3 R4
theorem mayReconsider_holds : Rows.FnExactMayReconsiderSaid :=
  OpenClaim.holds_of_wide 3 Try.f3 rfl rfl rfl rfl rfl rfl rfl ⟨rfl, rfl, rfl, rfl, rfl⟩ rfl rfl rfl rfl rfl (by kernel_rfl) Try.func3 (by kernel_rfl)
    (of_decide_eq_true (by kernel_rfl)) (by unfold Func.isWrapper; rw [if_neg (of_decide_eq_false (by kernel_rfl))]; exact ⟨rfl, rfl⟩)
    (fun os started H enc _ => mayReconsider_lifted os started H enc)
#print axioms mayReconsider_holds
end Go.Proofs.Ythgaddnbgnennaa
