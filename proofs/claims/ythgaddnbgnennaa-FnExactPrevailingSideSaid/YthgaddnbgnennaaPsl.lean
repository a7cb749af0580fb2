/- The walk of the law of PrevailingSide: the program's answer is the reference's, the argument stays, and the result is its own memory. -/
import Derived.Test.YthgaddnbgnennaaPs
import Derived.Test.YthgaddnbgnennaaDec6
import Derived.Test.YthgaddnbgnennaaOwn2
import Derived.Deep.RegionHeld3
namespace Go.Proofs.Ythgaddnbgnennaa
open Go.RowKit Go.G9
set_option maxHeartbeats 4000000 in
theorem law_prevailingSide (d : Dec) (Y N : Option Addr) (yc nc : Nat) (hy : d.yes.length ≤ maxLen) (hn : d.no.length ≤ maxLen) (w : World) (hRy : Rds 1 intC w Y d.yes) (hRn : Rds 1 intC w N d.no) :
  Calls Try.prog 7 #[.agg #[.int .i64 d.id, .int .i64 d.day, .int .i64 d.need, .slice Y d.yes.length yc, .slice N d.no.length nc, .bool d.done]] w fun e w' => e = .returned (.bool true) ∧ Below w.heap.size w w' := by
  go_enter Try.func7, Try.ntmps7
  go_wp2_with fail
  refine (szDecided_is d Y N yc nc hy hn 1048576 (by omega) (by omega) _).mono ?_
  rintro e w1 ⟨r, rfl, _, _, hr, hb1⟩
  have hA := Blk.below (Blk.new w 24 #[.int .i64 d.id, .int .i64 d.day, .int .i64 d.need, .slice Y d.yes.length yc, .slice N d.no.length nc, .bool d.done]) hb1 (by simp)
  have hb1' := bth (bl1 _ _) hb1
  by_cases h0 : r < 0
  · go_wp2
    go_ret
    exact ⟨rfl, hb1'⟩
  obtain ⟨hy', hn'⟩ : d.yes.length ≤ 1048576 ∧ d.no.length ≤ 1048576 := by omega
  clear hr
  have a0 := hA.cell 0
  have a1 := hA.cell 1
  have a2 := hA.cell 2
  have a3 := hA.cell 3
  have a4 := hA.cell 4
  have a5 := hA.cell 5
  simp at a0 a1 a2 a3 a4 a5
  go_wp2_with fail
  refine (toDecided_is d Y N yc nc hy' hn' _ (hRy.below hb1') (hRn.below hb1')).mono ?_
  rintro e w2 ⟨Y2, N2, rfl, hY2, hN2, _, hb2⟩
  have hb2' := bth hb1' hb2
  go_wp2_with fail
  refine (sPrev_is d Y2 N2 _ _ hy' hn' hY2.nilOk hN2.nilOk _ hY2.rds hN2.rds).mono ?_
  rintro e w5 ⟨W5, c5, rfl, hW5, hb5⟩
  have hb5' := bth hb2' hb5
  have hA5 := hA.below (bth hb2 hb5) hA.lt
  have hcl := psL_len d
  clear a0 a1 a2 a3 a4 a5
  have a0 := hA5.cell 0
  have a1 := hA5.cell 1
  have a2 := hA5.cell 2
  have a3 := hA5.cell 3
  have a4 := hA5.cell 4
  have a5 := hA5.cell 5
  simp at a0 a1 a2 a3 a4 a5
  go_wp2_with fail
  refine (toDecided_is d Y N yc nc hy' hn' _ (hRy.below hb5') (hRn.below hb5')).mono ?_
  rintro e w6 ⟨Y6, N6, rfl, hY6, hN6, hne6, hb6⟩
  have hb6' := bth hb5' hb6
  have hX8 := Blk.new w6 28 #[.int .i64 d.id, .int .i64 d.day, .int .i64 d.need, .slice Y6 d.yes.length d.yes.length, .slice N6 d.no.length d.no.length, .bool d.done]
  have hc8 := bl1 w6 (.cells #[.int .i64 d.id, .int .i64 d.day, .int .i64 d.need, .slice Y6 d.yes.length d.yes.length, .slice N6 d.no.length d.no.length, .bool d.done] 28)
  have hb8' := bth hb6' hc8
  go_wp2_with fail
  refine (iPrev_is d Y6 N6 _ _ hy' hn' hY6.nilOk hN6.nilOk _ (hY6.rds.alloc _) (hN6.rds.alloc _)).mono ?_
  rintro e w9 ⟨G9, c9, rfl, hG9, hb9⟩
  have hc9 := bth hc8 hb9
  have hb9' := bth hb8' hb9
  have hd9 := bth hb6 hc9
  go_wp2_with fail
  refine (eqIntS_is G9 W5 c9 c5 (psL d) (by omega) _ hG9.rds (hW5.rds.below hd9)).mono ?_
  rintro e w10 ⟨rfl, hb10⟩
  have hb10' := bth hb9' hb10
  have hd10 := bth hd9 hb10
  have hA10 := hA5.below hd10 hA5.lt
  have hX10 := hX8.below (bth hb9 hb10) hX8.lt
  have hc10 := bth hc9 hb10
  have hA11 : ∀ W, Below w10.heap.size w10 W → Blk W w.heap.size 24 #[.int .i64 d.id, .int .i64 d.day, .int .i64 d.need, .slice Y d.yes.length yc, .slice N d.no.length nc, .bool d.done] := fun W h => hA10.below h hA10.lt
  have hX11 : ∀ W, Below w10.heap.size w10 W → Blk W w6.heap.size 28 #[.int .i64 d.id, .int .i64 d.day, .int .i64 d.need, .slice Y6 d.yes.length d.yes.length, .slice N6 d.no.length d.no.length, .bool d.done] := fun W h => hX10.below h hX10.lt
  clear a0 a1 a2 a3 a4 a5
  have a0 := fun W hW => (hA11 W hW).cell 0
  have a1 := fun W hW => (hA11 W hW).cell 1
  have a2 := fun W hW => (hA11 W hW).cell 2
  have a3 := fun W hW => (hA11 W hW).cell 3
  have a4 := fun W hW => (hA11 W hW).cell 4
  have a5 := fun W hW => (hA11 W hW).cell 5
  simp at a0 a1 a2 a3 a4 a5
  have b0 := fun W hW => (hX11 W hW).cell 0
  have b1 := fun W hW => (hX11 W hW).cell 1
  have b2 := fun W hW => (hX11 W hW).cell 2
  have b3 := fun W hW => (hX11 W hW).cell 3
  have b4 := fun W hW => (hX11 W hW).cell 4
  have b5 := fun W hW => (hX11 W hW).cell 5
  simp at b0 b1 b2 b3 b4 b5
  clear hA11 hX11
  go_wp2
  go_region_held3 (fun W => Below w10.heap.size w10 W) (first | exact (Below.refl _ _).drew | assumption) ((first
    | (go_at_call 13; refine (toDecided_is d Y N yc nc hy' hn' _ (hRy.below hb10'.drew) (hRn.below hb10'.drew)).mono ?_; rintro e w11 ⟨Y11, N11, rfl, hY11, hN11, _, hb11⟩; have hk11 : Below w10.heap.size w10 w11 := bth (Below.refl _ _).drew hb11)
    | (go_at_call 15; refine (eqDecided_is d Y6 N6 Y11 N11 _ _ _ _ hy' hn' _ (hY6.rds.below (bth hc10 hk11)) (hN6.rds.below (bth hc10 hk11)) hY11.rds hN11.rds).mono ?_; rintro e w12 ⟨rfl, hb12⟩; have hk12 : Below w10.heap.size w10 w12 := bth hk11 hb12)))
  have hb12' := bth hb10' hk12
  clear a0 a1 a2 a3 a4 a5 b0 b1 b2 b3 b4 b5
  have h916 := bth hb10 hk12
  have h616 := bth hc9 h916
  have h516 := bth hb6 h616
  have hX16 := hX10.below hk12 hX10.lt
  have b0 := hX16.cell 0
  have b1 := hX16.cell 1
  have b2 := hX16.cell 2
  have b3 := hX16.cell 3
  have b4 := hX16.cell 4
  have b5 := hX16.cell 5
  simp at b0 b1 b2 b3 b4 b5
  have z6 := hb6.size
  have z9 := hb9.size
  simp at z9
  have z16 := h916.size
  have lY := hY6.lt
  have lN := hN6.lt
  have lG := hG9.lt
  simp at lG
  go_wp2_with fail
  refine (markDecided_is w5.heap.size d Y6 N6 _ _ hy' hn' 1 (by omega) (by omega) _ h516.size (hY6.later h616) (hN6.later h616) hne6).mono ?_
  rintro e w17 ⟨rfl, hm17, hM17⟩
  have hG17 := hM17 _ _ _ (hG9.later h916) (fun k hk => ⟨own_ne (C := w6.heap.size) (fun k h => by have := (lG k h).1; omega) (fun k h => (lY k h).2) k hk, own_ne (C := w6.heap.size) (fun k h => by have := (lG k h).1; omega) (fun k h => (lN k h).2) k hk⟩)
  have z17 := hm17.size
  clear b0 b1 b2 b3 b4 b5 hM17
  have h519 := h516.trans hm17
  go_wp2_with fail
  refine (eqIntS_is G9 W5 c9 c5 _ (by omega) _ hG17.rds (hW5.rds.below h519)).mono ?_
  rintro e w20 ⟨rfl, hb20⟩
  have hG20 := hG17.later hb20
  have h520 := h519.trans (hb20.mono h519.size)
  have z20 := hb20.size
  go_wp2_with fail
  refine (markIntS_is _ G9 c9 _ (by omega) 1 (by omega) (by omega) _ hG20).mono ?_
  rintro e w21 ⟨rfl, hG21, hg21⟩
  have hm21 : Below (w6.heap.size + 1) w20 w21 := grown_below hg21 (by omega) (fun k hk => (lG k hk).1)
  have h521 := h520.trans (hm21.mono (by omega))
  go_wp2_with fail
  refine (heldMark_is G9 c9 _ (by omega) 1 (by omega) (by omega) _ hG21.rds).mono ?_
  rintro e w21 ⟨rfl, rfl⟩
  have hb21' := bth hb5' h521
  have hA21 := hA5.below h521 hA5.lt
  have a0 := hA21.cell 0
  have a1 := hA21.cell 1
  have a2 := hA21.cell 2
  have a3 := hA21.cell 3
  have a4 := hA21.cell 4
  have a5 := hA21.cell 5
  simp at a0 a1 a2 a3 a4 a5
  go_wp2_with fail
  refine (toDecided_is d Y N yc nc hy' hn' _ (hRy.below hb21') (hRn.below hb21')).mono ?_
  rintro e w22 ⟨Y22, N22, rfl, hY22, hN22, _, hb22⟩
  have hb22' := bth hb21' hb22
  go_wp2_with fail
  refine (iPrev_is d Y22 N22 _ _ hy' hn' hY22.nilOk hN22.nilOk _ hY22.rds hN22.rds).mono ?_
  rintro e w25 ⟨H25, c25, rfl, hH25, hb25⟩
  have h2125 := bth hb22 hb25
  go_wp2_with fail
  refine (eqIntS_is H25 W5 c25 c5 _ (by omega) _ hH25.rds (hW5.rds.below (bth h521 h2125))).mono ?_
  rintro e w26 ⟨rfl, hb26⟩
  go_wp2_with fail
  refine (heldMark_is G9 c9 _ (by omega) 1 (by omega) (by omega) _ (hG21.later (bth h2125 hb26)).rds).mono ?_
  rintro e w27 ⟨rfl, rfl⟩
  go_wp2
  go_ret
  exact ⟨rfl, bth hb21' (bth h2125 hb26)⟩
end Go.Proofs.Ythgaddnbgnennaa
