/- The walk of the law of ChangedMinds: the program's answer is the reference's, the arguments stay, and the result is its own memory. -/
import Derived.Test.YtdimhbolckbjdaaDec5
import Derived.Test.YtdimhbolckbjdaaDec6
import Derived.Deep.RegionHeld3
namespace Go.Proofs.Ytdimhbolckbjdaa
open Go.RowKit Go.G9
theorem cmL_len (d : Dec) (ys ns : List Int) : (cmL d ys ns).length ≤ 99 := by
  unfold cmL; split
  · exact mems_len _ _
  · simp
theorem heldMark_is (A : Option Addr) (c : Nat) (xs : List Int) (hn : xs.length ≤ 1048576) (m : Int) (h0 : 0 ≤ m) (h1 : m ≤ 1000000000) (w : World) (hR : Rds 1 intC w A (markTo m xs xs.length)) :
  Calls Try.prog 79 #[.slice A xs.length c, .int .i64 m] w fun e w' => e = .returned (.int .i64 (m + xs.length)) ∧ w' = w := by
  have h := heldIntS_is A c (markTo m xs xs.length) (by rw [markTo_len]; exact hn) m h0 h1 (fun _ _ h => markTo_at h) w hR
  rw [markTo_len] at h
  exact h
theorem own_ne {C : Nat} {v u : Value} (h : ∀ k, v.ownBlock = some k → C ≤ k) (h' : ∀ k, u.ownBlock = some k → k < C) : ∀ k, v.ownBlock = some k → some k ≠ u.ownBlock := fun k hk e => by
  have := h k hk; have := h' k e.symm; omega
set_option maxHeartbeats 4000000 in
theorem law_changedMinds (d : Dec) (Y N E F : Option Addr) (yc nc ec fc : Nat) (es fs : List Int) (hy : d.yes.length ≤ maxLen) (hn : d.no.length ≤ maxLen) (w : World) (hRy : Rds 1 intC w Y d.yes) (hRn : Rds 1 intC w N d.no) (hRe : Rds 1 intC w E es) (hRf : Rds 1 intC w F fs) :
  Calls Try.prog 14 #[.agg #[.int .i64 d.id, .int .i64 d.day, .int .i64 d.need, .slice Y d.yes.length yc, .slice N d.no.length nc, .bool d.done], .slice E es.length ec, .slice F fs.length fc] w fun e w' => e = .returned (.bool true) ∧ Below w.heap.size w w' := by
  by_cases he : es.length ≤ 1048576
  case neg =>
    go_enter Try.func14, Try.ntmps14
    go_wp2
    go_ret
    exact ⟨rfl, bl1 _ _⟩
  by_cases hf : fs.length ≤ 1048576
  case neg =>
    go_enter Try.func14, Try.ntmps14
    go_wp2
    go_ret
    exact ⟨rfl, bl1 _ _⟩
  go_enter Try.func14, Try.ntmps14
  go_wp2_with fail
  refine (szDecided_is d Y N yc nc hy hn 1048576 (by omega) (by omega) _).mono ?_
  rintro e w1 ⟨r, rfl, _, _, hr, hb1⟩
  have hA := Blk.below (Blk.new w 48 #[.int .i64 d.id, .int .i64 d.day, .int .i64 d.need, .slice Y d.yes.length yc, .slice N d.no.length nc, .bool d.done]) hb1 (by simp)
  have hb1' := bth (bl1 _ _) hb1
  by_cases h0 : r < 0
  · go_wp2
    go_ret
    exact ⟨rfl, hb1'⟩
  obtain ⟨hy', hn'⟩ : d.yes.length ≤ 1048576 ∧ d.no.length ≤ 1048576 := by omega
  clear hr
  have a0 := hA.cell 0
  have a1 := hA.cell 1
  have a2 := hA.cell 2
  have a3 := hA.cell 3
  have a4 := hA.cell 4
  have a5 := hA.cell 5
  simp at a0 a1 a2 a3 a4 a5
  go_wp2_with fail
  refine (toDecided_is d Y N yc nc hy' hn' _ (hRy.below hb1') (hRn.below hb1')).mono ?_
  rintro e w2 ⟨Y2, N2, rfl, hY2, hN2, _, hb2⟩
  have hb2' := bth hb1' hb2
  go_wp2_with fail
  refine (toIntS_is E ec es he _ (hRe.below hb2')).mono ?_
  rintro e w3 ⟨E3, rfl, hE3, hb3⟩
  have hb3' := bth hb2' hb3
  go_wp2_with fail
  refine (toIntS_is F fc fs hf _ (hRf.below hb3')).mono ?_
  rintro e w4 ⟨F4, rfl, hF4, hb4⟩
  have hb4' := bth hb3' hb4
  go_wp2_with fail
  refine (sChangedMinds_is d Y2 N2 _ _ hy' hn' E3 F4 _ _ es fs he hf _ (hY2.rds.below (bth hb3 hb4)) (hN2.rds.below (bth hb3 hb4)) (hE3.rds.below hb4) hF4.rds).mono ?_
  rintro e w5 ⟨W5, c5, rfl, hW5, hb5⟩
  have hb5' := bth hb4' hb5
  have hA5 := hA.below (bth hb2 (bth hb3 (bth hb4 hb5))) hA.lt
  have hcl := cmL_len d es fs
  clear a0 a1 a2 a3 a4 a5
  have a0 := hA5.cell 0
  have a1 := hA5.cell 1
  have a2 := hA5.cell 2
  have a3 := hA5.cell 3
  have a4 := hA5.cell 4
  have a5 := hA5.cell 5
  simp at a0 a1 a2 a3 a4 a5
  go_wp2_with fail
  refine (toDecided_is d Y N yc nc hy' hn' _ (hRy.below hb5') (hRn.below hb5')).mono ?_
  rintro e w6 ⟨Y6, N6, rfl, hY6, hN6, hne6, hb6⟩
  have hb6' := bth hb5' hb6
  go_wp2_with fail
  refine (toIntS_is E ec es he _ ((hRe.below hb6').alloc _)).mono ?_
  rintro e w7 ⟨E7, rfl, hE7, hb7⟩
  have hX7 := Blk.below (Blk.new w6 51 #[.int .i64 d.id, .int .i64 d.day, .int .i64 d.need, .slice Y6 d.yes.length d.yes.length, .slice N6 d.no.length d.no.length, .bool d.done]) hb7 (by simp)
  have hc7 := bth (bl1 _ _) hb7
  have hb7' := bth hb6' hc7
  go_wp2_with fail
  refine (toIntS_is F fc fs hf _ (hRf.below hb7')).mono ?_
  rintro e w8 ⟨F8, rfl, hF8, hb8⟩
  have hb8' := bth hb7' hb8
  have hX8 := hX7.below hb8 hX7.lt
  have hc8 := bth hc7 hb8
  have b0 := hX8.cell 0
  have b1 := hX8.cell 1
  have b2 := hX8.cell 2
  have b3 := hX8.cell 3
  have b4 := hX8.cell 4
  have b5 := hX8.cell 5
  simp at b0 b1 b2 b3 b4 b5
  go_wp2_with fail
  refine (changedMinds_is d Y6 N6 _ _ hy' hn' E7 F8 _ _ es fs he hf _ (hY6.rds.below hc8) (hN6.rds.below hc8) (hE7.rds.below hb8) hF8.rds).mono ?_
  rintro e w9 ⟨G9, c9, rfl, hG9, hb9⟩
  have hc9 := bth hc8 hb9
  have hb9' := bth hb8' hb9
  have hd9 := bth hb6 hc9
  go_wp2_with fail
  refine (eqIntS_is G9 W5 c9 c5 (cmL d es fs) (by omega) _ hG9.rds (hW5.rds.below hd9)).mono ?_
  rintro e w10 ⟨rfl, hb10⟩
  have hb10' := bth hb9' hb10
  have hd10 := bth hd9 hb10
  have hA10 := hA5.below hd10 hA5.lt
  have hX10 := hX8.below (bth hb9 hb10) hX8.lt
  have hc10 := bth hc9 hb10
  have hA11 : ∀ W, Below w10.heap.size w10 W → Blk W w.heap.size 48 #[.int .i64 d.id, .int .i64 d.day, .int .i64 d.need, .slice Y d.yes.length yc, .slice N d.no.length nc, .bool d.done] := fun W h => hA10.below h hA10.lt
  have hX11 : ∀ W, Below w10.heap.size w10 W → Blk W w6.heap.size 51 #[.int .i64 d.id, .int .i64 d.day, .int .i64 d.need, .slice Y6 d.yes.length d.yes.length, .slice N6 d.no.length d.no.length, .bool d.done] := fun W h => hX10.below h hX10.lt
  clear a0 a1 a2 a3 a4 a5 b0 b1 b2 b3 b4 b5
  have a0 := fun W hW => (hA11 W hW).cell 0
  have a1 := fun W hW => (hA11 W hW).cell 1
  have a2 := fun W hW => (hA11 W hW).cell 2
  have a3 := fun W hW => (hA11 W hW).cell 3
  have a4 := fun W hW => (hA11 W hW).cell 4
  have a5 := fun W hW => (hA11 W hW).cell 5
  simp at a0 a1 a2 a3 a4 a5
  have b0 := fun W hW => (hX11 W hW).cell 0
  have b1 := fun W hW => (hX11 W hW).cell 1
  have b2 := fun W hW => (hX11 W hW).cell 2
  have b3 := fun W hW => (hX11 W hW).cell 3
  have b4 := fun W hW => (hX11 W hW).cell 4
  have b5 := fun W hW => (hX11 W hW).cell 5
  simp at b0 b1 b2 b3 b4 b5
  clear hA11 hX11
  go_wp2
  go_region_held3 (fun W => Below w10.heap.size w10 W) (first | exact (Below.refl _ _).drew | assumption) ((first
    | (go_at_call 40; refine (toDecided_is d Y N yc nc hy' hn' _ (hRy.below hb10'.drew) (hRn.below hb10'.drew)).mono ?_; rintro e w11 ⟨Y11, N11, rfl, hY11, hN11, _, hb11⟩; have hk11 : Below w10.heap.size w10 w11 := bth (Below.refl _ _).drew hb11)
    | (go_at_call 42; refine (eqDecided_is d Y6 N6 Y11 N11 _ _ _ _ hy' hn' _ (hY6.rds.below (bth hc10 hk11)) (hN6.rds.below (bth hc10 hk11)) hY11.rds hN11.rds).mono ?_; rintro e w12 ⟨rfl, hb12⟩; have hk12 : Below w10.heap.size w10 w12 := bth hk11 hb12)))
  have hb12' := bth hb10' hk12
  clear a0 a1 a2 a3 a4 a5 b0 b1 b2 b3 b4 b5
  go_wp2_with fail
  refine (toIntS_is E ec es he _ (hRe.below hb12')).mono ?_
  rintro e w13 ⟨E13, rfl, hE13, hb13⟩
  have hb13' := bth hb12' hb13
  go_wp2_with fail
  refine (eqIntS_is E7 E13 _ _ es he _ (hE7.rds.below (bth hb8 (bth hb9 (bth hb10 (bth hk12 hb13))))) hE13.rds).mono ?_
  rintro e w14 ⟨rfl, hb14⟩
  have hb14' := bth hb13' hb14
  go_wp2_with fail
  refine (toIntS_is F fc fs hf _ (hRf.below hb14')).mono ?_
  rintro e w15 ⟨F15, rfl, hF15, hb15⟩
  have hk15 := bth hk12 (bth hb13 (bth hb14 hb15))
  go_wp2_with fail
  refine (eqIntS_is F8 F15 _ _ fs hf _ (hF8.rds.below (bth hb9 (bth hb10 hk15))) hF15.rds).mono ?_
  rintro e w16 ⟨rfl, hb16⟩
  have hk16 := bth hk15 hb16
  have h916 := bth hb10 hk16
  have h816 := bth hb9 h916
  have h716 := bth hb8 h816
  have h616 := bth hc7 h716
  have h516 := bth hb6 h616
  have hX16 := hX10.below hk16 hX10.lt
  have b0 := hX16.cell 0
  have b1 := hX16.cell 1
  have b2 := hX16.cell 2
  have b3 := hX16.cell 3
  have b4 := hX16.cell 4
  have b5 := hX16.cell 5
  simp at b0 b1 b2 b3 b4 b5
  have z6 := hb6.size
  have z7 := hb7.size
  simp at z7
  have z8 := hb8.size
  have z9 := hb9.size
  have z16 := h916.size
  have lY := hY6.lt
  have lN := hN6.lt
  have lE := hE7.lt
  simp at lE
  have lF := hF8.lt
  have lG := hG9.lt
  go_wp2_with fail
  refine (markDecided_is w5.heap.size d Y6 N6 _ _ hy' hn' 1 (by omega) (by omega) _ h516.size (hY6.later h616) (hN6.later h616) hne6).mono ?_
  rintro e w17 ⟨rfl, hm17, hM17⟩
  have hE17 := hM17 _ _ _ (hE7.later h716) (fun k hk => ⟨own_ne (C := w6.heap.size) (fun k h => by have := (lE k h).1; omega) (fun k h => (lY k h).2) k hk, own_ne (C := w6.heap.size) (fun k h => by have := (lE k h).1; omega) (fun k h => (lN k h).2) k hk⟩)
  have hF17 := hM17 _ _ _ (hF8.later h816) (fun k hk => ⟨own_ne (C := w6.heap.size) (fun k h => by have := (lF k h).1; omega) (fun k h => (lY k h).2) k hk, own_ne (C := w6.heap.size) (fun k h => by have := (lF k h).1; omega) (fun k h => (lN k h).2) k hk⟩)
  have hG17 := hM17 _ _ _ (hG9.later h916) (fun k hk => ⟨own_ne (C := w6.heap.size) (fun k h => by have := (lG k h).1; omega) (fun k h => (lY k h).2) k hk, own_ne (C := w6.heap.size) (fun k h => by have := (lG k h).1; omega) (fun k h => (lN k h).2) k hk⟩)
  have z17 := hm17.size
  clear b0 b1 b2 b3 b4 b5 hM17
  go_wp2_with fail
  refine (markIntS_is _ E7 _ es he _ (by omega) (by omega) _ hE17).mono ?_
  rintro e w18 ⟨rfl, hE18, hg18⟩
  have hF18 := hF17.kept hg18 (own_ne (C := w7.heap.size) (fun k h => (lF k h).1) (fun k h => (lE k h).2))
  have hG18 := hG17.kept hg18 (own_ne (C := w7.heap.size) (fun k h => by have := (lG k h).1; omega) (fun k h => (lE k h).2))
  have hm18 : Below w5.heap.size w17 w18 := grown_below hg18 (by omega) (fun k hk => by have := (lE k hk).1; omega)
  have z18 := hm18.size
  go_wp2_with fail
  refine (markIntS_is _ F8 _ fs hf _ (by omega) (by omega) _ hF18).mono ?_
  rintro e w19 ⟨rfl, hF19, hg19⟩
  have hG19 := hG18.kept hg19 (own_ne (C := w8.heap.size) (fun k h => (lG k h).1) (fun k h => (lF k h).2))
  have hm19 : Below w5.heap.size w18 w19 := grown_below hg19 (by omega) (fun k hk => by have := (lF k hk).1; omega)
  have h519 := h516.trans (hm17.trans (hm18.trans hm19))
  have z19 := hm19.size
  go_wp2_with fail
  refine (eqIntS_is G9 W5 c9 c5 _ (by omega) _ hG19.rds (hW5.rds.below h519)).mono ?_
  rintro e w20 ⟨rfl, hb20⟩
  have hG20 := hG19.later hb20
  have h520 := h519.trans (hb20.mono h519.size)
  have z20 := hb20.size
  go_wp2_with fail
  refine (markIntS_is _ G9 c9 _ (by omega) 1 (by omega) (by omega) _ hG20).mono ?_
  rintro e w21 ⟨rfl, hG21, hg21⟩
  have hm21 : Below w8.heap.size w20 w21 := grown_below hg21 (by omega) (fun k hk => (lG k hk).1)
  have h521 := h520.trans (hm21.mono (by omega))
  go_wp2_with fail
  refine (heldMark_is G9 c9 _ (by omega) 1 (by omega) (by omega) _ hG21.rds).mono ?_
  rintro e w21 ⟨rfl, rfl⟩
  have hb21' := bth hb5' h521
  have hA21 := hA5.below h521 hA5.lt
  have a0 := hA21.cell 0
  have a1 := hA21.cell 1
  have a2 := hA21.cell 2
  have a3 := hA21.cell 3
  have a4 := hA21.cell 4
  have a5 := hA21.cell 5
  simp at a0 a1 a2 a3 a4 a5
  go_wp2_with fail
  refine (toDecided_is d Y N yc nc hy' hn' _ (hRy.below hb21') (hRn.below hb21')).mono ?_
  rintro e w22 ⟨Y22, N22, rfl, hY22, hN22, _, hb22⟩
  have hb22' := bth hb21' hb22
  go_wp2_with fail
  refine (toIntS_is E ec es he _ (hRe.below hb22')).mono ?_
  rintro e w23 ⟨E23, rfl, hE23, hb23⟩
  have hb23' := bth hb22' hb23
  go_wp2_with fail
  refine (toIntS_is F fc fs hf _ (hRf.below hb23')).mono ?_
  rintro e w24 ⟨F24, rfl, hF24, hb24⟩
  go_wp2_with fail
  refine (changedMinds_is d Y22 N22 _ _ hy' hn' E23 F24 _ _ es fs he hf _ (hY22.rds.below (bth hb23 hb24)) (hN22.rds.below (bth hb23 hb24)) (hE23.rds.below hb24) hF24.rds).mono ?_
  rintro e w25 ⟨H25, c25, rfl, hH25, hb25⟩
  have h2125 := bth hb22 (bth hb23 (bth hb24 hb25))
  go_wp2_with fail
  refine (eqIntS_is H25 W5 c25 c5 _ (by omega) _ hH25.rds (hW5.rds.below (bth h521 h2125))).mono ?_
  rintro e w26 ⟨rfl, hb26⟩
  go_wp2_with fail
  refine (heldMark_is G9 c9 _ (by omega) 1 (by omega) (by omega) _ (hG21.later (bth h2125 hb26)).rds).mono ?_
  rintro e w27 ⟨rfl, rfl⟩
  go_wp2
  go_ret
  exact ⟨rfl, bth hb21' (bth h2125 hb26)⟩
end Go.Proofs.Ytdimhbolckbjdaa
