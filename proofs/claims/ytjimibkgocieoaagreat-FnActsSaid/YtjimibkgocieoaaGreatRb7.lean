/- Texts of the proof: walks of the functions, and what they compute. -/
import Derived.Deep.Cut
import Derived.Test.YtjimibkgocieoaaGreatRb6
import Derived.Test.YtjimibkgocieoaaGreatRb0
set_option maxHeartbeats 16000000
set_option maxRecDepth 100000
namespace Go.Proofs.YtjimibkgocieoaaGreat
open Go.RowKit Go.G9
theorem contains_take (b off c k : Nat) (xs : List Int) (n : Int) (hk : k ≤ xs.length) (hn : xs.length ≤ 1048576) (v : Bool) (hv : hasB (xs.take k) n = v) (w : World) (hR : Rds 1 intC w (some ⟨b, off, none⟩) xs) :
 Calls Tryz.prog 119 #[.slice (some ⟨b, off, none⟩) k c, .int .i64 n] w fun e w' => e = .returned (.bool v) ∧ Below w.heap.size w w' := by
 have hkl : (xs.take k).length = k := by rw [List.length_take]; omega
 have h := contains_int (some ⟨b, off, none⟩) c (xs.take k) n (by omega) v hv w (rds_takeR hR k)
 rw [hkl] at h; exact h
theorem l1Has_take (b off c k : Nat) (xs : List Int) (n : Int) (hk : k ≤ xs.length) (hn : xs.length ≤ 1048576) (v : Bool) (hv : hasB (xs.take k) n = v) (w : World) (hR : Rds 1 intC w (some ⟨b, off, none⟩) xs) :
 Calls Tryz.prog 174 #[.slice (some ⟨b, off, none⟩) k c, .int .i64 n] w fun e w' => e = .returned (.bool v) ∧ Below w.heap.size w w' := by
 have hkl : (xs.take k).length = k := by rw [List.length_take]; omega
 have h := l1Has_is (some ⟨b, off, none⟩) c (xs.take k) n (by omega) v hv w (rds_takeR hR k)
 rw [hkl] at h; exact h
theorem floB_1 {tu se sp : Int} {ws : List Int} {sh : List Sha} (h : inB tu 1 3 = false) : floB tu se sp ws sh = false := by rw [floB, h]; simp
theorem floB_2 {tu se sp : Int} {ws : List Int} {sh : List Sha} (h : inB se 1 3600 = false) : floB tu se sp ws sh = false := by rw [floB, h]; simp
theorem floB_3 {tu se sp : Int} {ws : List Int} {sh : List Sha} (h0 : sp ≠ 0) (h : memB sp = false) : floB tu se sp ws sh = false := by rw [floB, h, beq_eq_false_iff_ne.2 h0]; simp
theorem floB_4 {tu se sp : Int} {ws : List Int} {sh : List Sha} (h : ¬ ws.length ≤ 10) : floB tu se sp ws sh = false := by rw [floB, decide_eq_false h]; simp
theorem floB_z {tu se : Int} {ws : List Int} {sh : List Sha} (h1 : inB tu 1 3 = true) (h2 : inB se 1 3600 = true) (h4 : ws.length ≤ 10) (h5 : sharesB tu se sh = true) (h6 : allTo (waitStep tu se 0 ws sh) ws.length = true) : floB tu se 0 ws sh = true := by
 rw [floB, h1, h2, decide_eq_true h4, h5, h6]; rfl
theorem floB_n {tu se sp : Int} {ws : List Int} {sh : List Sha} (h1 : inB tu 1 3 = true) (h2 : inB se 1 3600 = true) (h0 : sp ≠ 0) (h3 : memB sp = true) (h4 : ws.length ≤ 10) (h5 : sharesB tu se sh = true) (h6 : allTo (waitStep tu se sp ws sh) ws.length = true) : floB tu se sp ws sh = decide ((shareF sh sp).turns < tu) := by
 rw [floB, h1, h2, h3, decide_eq_true h4, h5, h6, spkB, beq_eq_false_iff_ne.2 h0]; simp
theorem zb0 {p : Prop} (h : p := by
 obtain ⟨b, off, x, rfl, hbl, hx, hcx⟩ := hS.at_ (Below.refl _ _) hlt
 obtain ⟨xm, xt, xs⟩ := x
 have f4 := (hF.cell 4).trans (show _ = some (.slice (some ⟨b, off, none⟩) sh.length sc) from rfl); have p0 := hcx 0 _ rfl; have p1 := hcx 1 _ rfl; have p2 := hcx 2 _ rfl
 simp only [Nat.add_zero] at p0
 have g0 := p0 (Kin.self _); have g1 := p1 (Kin.self _); have g2 := p2 (Kin.self _)
 simp only [Kin.self] at g0
 simp only [Kin.self] at g1
 simp only [Kin.self] at g2
 have HX := lh hx; clear hx hcx
 go_upto_region 6 with fail
 clear f4
 refine lay1 fun wX hq2 hX => ?_
 replace hS := hS.below hq2; replace hW := hW.below hq2; replace HB := bth HB hq2; have x' := hX.cs3; replace hF := hF.to hq2
 obtain ⟨f0, f1, f2, f3, f4⟩ := hF.cs5
 clear p0 p1 p2 g0 g1 g2
 cases h1 : memB xm
 ·have H1 := lh h1; clear h1
  clear x'; have x' := Blk.cs3K (fun K : Kin wX.heap.size wX => (hX.below K.below hX.lt)); clear f0 f1 f2 f3 f4
  obtain ⟨f0, f1, f2, f3, f4⟩ := Blk.cs5K (fun K : Kin wX.heap.size wX => (hF.below K.below hF.lt))
  refine wp_region_kin (by kernel_rfl) (by kernel_rfl) ?_
  repeat (go_big_quiet_step (fail))
  go_big_quiet_step ((go_at_call 57; exact Kin.same _ (isMember_is xm _ H1.out _)))
  repeat (go_big_quiet_step (fail))
  refine wpQuiet_nil ?_
  intro K
  go_wp2
  go_ret
  exact ⟨ret_bool (floB_sh (sharesB_not hlt (by cases k with | zero => (rw [shaStep_zero HX.out, shaOk]; simp only [H1.out]; simp) | succ j => (have hy : sh[j]? = some sh[j] := List.getElem?_eq_getElem (by omega); rw [shaStep_succ hy HX.out, shaOk]; simp only [H1.out]; simp)))).symm, bth HB K.below⟩
 have H1 := lh h1; clear h1
 cases h2 : inB xt 0 tu
 ·have H2 := lh h2; clear h2
  clear x'; have x' := Blk.cs3K (fun K : Kin wX.heap.size wX => (hX.below K.below hX.lt)); clear f0 f1 f2 f3 f4
  obtain ⟨f0, f1, f2, f3, f4⟩ := Blk.cs5K (fun K : Kin wX.heap.size wX => (hF.below K.below hF.lt))
  refine wp_region_kin (by kernel_rfl) (by kernel_rfl) ?_
  repeat (go_big_quiet_step (fail))
  go_big_quiet_step ((go_at_call 57; exact Kin.same _ (isMember_is xm _ H1.out _)))
  repeat (go_big_quiet_step (fail))
  go_big_quiet_step ((go_at_call 118; exact Kin.same _ (inside_is xt 0 tu _ H2.out _)))
  repeat (go_big_quiet_step (fail))
  refine wpQuiet_nil ?_
  intro K
  go_wp2
  go_ret
  exact ⟨ret_bool (floB_sh (sharesB_not hlt (by cases k with | zero => (rw [shaStep_zero HX.out, shaOk]; simp only [H1.out, H2.out]; simp) | succ j => (have hy : sh[j]? = some sh[j] := List.getElem?_eq_getElem (by omega); rw [shaStep_succ hy HX.out, shaOk]; simp only [H1.out, H2.out]; simp)))).symm, bth HB K.below⟩
 have H2 := lh h2; clear h2
 cases h3 : inB xs 0 se
 ·have H3 := lh h3; clear h3
  clear x'; have x' := Blk.cs3K (fun K : Kin wX.heap.size wX => (hX.below K.below hX.lt)); clear f0 f1 f2 f3 f4
  obtain ⟨f0, f1, f2, f3, f4⟩ := Blk.cs5K (fun K : Kin wX.heap.size wX => (hF.below K.below hF.lt))
  refine wp_region_kin (by kernel_rfl) (by kernel_rfl) ?_
  repeat (go_big_quiet_step (fail))
  go_big_quiet_step ((go_at_call 57; exact Kin.same _ (isMember_is xm _ H1.out _)))
  repeat (go_big_quiet_step (fail))
  go_big_quiet_step ((go_at_call 118; exact Kin.same _ (inside_is xt 0 tu _ H2.out _)))
  repeat (go_big_quiet_step (fail))
  go_big_quiet_step ((go_at_call 118; exact Kin.same _ (inside_is xs 0 se _ H3.out _)))
  repeat (go_big_quiet_step (fail))
  refine wpQuiet_nil ?_
  intro K
  go_wp2
  go_ret
  exact ⟨ret_bool (floB_sh (sharesB_not hlt (by cases k with | zero => (rw [shaStep_zero HX.out, shaOk]; simp only [H1.out, H2.out, H3.out]; simp) | succ j => (have hy : sh[j]? = some sh[j] := List.getElem?_eq_getElem (by omega); rw [shaStep_succ hy HX.out, shaOk]; simp only [H1.out, H2.out, H3.out]; simp)))).symm, bth HB K.below⟩
 have H3 := lh h3; clear h3; have HO : Hid (shaOk tu se ⟨xm, xt, xs⟩ = true) := lh (by rw [shaOk]; simp only [H1.out, H2.out, H3.out]; rfl)
 cases k with
 | zero =>
  clear x'; have x' := Blk.cs3K (fun K : Kin wX.heap.size wX => (hX.below K.below hX.lt)); clear f0 f1 f2 f3 f4
  obtain ⟨f0, f1, f2, f3, f4⟩ := Blk.cs5K (fun K : Kin wX.heap.size wX => (hF.below K.below hF.lt))
  refine wp_region_kin (by kernel_rfl) (by kernel_rfl) ?_
  repeat (go_big_quiet_step (fail))
  go_big_quiet_step ((go_at_call 57; exact Kin.same _ (isMember_is xm _ H1.out _)))
  repeat (go_big_quiet_step (fail))
  go_big_quiet_step ((go_at_call 118; exact Kin.same _ (inside_is xt 0 tu _ H2.out _)))
  repeat (go_big_quiet_step (fail))
  go_big_quiet_step ((go_at_call 118; exact Kin.same _ (inside_is xs 0 se _ H3.out _)))
  repeat (go_big_quiet_step (fail))
  refine wpQuiet_nil ?_
  intro K
  go_wp2
  go_roundw
  case rel => exact ⟨1, by omega, by go_num, allTo_go HL.out (by rw [shaStep_zero HX.out]; exact HO.out), bth HB K.below, hF.below K.below hF.lt⟩
  case measure => simp [intOf]; omega
 | succ j =>
  obtain ⟨b', off', y, e', _, hy, hcy⟩ := hS.at_ (Below.refl _ _) (k := j) (by omega)
  simp only [Option.some.injEq, Addr.mk.injEq, and_true] at e'
  obtain ⟨rfl, rfl⟩ := e'
  obtain ⟨ym, yt, ys⟩ := y
  have q0 := hcy 0 _ rfl
  simp only [Nat.add_zero] at q0
  have HY := lh hy; clear hy hcy
  by_cases hlt2 : ym < xm
  ·have hle : decide (xm ≤ ym) = false := decide_eq_false (by omega)
   clear x'; have x' := Blk.cs3K (fun K : Kin wX.heap.size wX => (hX.below K.below hX.lt)); clear f0 f1 f2 f3 f4
   obtain ⟨f0, f1, f2, f3, f4⟩ := Blk.cs5K (fun K : Kin wX.heap.size wX => (hF.below K.below hF.lt))
   refine wp_region_kin (by kernel_rfl) (by kernel_rfl) ?_
   repeat (go_big_quiet_step (fail))
   go_big_quiet_step ((go_at_call 57; exact Kin.same _ (isMember_is xm _ H1.out _)))
   repeat (go_big_quiet_step (fail))
   go_big_quiet_step ((go_at_call 118; exact Kin.same _ (inside_is xt 0 tu _ H2.out _)))
   repeat (go_big_quiet_step (fail))
   go_big_quiet_step ((go_at_call 118; exact Kin.same _ (inside_is xs 0 se _ H3.out _)))
   repeat (go_big_quiet_step (fail))
   refine wpQuiet_nil ?_
   intro K
   go_wp2
   go_roundw
   case rel => exact ⟨j + 1 + 1, by omega, by go_num, allTo_go HL.out (by rw [shaStep_succ HY.out HX.out, HO.out, decide_eq_true (show (Sha.mem ⟨ym, yt, ys⟩) < (Sha.mem ⟨xm, xt, xs⟩) from hlt2)]; rfl), bth HB K.below, hF.below K.below hF.lt⟩
   case measure => simp [intOf]; omega
  ·have hle : decide (xm ≤ ym) = true := decide_eq_true (by omega)
   clear x'; have x' := Blk.cs3K (fun K : Kin wX.heap.size wX => (hX.below K.below hX.lt)); clear f0 f1 f2 f3 f4
   obtain ⟨f0, f1, f2, f3, f4⟩ := Blk.cs5K (fun K : Kin wX.heap.size wX => (hF.below K.below hF.lt))
   refine wp_region_kin (by kernel_rfl) (by kernel_rfl) ?_
   repeat (go_big_quiet_step (fail))
   go_big_quiet_step ((go_at_call 57; exact Kin.same _ (isMember_is xm _ H1.out _)))
   repeat (go_big_quiet_step (fail))
   go_big_quiet_step ((go_at_call 118; exact Kin.same _ (inside_is xt 0 tu _ H2.out _)))
   repeat (go_big_quiet_step (fail))
   go_big_quiet_step ((go_at_call 118; exact Kin.same _ (inside_is xs 0 se _ H3.out _)))
   repeat (go_big_quiet_step (fail))
   refine wpQuiet_nil ?_
   intro K
   go_wp2
   go_ret
   exact ⟨ret_bool (floB_sh (sharesB_not hlt (by rw [shaStep_succ HY.out HX.out, HO.out, decide_eq_false (show ¬ (Sha.mem ⟨ym, yt, ys⟩) < (Sha.mem ⟨xm, xt, xs⟩) from by show ¬ ym < xm; omega)]; rfl))).symm, bth HB K.below⟩) : p := h
theorem zb74 {p : Prop} (h : p := by
 have G1 := lh h1; clear h1
 go_wp2_with fail
 refine (isMember_is m _ G1.out _).mono ?_
 rintro e w0 ⟨rfl, h0⟩
 rw [h0]
 clear h0 w0
 go_wp2
 go_ret
 exact ⟨ret_bool (floB_wait hlt (by rw [waitStep_at HX.out]; simp only [G1.out]; simp)).symm, (bth HB bel)⟩) : p := h
theorem zb76 {p : Prop} (h : p := by
 have G2 := lh h2
 go_wp2_with fail
 refine (isMember_is m _ G1.out _).mono ?_
 rintro e w0 ⟨rfl, h0⟩
 rw [h0]
 clear h0 w0
 go_wp2
 go_ret
 exact ⟨ret_bool (floB_wait hlt (by rw [waitStep_at HX.out]; simp only [G1.out, G2.out]; simp)).symm, (bth HB bel)⟩) : p := h
theorem zb25 {p : Prop} (h : p := by
 have G3 := lh h3; clear h3
 go_wp2_with fail
 refine (isMember_is m _ G1.out _).mono ?_
 rintro e w0 ⟨rfl, h0⟩
 rw [h0]
 clear h0 w0
 go_wp2_with fail
 refine (contains_take b off _ k ws m (by omega) hw _ G3.out _ (hW.below bel)).mono ?_
 rintro e w2 ⟨rfl, hb2⟩
 have hq2 := be wr hb2; replace HB := bth HB hq2; replace hS := hS.below hq2; replace hW := hW.below hq2; replace hF := hF.to hq2; clear f0 f1 f2 f3 f4
 obtain ⟨f0, f1, f2, f3, f4⟩ := hF.cs5
 go_wp2
 go_ret
 exact ⟨ret_bool (floB_wait hlt (by rw [waitStep_at HX.out]; simp only [G1.out, G2.out, G3.out]; simp)).symm, (bth HB bel)⟩) : p := h
theorem zb55 {p : Prop} (h : p := by
 rintro e w3 ⟨rfl, hb3⟩
 have hq3 := be w2 hb3; replace HB := bth HB hq3; replace hS := hS.below hq3; replace hW := hW.below hq3; replace hF := hF.to hq3; clear f0 f1 f2 f3 f4
 obtain ⟨f0, f1, f2, f3, f4⟩ := hF.cs5
 go_wp2
 go_ret
 exact ⟨ret_bool (floB_wait hlt (by rw [waitStep_at HX.out]; simp only [G1.out, G2.out, G3.out, G4.out]; simp)).symm, (bth HB bel)⟩) : p := h
theorem zb44 {p : Prop} (h : p := by
 rintro e w3 ⟨rfl, hb3⟩
 have hq3 := be w2 hb3; replace HB := bth HB hq3; replace hS := hS.below hq3; replace hW := hW.below hq3; replace hF := hF.to hq3; clear f0 f1 f2 f3 f4
 obtain ⟨f0, f1, f2, f3, f4⟩ := hF.cs5
 go_wp2
 go_roundw
 case rel => exact ⟨k + 1, by omega, by go_num, allTo_go HL.out (by rw [waitStep_at HX.out]; simp only [G1.out, G2.out, G3.out, G4.out]; rfl), HB, hF⟩
 case measure => simp [intOf]; omega) : p := h
theorem zb91 {p : Prop} (h : p := by
 refine wp_region_kin (by kernel_rfl) (by kernel_rfl) ?_
 repeat (go_big_quiet_step (fail))
 refine wpQuiet_nil ?_
 intro K
 go_wp2
 go_ret
 exact ⟨ret_bool (floB_z H1.out H2.out h4 HSH.out HL.out).symm, bth HB K.below⟩) : p := h
theorem iFloorZ_is (tu se : Int) (W : Option Addr) (ws : List Int) (wc : Nat) (S : Option Addr) (sc : Nat) (sh : List Sha) (hw : ws.length ≤ 1048576) (hn : sh.length ≤ 1048576) (hc : ws.length ≤ wc) (h1 : inB tu 1 3 = true) (h2 : inB se 1 3600 = true) (h4 : ws.length ≤ 10) (w : World) (hW : Rds 1 intC w W ws) (hS : Rds 3 Sha.cells w S sh) :
 Calls Tryz.prog 53 #[.agg #[.int .i64 tu, .int .i64 se, .int .i64 0, .slice W ws.length wc, .slice S sh.length sc]] w fun e w' => e = .returned (.bool (floB tu se 0 ws sh)) ∧ Below w.heap.size w w' := by
 have H1 := lh h1; have H2 := lh h2; clear h1 h2
 skip
 go_in
 have hS0 := lh hS; have hW0 := lh hW
 go_upto_region 1 with fail
 refine lay1 fun wX hq1 hF => ?_
 replace hS := hS.below hq1; replace hW := hW.below hq1; have HB := hq1
 obtain ⟨f0, f1, f2, f3, f4⟩ := hF.cs5
 go_wp2_with fail
 refine (inside_is tu 1 3 _ H1.out _).mono ?_
 rintro e w0 ⟨rfl, h0⟩
 rw [h0]
 clear h0 w0
 go_wp2_with fail
 refine (inside_is se 1 3600 _ H2.out _).mono ?_
 rintro e w0 ⟨rfl, h0⟩
 rw [h0]
 clear h0 w0
 skip
 go_wp2
 go_loopw [37] (fun i wr => ∃ k : Nat, k ≤ sh.length ∧ i = .int .i64 k ∧ allTo (shaStep tu se sh) k = true ∧ Below w.heap.size w wr ∧ Blk wr w.heap.size 29 #[.int .i64 tu, .int .i64 se, .int .i64 0, .slice W ws.length wc, .slice S sh.length sc]) (fun i _ => sh.length - (intOf i).toNat)
 case atStart => exact ⟨0, Nat.zero_le _, rfl, rfl, HB, hF⟩
 case round =>
  clear hS hW HB f0 f1 f2 f3 f4 hF
  obtain ⟨k, hk, rfl, hl, hb, hF⟩ := hrel
  have HL := lh hl; clear hl; have hS := hS0.out; have hW := hW0.out; have hq1 := be w hb; have HB : Below w.heap.size w wr := hq1; replace hS := hS.below hq1; replace hW := hW.below hq1
  by_cases hlt : k < sh.length
  ·exact zb0
  ·obtain ⟨f0, f1, f2, f3, f4⟩ := hF.cs5
   obtain rfl : k = sh.length := by omega
   have HSH : Hid (sharesB tu se sh = true) := lh HL.out; clear HL
   go_upto_region 9 with fail
   go_wp2
   clear f0 f1 f2 f3 f4
   go_loopw [82] (fun i wr => ∃ k : Nat, k ≤ ws.length ∧ i = .int .i64 k ∧ allTo (waitStep tu se 0 ws sh) k = true ∧ Below w.heap.size w wr ∧ Blk wr w.heap.size 29 #[.int .i64 tu, .int .i64 se, .int .i64 0, .slice W ws.length wc, .slice S sh.length sc]) (fun i _ => ws.length - (intOf i).toNat)
   case atStart => exact ⟨0, Nat.zero_le _, rfl, rfl, HB, hF⟩
   case round =>
    clear hS hW HB hF
    obtain ⟨k, hk, rfl, hl, hb, hF⟩ := hrel
    have HL := lh hl; clear hl; have hS := hS0.out; have hW := hW0.out; have hq1 := be w hb; have HB : Below w.heap.size w wr := hq1; replace hS := hS.below hq1; replace hW := hW.below hq1
    by_cases hlt : k < ws.length
    ·obtain ⟨b, off, m, rfl, hbl, hx, hcx⟩ := hW.at_ (Below.refl _ _) hlt
     have p0 := hcx 0 _ rfl
     simp only [Nat.mul_one, Nat.add_zero] at p0
     have g0 := p0 (Kin.self _)
     simp only [Kin.self] at g0
     have HX := lh hx; clear hx hcx p0
     obtain ⟨f0, f1, f2, f3, f4⟩ := hF.cs5
     have hkc : (k : Int) ≤ (wc : Int) := by omega
     go_upto_region 12 with fail
     clear g0
     cases h1 : memB m
     ·exact zb74
     have G1 := lh h1; clear h1
     by_cases h2 : (m == 0) = true
     ·exact zb76
     replace h2 := Bool.eq_false_iff.2 h2; have G2 := lh h2
     by_cases h3 : hasB (ws.take k) m = true
     ·exact zb25
     replace h3 := Bool.eq_false_iff.2 h3; have G3 := lh h3; clear h3
     cases h4 : entB tu se (shareF sh m)
     ·have G4 := lh h4; clear h4
      go_wp2_with fail
      refine (isMember_is m _ G1.out _).mono ?_
      rintro e w0 ⟨rfl, h0⟩
      rw [h0]
      clear h0 w0
      go_wp2_with fail
      refine (contains_take b off _ k ws m (by omega) hw _ G3.out _ (hW.below bel)).mono ?_
      rintro e w2 ⟨rfl, hb2⟩
      have hq2 := be wr hb2; replace HB := bth HB hq2; replace hS := hS.below hq2; replace hW := hW.below hq2; replace hF := hF.to hq2; clear f0 f1 f2 f3 f4
      obtain ⟨f0, f1, f2, f3, f4⟩ := hF.cs5
      go_wp2_with fail
      refine (isEntitled_is tu se 0 (some ⟨b, off, none⟩) ws.length wc S sc sh hn m _ G4.out _ (hS.below bel)).mono ?_
      exact zb55
     ·have G4 := lh h4; clear h4
      go_wp2_with fail
      refine (isMember_is m _ G1.out _).mono ?_
      rintro e w0 ⟨rfl, h0⟩
      rw [h0]
      clear h0 w0
      go_wp2_with fail
      refine (contains_take b off _ k ws m (by omega) hw _ G3.out _ (hW.below bel)).mono ?_
      rintro e w2 ⟨rfl, hb2⟩
      have hq2 := be wr hb2; replace HB := bth HB hq2; replace hS := hS.below hq2; replace hW := hW.below hq2; replace hF := hF.to hq2; clear f0 f1 f2 f3 f4
      obtain ⟨f0, f1, f2, f3, f4⟩ := hF.cs5
      go_wp2_with fail
      refine (isEntitled_is tu se 0 (some ⟨b, off, none⟩) ws.length wc S sc sh hn m _ G4.out _ (hS.below bel)).mono ?_
      exact zb44
    ·obtain rfl : k = ws.length := by omega
     obtain ⟨f0, f1, f2, f3, f4⟩ := hF.cs5
     go_upto_region 15 with fail
     clear f0 f1 f2 f3 f4
     obtain ⟨f0, f1, f2, f3, f4⟩ := Blk.cs5K (fun K : Kin wr.heap.size wr => (hF.below K.below hF.lt))
     exact zb91
theorem zb78 {p : Prop} (h : p := by
 repeat (go_big_quiet_step (fail))
 refine wpQuiet_nil ?_
 intro K
 go_wp2
 go_ret
 exact ⟨ret_bool (by rw [floB_n H1.out H2.out h0 H3.out h4 HSH.out HL.out, HS.out, decide_eq_true (show (Sha.turns ⟨sm, st, ss⟩) < tu from hst)]), bth HB K.below⟩) : p := h
theorem zb70 {p : Prop} (h : p := by
 repeat (go_big_quiet_step (fail))
 refine wpQuiet_nil ?_
 intro K
 go_wp2
 go_ret
 exact ⟨ret_bool (by rw [floB_n H1.out H2.out h0 H3.out h4 HSH.out HL.out, HS.out, decide_eq_false (show ¬ (Sha.turns ⟨sm, st, ss⟩) < tu from by show ¬ st < tu; omega)]), bth HB K.below⟩) : p := h
theorem iFloorN_is (tu se sp : Int) (W : Option Addr) (ws : List Int) (wc : Nat) (S : Option Addr) (sc : Nat) (sh : List Sha) (hw : ws.length ≤ 1048576) (hn : sh.length ≤ 1048576) (hc : ws.length ≤ wc) (h1 : inB tu 1 3 = true) (h2 : inB se 1 3600 = true) (h0 : sp ≠ 0) (h3 : memB sp = true) (h4 : ws.length ≤ 10) (w : World) (hW : Rds 1 intC w W ws) (hS : Rds 3 Sha.cells w S sh) :
 Calls Tryz.prog 53 #[.agg #[.int .i64 tu, .int .i64 se, .int .i64 sp, .slice W ws.length wc, .slice S sh.length sc]] w fun e w' => e = .returned (.bool (floB tu se sp ws sh)) ∧ Below w.heap.size w w' := by
 have H1 := lh h1; have H2 := lh h2; clear h1 h2; have H3 := lh h3; clear h3
 go_in
 have hS0 := lh hS; have hW0 := lh hW
 go_upto_region 1 with fail
 refine lay1 fun wX hq1 hF => ?_
 replace hS := hS.below hq1; replace hW := hW.below hq1; have HB := hq1
 obtain ⟨f0, f1, f2, f3, f4⟩ := hF.cs5
 go_wp2_with fail
 refine (inside_is tu 1 3 _ H1.out _).mono ?_
 rintro e w0 ⟨rfl, h0⟩
 rw [h0]
 clear h0 w0
 go_wp2_with fail
 refine (inside_is se 1 3600 _ H2.out _).mono ?_
 rintro e w0 ⟨rfl, h0⟩
 rw [h0]
 clear h0 w0
 go_wp2_with fail
 refine (isMember_is sp _ H3.out _).mono ?_
 rintro e w0 ⟨rfl, h0⟩
 rw [h0]
 clear h0 w0
 go_wp2
 go_loopw [37] (fun i wr => ∃ k : Nat, k ≤ sh.length ∧ i = .int .i64 k ∧ allTo (shaStep tu se sh) k = true ∧ Below w.heap.size w wr ∧ Blk wr w.heap.size 29 #[.int .i64 tu, .int .i64 se, .int .i64 sp, .slice W ws.length wc, .slice S sh.length sc]) (fun i _ => sh.length - (intOf i).toNat)
 case atStart => exact ⟨0, Nat.zero_le _, rfl, rfl, HB, hF⟩
 case round =>
  clear hS hW HB f0 f1 f2 f3 f4 hF
  obtain ⟨k, hk, rfl, hl, hb, hF⟩ := hrel
  have HL := lh hl; clear hl; have hS := hS0.out; have hW := hW0.out; have hq1 := be w hb; have HB : Below w.heap.size w wr := hq1; replace hS := hS.below hq1; replace hW := hW.below hq1
  by_cases hlt : k < sh.length
  ·exact zb0
  ·obtain ⟨f0, f1, f2, f3, f4⟩ := hF.cs5
   obtain rfl : k = sh.length := by omega
   have HSH : Hid (sharesB tu se sh = true) := lh HL.out; clear HL
   go_upto_region 9 with fail
   go_wp2
   clear f0 f1 f2 f3 f4
   go_loopw [82] (fun i wr => ∃ k : Nat, k ≤ ws.length ∧ i = .int .i64 k ∧ allTo (waitStep tu se sp ws sh) k = true ∧ Below w.heap.size w wr ∧ Blk wr w.heap.size 29 #[.int .i64 tu, .int .i64 se, .int .i64 sp, .slice W ws.length wc, .slice S sh.length sc]) (fun i _ => ws.length - (intOf i).toNat)
   case atStart => exact ⟨0, Nat.zero_le _, rfl, rfl, HB, hF⟩
   case round =>
    clear hS hW HB hF
    obtain ⟨k, hk, rfl, hl, hb, hF⟩ := hrel
    have HL := lh hl; clear hl; have hS := hS0.out; have hW := hW0.out; have hq1 := be w hb; have HB : Below w.heap.size w wr := hq1; replace hS := hS.below hq1; replace hW := hW.below hq1
    by_cases hlt : k < ws.length
    ·obtain ⟨b, off, m, rfl, hbl, hx, hcx⟩ := hW.at_ (Below.refl _ _) hlt
     have p0 := hcx 0 _ rfl
     simp only [Nat.mul_one, Nat.add_zero] at p0
     have g0 := p0 (Kin.self _)
     simp only [Kin.self] at g0
     have HX := lh hx; clear hx hcx p0
     obtain ⟨f0, f1, f2, f3, f4⟩ := hF.cs5
     have hkc : (k : Int) ≤ (wc : Int) := by omega
     go_upto_region 12 with fail
     clear g0
     cases h1 : memB m
     ·exact zb74
     have G1 := lh h1; clear h1
     by_cases h2 : (m == sp) = true
     ·exact zb76
     replace h2 := Bool.eq_false_iff.2 h2; have G2 := lh h2
     by_cases h3 : hasB (ws.take k) m = true
     ·exact zb25
     replace h3 := Bool.eq_false_iff.2 h3; have G3 := lh h3; clear h3
     cases h4 : entB tu se (shareF sh m)
     ·have G4 := lh h4; clear h4
      go_wp2_with fail
      refine (isMember_is m _ G1.out _).mono ?_
      rintro e w0 ⟨rfl, h0⟩
      rw [h0]
      clear h0 w0
      go_wp2_with fail
      refine (contains_take b off _ k ws m (by omega) hw _ G3.out _ (hW.below bel)).mono ?_
      rintro e w2 ⟨rfl, hb2⟩
      have hq2 := be wr hb2; replace HB := bth HB hq2; replace hS := hS.below hq2; replace hW := hW.below hq2; replace hF := hF.to hq2; clear f0 f1 f2 f3 f4
      obtain ⟨f0, f1, f2, f3, f4⟩ := hF.cs5
      go_wp2_with fail
      refine (isEntitled_is tu se sp (some ⟨b, off, none⟩) ws.length wc S sc sh hn m _ G4.out _ (hS.below bel)).mono ?_
      exact zb55
     ·have G4 := lh h4; clear h4
      go_wp2_with fail
      refine (isMember_is m _ G1.out _).mono ?_
      rintro e w0 ⟨rfl, h0⟩
      rw [h0]
      clear h0 w0
      go_wp2_with fail
      refine (contains_take b off _ k ws m (by omega) hw _ G3.out _ (hW.below bel)).mono ?_
      rintro e w2 ⟨rfl, hb2⟩
      have hq2 := be wr hb2; replace HB := bth HB hq2; replace hS := hS.below hq2; replace hW := hW.below hq2; replace hF := hF.to hq2; clear f0 f1 f2 f3 f4
      obtain ⟨f0, f1, f2, f3, f4⟩ := hF.cs5
      go_wp2_with fail
      refine (isEntitled_is tu se sp (some ⟨b, off, none⟩) ws.length wc S sc sh hn m _ G4.out _ (hS.below bel)).mono ?_
      exact zb44
    ·obtain rfl : k = ws.length := by omega
     obtain ⟨f0, f1, f2, f3, f4⟩ := hF.cs5
     go_upto_region 15 with fail
     have hz0 : (sp == 0) = false := beq_eq_false_iff_ne.2 h0; have PS := lh hS
     obtain ⟨s, hs⟩ : ∃ s, shareF sh sp = s := ⟨_, rfl⟩
     have HS := lh hs; clear hs
     obtain ⟨sm, st, ss⟩ := s
     have hfd : ∀ W : World, (Instr.field 144 (.agg #[.int .i64 sm, .int .i64 st, .int .i64 ss]) 1).run Tryz.prog W = .ok (.int .i64 st) W := fun _ => by kernel_rfl
     by_cases hst : st < tu
     ·have hde : decide (st < tu) = true := decide_eq_true hst
      clear f0 f1 f2 f3 f4
      obtain ⟨f0, f1, f2, f3, f4⟩ := Blk.cs5K (fun K : Kin wr.heap.size wr => (hF.below K.below hF.lt))
      refine wp_region_kin (by kernel_rfl) (by kernel_rfl) ?_
      repeat (go_big_quiet_step (fail))
      go_big_quiet_step ((go_at_call 121; exact Kin.call _ (by first | exact Nat.le_refl _ | omega) (shareOf_is tu se sp W ws.length wc S sc sh hn sp _ HS.out _ (PS.out.below (Kin.below _)))))
      exact zb78
     ·have hde : decide (st < tu) = false := decide_eq_false hst
      clear f0 f1 f2 f3 f4
      obtain ⟨f0, f1, f2, f3, f4⟩ := Blk.cs5K (fun K : Kin wr.heap.size wr => (hF.below K.below hF.lt))
      refine wp_region_kin (by kernel_rfl) (by kernel_rfl) ?_
      repeat (go_big_quiet_step (fail))
      go_big_quiet_step ((go_at_call 121; exact Kin.call _ (by first | exact Nat.le_refl _ | omega) (shareOf_is tu se sp W ws.length wc S sc sh hn sp _ HS.out _ (PS.out.below (Kin.below _)))))
      exact zb70
theorem zb134 {p : Prop} (h : p := by
 rintro e w0 ⟨rfl, h0⟩
 rw [h0]
 clear h0 w0
 go_wp2
 go_ret
 exact ⟨ret_bool (floB_1 H1.out).symm, (bth HB bel)⟩) : p := h
theorem zb135 {p : Prop} (h : p := by
 rintro e w0 ⟨rfl, h0⟩
 rw [h0]
 clear h0 w0
 go_wp2
 go_ret
 exact ⟨ret_bool (floB_2 H2.out).symm, (bth HB bel)⟩) : p := h
theorem zb138 {p : Prop} (h : p := by
 rintro e w0 ⟨rfl, h0⟩
 rw [h0]
 clear h0 w0
 go_wp2
 go_ret
 exact ⟨ret_bool (floB_4 h4).symm, (bth HB bel)⟩) : p := h
theorem isValidFloor_is (tu se sp : Int) (W : Option Addr) (ws : List Int) (wc : Nat) (S : Option Addr) (sc : Nat) (sh : List Sha) (hw : ws.length ≤ 1048576) (hn : sh.length ≤ 1048576) (hc : ws.length ≤ wc) (v : Bool) (hv : floB tu se sp ws sh = v) (w : World) (hW : Rds 1 intC w W ws) (hS : Rds 3 Sha.cells w S sh) :
 Calls Tryz.prog 53 #[.agg #[.int .i64 tu, .int .i64 se, .int .i64 sp, .slice W ws.length wc, .slice S sh.length sc]] w fun e w' => e = .returned (.bool v) ∧ Below w.heap.size w w' := by
 subst hv
 cases h1 : inB tu 1 3
 ·have H1 := lh h1
  go_in
  go_upto_region 1 with fail
  refine lay1 fun wX hq1 hF => ?_
  replace hS := hS.below hq1; have HB := hq1; have f' := hF.cs5
  go_wp2_with fail
  refine (inside_is tu 1 3 _ H1.out _).mono ?_
  exact zb134
 cases h2 : inB se 1 3600
 ·have H1 := lh h1
  have H2 := lh h2
  go_in
  go_upto_region 1 with fail
  refine lay1 fun wX hq1 hF => ?_
  replace hS := hS.below hq1; have HB := hq1; have f' := hF.cs5
  go_wp2_with fail
  refine (inside_is tu 1 3 _ H1.out _).mono ?_
  rintro e w0 ⟨rfl, h0⟩
  rw [h0]
  clear h0 w0
  go_wp2_with fail
  refine (inside_is se 1 3600 _ H2.out _).mono ?_
  exact zb135
 by_cases h0 : sp = 0
 ·subst h0
  by_cases h4 : ws.length ≤ 10
  ·exact iFloorZ_is tu se W ws wc S sc sh hw hn hc h1 h2 h4 w hW hS
  ·have H1 := lh h1
   have H2 := lh h2
   go_in
   go_upto_region 1 with fail
   refine lay1 fun wX hq1 hF => ?_
   replace hS := hS.below hq1; have HB := hq1; have f' := hF.cs5
   go_wp2_with fail
   refine (inside_is tu 1 3 _ H1.out _).mono ?_
   rintro e w0 ⟨rfl, h0⟩
   rw [h0]
   clear h0 w0
   go_wp2_with fail
   refine (inside_is se 1 3600 _ H2.out _).mono ?_
   exact zb138
 cases h3 : memB sp
 ·have H1 := lh h1
  have H2 := lh h2; have H3 := lh h3
  have hne : (sp != 0) = true := by simp [h0]
  go_in
  go_upto_region 1 with fail
  refine lay1 fun wX hq1 hF => ?_
  replace hS := hS.below hq1; have HB := hq1; have f' := hF.cs5
  go_wp2_with fail
  refine (inside_is tu 1 3 _ H1.out _).mono ?_
  rintro e w0 ⟨rfl, h0⟩
  rw [h0]
  clear h0 w0
  go_wp2_with fail
  refine (inside_is se 1 3600 _ H2.out _).mono ?_
  rintro e w0 ⟨rfl, h0⟩
  rw [h0]
  clear h0 w0
  go_wp2_with fail
  refine (isMember_is sp _ H3.out _).mono ?_
  rintro e w0 ⟨rfl, h0⟩
  rw [h0]
  clear h0 w0
  go_wp2
  go_ret
  exact ⟨ret_bool (floB_3 h0 H3.out).symm, (bth HB bel)⟩
 by_cases h4 : ws.length ≤ 10
 ·exact iFloorN_is tu se sp W ws wc S sc sh hw hn hc h1 h2 h0 h3 h4 w hW hS
 ·have H1 := lh h1
  have H2 := lh h2; have H3 := lh h3
  have hne : (sp != 0) = true := by simp [h0]
  go_in
  go_upto_region 1 with fail
  refine lay1 fun wX hq1 hF => ?_
  replace hS := hS.below hq1; have HB := hq1; have f' := hF.cs5
  go_wp2_with fail
  refine (inside_is tu 1 3 _ H1.out _).mono ?_
  rintro e w0 ⟨rfl, h0⟩
  rw [h0]
  clear h0 w0
  go_wp2_with fail
  refine (inside_is se 1 3600 _ H2.out _).mono ?_
  rintro e w0 ⟨rfl, h0⟩
  rw [h0]
  clear h0 w0
  go_wp2_with fail
  refine (isMember_is sp _ H3.out _).mono ?_
  exact zb138
theorem zb75 {p : Prop} (h : p := by
 have G1 := lh h1; clear h1
 go_wp2_with fail
 refine (l7Member_is m _ G1.out _).mono ?_
 rintro e w0 ⟨rfl, h0⟩
 rw [h0]
 clear h0 w0
 go_wp2
 go_ret
 exact ⟨ret_bool (floB_wait hlt (by rw [waitStep_at HX.out]; simp only [G1.out]; simp)).symm, (bth HB bel)⟩) : p := h
theorem zb32 {p : Prop} (h : p := by
 have G3 := lh h3; clear h3
 go_wp2_with fail
 refine (l7Member_is m _ G1.out _).mono ?_
 rintro e w0 ⟨rfl, h0⟩
 rw [h0]
 clear h0 w0
 go_wp2_with fail
 refine (l1Has_take b off _ k ws m (by omega) hw _ G3.out _ (hW.below bel)).mono ?_
 rintro e w2 ⟨rfl, hb2⟩
 have hq2 := be wr hb2; replace HB := bth HB hq2; replace hS := hS.below hq2; replace hW := hW.below hq2; replace hF := hF.to hq2; clear f'; have f' := hF.cs5
 go_wp2
 go_ret
 exact ⟨ret_bool (floB_wait hlt (by rw [waitStep_at HX.out]; simp only [G1.out, G3.out]; simp)).symm, (bth HB bel)⟩) : p := h
theorem zb33 {p : Prop} (h : p := by
 have G2 := lh h2
 go_wp2_with fail
 refine (l7Member_is m _ G1.out _).mono ?_
 rintro e w0 ⟨rfl, h0⟩
 rw [h0]
 clear h0 w0
 go_wp2_with fail
 refine (l1Has_take b off _ k ws m (by omega) hw _ G3.out _ (hW.below bel)).mono ?_
 rintro e w2 ⟨rfl, hb2⟩
 have hq2 := be wr hb2; replace HB := bth HB hq2; replace hS := hS.below hq2; replace hW := hW.below hq2; replace hF := hF.to hq2; clear f'; have f' := hF.cs5
 go_wp2
 go_ret
 exact ⟨ret_bool (floB_wait hlt (by rw [waitStep_at HX.out]; simp only [G1.out, G2.out, G3.out]; simp)).symm, (bth HB bel)⟩) : p := h
theorem zb64 {p : Prop} (h : p := by
 rintro e w3 ⟨rfl, hb3⟩
 have hq3 := be w2 hb3; replace HB := bth HB hq3; replace hS := hS.below hq3; replace hW := hW.below hq3; replace hF := hF.to hq3; clear f'; have f' := hF.cs5
 go_wp2
 go_ret
 exact ⟨ret_bool (floB_wait hlt (by rw [waitStep_at HX.out]; simp only [G1.out, G2.out, G3.out, G4.out]; simp)).symm, (bth HB bel)⟩) : p := h
theorem zb51 {p : Prop} (h : p := by
 rintro e w3 ⟨rfl, hb3⟩
 have hq3 := be w2 hb3; replace HB := bth HB hq3; replace hS := hS.below hq3; replace hW := hW.below hq3; replace hF := hF.to hq3; clear f'; have f' := hF.cs5
 go_wp2
 go_roundw
 case rel => exact ⟨k + 1, by omega, by go_num, allTo_go HL.out (by rw [waitStep_at HX.out]; simp only [G1.out, G2.out, G3.out, G4.out]; rfl), HB, hF⟩
 case measure => simp [intOf]; omega) : p := h
theorem sFloorZ_is (tu se : Int) (W : Option Addr) (ws : List Int) (wc : Nat) (S : Option Addr) (sc : Nat) (sh : List Sha) (hw : ws.length ≤ 1048576) (hn : sh.length ≤ 1048576) (hc : ws.length ≤ wc) (h1 : inB tu 1 3 = true) (h2 : inB se 1 3600 = true) (h4 : ws.length ≤ 10) (h5 : sharesB tu se sh = true) (w : World) (hW : Rds 1 intC w W ws) (hS : Rds 3 Sha.cells w S sh) :
 Calls Tryz.prog 109 #[.agg #[.int .i64 tu, .int .i64 se, .int .i64 0, .slice W ws.length wc, .slice S sh.length sc]] w fun e w' => e = .returned (.bool (floB tu se 0 ws sh)) ∧ Below w.heap.size w w' := by
 have H1 := lh h1; have H2 := lh h2; have HSH := lh h5; clear h1 h2 h5
 go_in
 have hS0 := lh hS; have hW0 := lh hW
 go_upto_region 1 with fail
 refine lay1 fun wX hq1 hF => ?_
 replace hS := hS.below hq1; replace hW := hW.below hq1; have HB := hq1; have f' := hF.cs5
 go_wp2_with fail
 refine (l1In_is tu 1 3 _ H1.out _).mono ?_
 rintro e w0 ⟨rfl, h0⟩
 rw [h0]
 clear h0 w0
 go_wp2_with fail
 refine (l1In_is se 1 3600 _ H2.out _).mono ?_
 rintro e w0 ⟨rfl, h0⟩
 rw [h0]
 clear h0 w0
 go_wp2_with fail
 refine (l8Shares_is tu se 0 W ws wc S sc sh hw hn _ HSH.out _ (hW.below bel) (hS.below bel)).mono ?_
 rintro e w2 ⟨rfl, hb2⟩
 have hq2 := be wX hb2; replace HB := bth HB hq2; replace hS := hS.below hq2; replace hW := hW.below hq2; replace hF := hF.to hq2; clear f'; have f' := hF.cs5
 go_wp2
 clear f'
 go_loopw [3] (fun i wr => ∃ k : Nat, k ≤ ws.length ∧ i = .int .i64 k ∧ allTo (waitStep tu se 0 ws sh) k = true ∧ Below w.heap.size w wr ∧ Blk wr w.heap.size 29 #[.int .i64 tu, .int .i64 se, .int .i64 0, .slice W ws.length wc, .slice S sh.length sc]) (fun i _ => ws.length - (intOf i).toNat)
 case atStart => exact ⟨0, Nat.zero_le _, rfl, rfl, HB, hF⟩
 case round =>
  clear hS hW HB hF
  obtain ⟨k, hk, rfl, hl, hb, hF⟩ := hrel
  have HL := lh hl; clear hl; have hS := hS0.out; have hW := hW0.out; have hq1 := be w hb; have HB : Below w.heap.size w wr := hq1; replace hS := hS.below hq1; replace hW := hW.below hq1
  by_cases hlt : k < ws.length
  ·obtain ⟨b, off, m, rfl, hbl, hx, hcx⟩ := hW.at_ (Below.refl _ _) hlt
   have p0 := hcx 0 _ rfl
   simp only [Nat.mul_one, Nat.add_zero] at p0
   have g0 := p0 (Kin.self _)
   simp only [Kin.self] at g0
   have HX := lh hx; clear hx hcx p0; have f' := hF.cs5
   have hkc : (k : Int) ≤ (wc : Int) := by omega
   go_upto_region 7 with fail
   clear g0
   cases h1 : memB m
   ·exact zb75
   have G1 := lh h1; clear h1
   by_cases h3 : hasB (ws.take k) m = true
   ·exact zb32
   replace h3 := Bool.eq_false_iff.2 h3; have G3 := lh h3; clear h3
   by_cases h2 : (m == 0) = true
   ·exact zb33
   replace h2 := Bool.eq_false_iff.2 h2; have G2 := lh h2
   cases h4 : entB tu se (shareF sh m)
   ·have G4 := lh h4; clear h4
    go_wp2_with fail
    refine (l7Member_is m _ G1.out _).mono ?_
    rintro e w0 ⟨rfl, h0⟩
    rw [h0]
    clear h0 w0
    go_wp2_with fail
    refine (l1Has_take b off _ k ws m (by omega) hw _ G3.out _ (hW.below bel)).mono ?_
    rintro e w2 ⟨rfl, hb2⟩
    have hq2 := be wr hb2; replace HB := bth HB hq2; replace hS := hS.below hq2; replace hW := hW.below hq2; replace hF := hF.to hq2; clear f'; have f' := hF.cs5
    go_wp2_with fail
    refine (l8Entitled_is tu se 0 (some ⟨b, off, none⟩) ws.length wc S sc sh hn m _ G4.out _ (hS.below bel)).mono ?_
    exact zb64
   ·have G4 := lh h4; clear h4
    go_wp2_with fail
    refine (l7Member_is m _ G1.out _).mono ?_
    rintro e w0 ⟨rfl, h0⟩
    rw [h0]
    clear h0 w0
    go_wp2_with fail
    refine (l1Has_take b off _ k ws m (by omega) hw _ G3.out _ (hW.below bel)).mono ?_
    rintro e w2 ⟨rfl, hb2⟩
    have hq2 := be wr hb2; replace HB := bth HB hq2; replace hS := hS.below hq2; replace hW := hW.below hq2; replace hF := hF.to hq2; clear f'; have f' := hF.cs5
    go_wp2_with fail
    refine (l8Entitled_is tu se 0 (some ⟨b, off, none⟩) ws.length wc S sc sh hn m _ G4.out _ (hS.below bel)).mono ?_
    exact zb51
  ·obtain rfl : k = ws.length := by omega
   have f' := hF.cs5
   go_upto_region 9 with fail
   clear f'; have f' := Blk.cs5K (fun K : Kin wr.heap.size wr => (hF.below K.below hF.lt))
   exact zb91
theorem sFloorN_is (tu se sp : Int) (W : Option Addr) (ws : List Int) (wc : Nat) (S : Option Addr) (sc : Nat) (sh : List Sha) (hw : ws.length ≤ 1048576) (hn : sh.length ≤ 1048576) (hc : ws.length ≤ wc) (h1 : inB tu 1 3 = true) (h2 : inB se 1 3600 = true) (h0 : sp ≠ 0) (h4 : ws.length ≤ 10) (h5 : sharesB tu se sh = true) (w : World) (hW : Rds 1 intC w W ws) (hS : Rds 3 Sha.cells w S sh) :
 Calls Tryz.prog 109 #[.agg #[.int .i64 tu, .int .i64 se, .int .i64 sp, .slice W ws.length wc, .slice S sh.length sc]] w fun e w' => e = .returned (.bool (floB tu se sp ws sh)) ∧ Below w.heap.size w w' := by
 have H1 := lh h1; have H2 := lh h2; have HSH := lh h5; clear h1 h2 h5
 go_in
 have hS0 := lh hS; have hW0 := lh hW
 go_upto_region 1 with fail
 refine lay1 fun wX hq1 hF => ?_
 replace hS := hS.below hq1; replace hW := hW.below hq1; have HB := hq1; have f' := hF.cs5
 go_wp2_with fail
 refine (l1In_is tu 1 3 _ H1.out _).mono ?_
 rintro e w0 ⟨rfl, h0⟩
 rw [h0]
 clear h0 w0
 go_wp2_with fail
 refine (l1In_is se 1 3600 _ H2.out _).mono ?_
 rintro e w0 ⟨rfl, h0⟩
 rw [h0]
 clear h0 w0
 go_wp2_with fail
 refine (l8Shares_is tu se sp W ws wc S sc sh hw hn _ HSH.out _ (hW.below bel) (hS.below bel)).mono ?_
 rintro e w2 ⟨rfl, hb2⟩
 have hq2 := be wX hb2; replace HB := bth HB hq2; replace hS := hS.below hq2; replace hW := hW.below hq2; replace hF := hF.to hq2; clear f'; have f' := hF.cs5
 go_wp2
 clear f'
 go_loopw [3] (fun i wr => ∃ k : Nat, k ≤ ws.length ∧ i = .int .i64 k ∧ allTo (waitStep tu se sp ws sh) k = true ∧ Below w.heap.size w wr ∧ Blk wr w.heap.size 29 #[.int .i64 tu, .int .i64 se, .int .i64 sp, .slice W ws.length wc, .slice S sh.length sc]) (fun i _ => ws.length - (intOf i).toNat)
 case atStart => exact ⟨0, Nat.zero_le _, rfl, rfl, HB, hF⟩
 case round =>
  clear hS hW HB hF
  obtain ⟨k, hk, rfl, hl, hb, hF⟩ := hrel
  have HL := lh hl; clear hl; have hS := hS0.out; have hW := hW0.out; have hq1 := be w hb; have HB : Below w.heap.size w wr := hq1; replace hS := hS.below hq1; replace hW := hW.below hq1
  by_cases hlt : k < ws.length
  ·obtain ⟨b, off, m, rfl, hbl, hx, hcx⟩ := hW.at_ (Below.refl _ _) hlt
   have p0 := hcx 0 _ rfl
   simp only [Nat.mul_one, Nat.add_zero] at p0
   have g0 := p0 (Kin.self _)
   simp only [Kin.self] at g0
   have HX := lh hx; clear hx hcx p0; have f' := hF.cs5
   have hkc : (k : Int) ≤ (wc : Int) := by omega
   go_upto_region 7 with fail
   clear g0
   cases h1 : memB m
   ·exact zb75
   have G1 := lh h1; clear h1
   by_cases h3 : hasB (ws.take k) m = true
   ·exact zb32
   replace h3 := Bool.eq_false_iff.2 h3; have G3 := lh h3; clear h3
   by_cases h2 : (m == sp) = true
   ·exact zb33
   replace h2 := Bool.eq_false_iff.2 h2; have G2 := lh h2
   cases h4 : entB tu se (shareF sh m)
   ·have G4 := lh h4; clear h4
    go_wp2_with fail
    refine (l7Member_is m _ G1.out _).mono ?_
    rintro e w0 ⟨rfl, h0⟩
    rw [h0]
    clear h0 w0
    go_wp2_with fail
    refine (l1Has_take b off _ k ws m (by omega) hw _ G3.out _ (hW.below bel)).mono ?_
    rintro e w2 ⟨rfl, hb2⟩
    have hq2 := be wr hb2; replace HB := bth HB hq2; replace hS := hS.below hq2; replace hW := hW.below hq2; replace hF := hF.to hq2; clear f'; have f' := hF.cs5
    go_wp2_with fail
    refine (l8Entitled_is tu se sp (some ⟨b, off, none⟩) ws.length wc S sc sh hn m _ G4.out _ (hS.below bel)).mono ?_
    exact zb64
   ·have G4 := lh h4; clear h4
    go_wp2_with fail
    refine (l7Member_is m _ G1.out _).mono ?_
    rintro e w0 ⟨rfl, h0⟩
    rw [h0]
    clear h0 w0
    go_wp2_with fail
    refine (l1Has_take b off _ k ws m (by omega) hw _ G3.out _ (hW.below bel)).mono ?_
    rintro e w2 ⟨rfl, hb2⟩
    have hq2 := be wr hb2; replace HB := bth HB hq2; replace hS := hS.below hq2; replace hW := hW.below hq2; replace hF := hF.to hq2; clear f'; have f' := hF.cs5
    go_wp2_with fail
    refine (l8Entitled_is tu se sp (some ⟨b, off, none⟩) ws.length wc S sc sh hn m _ G4.out _ (hS.below bel)).mono ?_
    exact zb51
  ·obtain rfl : k = ws.length := by omega
   have f' := hF.cs5
   go_upto_region 9 with fail
   have hz0 : (sp == 0) = false := beq_eq_false_iff_ne.2 h0; have PS := lh hS
   obtain ⟨s, hs⟩ : ∃ s, shareF sh sp = s := ⟨_, rfl⟩
   have HS := lh hs; clear hs
   obtain ⟨sm, st, ss⟩ := s
   have hfd : ∀ W : World, (Instr.field 144 (.agg #[.int .i64 sm, .int .i64 st, .int .i64 ss]) 1).run Tryz.prog W = .ok (.int .i64 st) W := fun _ => by kernel_rfl
   cases h3 : memB sp
   ·have H3 := lh h3; clear h3
    clear f'; have f' := Blk.cs5K (fun K : Kin wr.heap.size wr => (hF.below K.below hF.lt))
    refine wp_region_kin (by kernel_rfl) (by kernel_rfl) ?_
    repeat (go_big_quiet_step (fail))
    go_big_quiet_step ((go_at_call 77; exact Kin.same _ (l7Member_is sp _ H3.out _)))
    repeat (go_big_quiet_step (fail))
    refine wpQuiet_nil ?_
    intro K
    go_wp2
    go_ret
    exact ⟨ret_bool (floB_3 h0 H3.out).symm, bth HB K.below⟩
   have H3 := lh h3; clear h3
   by_cases hst : st < tu
   ·have hde : decide (st < tu) = true := decide_eq_true hst
    clear f'; have f' := Blk.cs5K (fun K : Kin wr.heap.size wr => (hF.below K.below hF.lt))
    refine wp_region_kin (by kernel_rfl) (by kernel_rfl) ?_
    repeat (go_big_quiet_step (fail))
    go_big_quiet_step ((go_at_call 77; exact Kin.same _ (l7Member_is sp _ H3.out _)))
    repeat (go_big_quiet_step (fail))
    go_big_quiet_step ((go_at_call 176; exact Kin.call _ (by first | exact Nat.le_refl _ | omega) (l8Share_is tu se sp W ws.length wc S sc sh hn sp _ HS.out _ (PS.out.below (Kin.below _)))))
    exact zb78
   ·have hde : decide (st < tu) = false := decide_eq_false hst
    clear f'; have f' := Blk.cs5K (fun K : Kin wr.heap.size wr => (hF.below K.below hF.lt))
    refine wp_region_kin (by kernel_rfl) (by kernel_rfl) ?_
    repeat (go_big_quiet_step (fail))
    go_big_quiet_step ((go_at_call 77; exact Kin.same _ (l7Member_is sp _ H3.out _)))
    repeat (go_big_quiet_step (fail))
    go_big_quiet_step ((go_at_call 176; exact Kin.call _ (by first | exact Nat.le_refl _ | omega) (l8Share_is tu se sp W ws.length wc S sc sh hn sp _ HS.out _ (PS.out.below (Kin.below _)))))
    exact zb70
theorem l8Good_is (tu se sp : Int) (W : Option Addr) (ws : List Int) (wc : Nat) (S : Option Addr) (sc : Nat) (sh : List Sha) (hw : ws.length ≤ 1048576) (hn : sh.length ≤ 1048576) (hc : ws.length ≤ wc) (v : Bool) (hv : floB tu se sp ws sh = v) (w : World) (hW : Rds 1 intC w W ws) (hS : Rds 3 Sha.cells w S sh) :
 Calls Tryz.prog 109 #[.agg #[.int .i64 tu, .int .i64 se, .int .i64 sp, .slice W ws.length wc, .slice S sh.length sc]] w fun e w' => e = .returned (.bool v) ∧ Below w.heap.size w w' := by
 subst hv
 cases h1 : inB tu 1 3
 ·have H1 := lh h1
  go_in
  go_upto_region 1 with fail
  refine lay1 fun wX hq1 hF => ?_
  replace hS := hS.below hq1; replace hW := hW.below hq1; have HB := hq1; have f' := hF.cs5
  go_wp2_with fail
  refine (l1In_is tu 1 3 _ H1.out _).mono ?_
  exact zb134
 cases h2 : inB se 1 3600
 ·have H1 := lh h1
  have H2 := lh h2
  go_in
  go_upto_region 1 with fail
  refine lay1 fun wX hq1 hF => ?_
  replace hS := hS.below hq1; replace hW := hW.below hq1; have HB := hq1; have f' := hF.cs5
  go_wp2_with fail
  refine (l1In_is tu 1 3 _ H1.out _).mono ?_
  rintro e w0 ⟨rfl, h0⟩
  rw [h0]
  clear h0 w0
  go_wp2_with fail
  refine (l1In_is se 1 3600 _ H2.out _).mono ?_
  exact zb135
 cases h5 : sharesB tu se sh
 ·have H1 := lh h1
  have H2 := lh h2; have H5 := lh h5
  go_in
  go_upto_region 1 with fail
  refine lay1 fun wX hq1 hF => ?_
  replace hS := hS.below hq1; replace hW := hW.below hq1; have HB := hq1; have f' := hF.cs5
  go_wp2_with fail
  refine (l1In_is tu 1 3 _ H1.out _).mono ?_
  rintro e w0 ⟨rfl, h0⟩
  rw [h0]
  clear h0 w0
  go_wp2_with fail
  refine (l1In_is se 1 3600 _ H2.out _).mono ?_
  rintro e w0 ⟨rfl, h0⟩
  rw [h0]
  clear h0 w0
  go_wp2_with fail
  refine (l8Shares_is tu se sp W ws wc S sc sh hw hn _ H5.out _ (hW.below bel) (hS.below bel)).mono ?_
  rintro e w2 ⟨rfl, hb2⟩
  have hq2 := be wX hb2; replace HB := bth HB hq2; replace hS := hS.below hq2; replace hW := hW.below hq2; replace hF := hF.to hq2; clear f'; have f' := hF.cs5
  go_wp2
  go_ret
  exact ⟨ret_bool (floB_sh H5.out).symm, (bth HB bel)⟩
 by_cases h4 : ws.length ≤ 10
 case neg =>
  have H1 := lh h1; have H2 := lh h2; have H5 := lh h5
  go_in
  go_upto_region 1 with fail
  refine lay1 fun wX hq1 hF => ?_
  replace hS := hS.below hq1; replace hW := hW.below hq1; have HB := hq1; have f' := hF.cs5
  go_wp2_with fail
  refine (l1In_is tu 1 3 _ H1.out _).mono ?_
  rintro e w0 ⟨rfl, h0⟩
  rw [h0]
  clear h0 w0
  go_wp2_with fail
  refine (l1In_is se 1 3600 _ H2.out _).mono ?_
  rintro e w0 ⟨rfl, h0⟩
  rw [h0]
  clear h0 w0
  go_wp2_with fail
  refine (l8Shares_is tu se sp W ws wc S sc sh hw hn _ H5.out _ (hW.below bel) (hS.below bel)).mono ?_
  rintro e w2 ⟨rfl, hb2⟩
  have hq2 := be wX hb2; replace HB := bth HB hq2; replace hS := hS.below hq2; replace hW := hW.below hq2; replace hF := hF.to hq2; clear f'; have f' := hF.cs5
  go_wp2
  go_ret
  exact ⟨ret_bool (floB_4 h4).symm, (bth HB bel)⟩
 by_cases h0 : sp = 0
 ·subst h0
  exact sFloorZ_is tu se W ws wc S sc sh hw hn hc h1 h2 h4 h5 w hW hS
 ·exact sFloorN_is tu se sp W ws wc S sc sh hw hn hc h1 h2 h0 h4 h5 w hW hS
end Go.Proofs.YtjimibkgocieoaaGreat
