/- Texts of the proof: walks of the functions, and what they compute. -/
import Derived.Test.YtjimibkgocieoaaGreatRb12
import Derived.Test.YtjimibkgocieoaaGreatRb0
import Derived.Deep.Cut
import Derived.Test.YtjimibkgocieoaaGreatRb10
set_option maxHeartbeats 16000000
set_option maxRecDepth 100000
namespace Go.Proofs.YtjimibkgocieoaaGreat
open Go.RowKit Go.G9
theorem zb83 {p : Prop} (h : p := by
 clear z'; have z' := hZ.cs5; have fhZ' := hZ.fz5
 go_wp2
 clear z'
 refine st5 0 fun W9 tW9 => ?_
 replace HB := tW9.hc HB; replace hZ := tW9.all5 hZ; have z' := hZ.cs5
 exact brt ⟨rfl, HB⟩ (by simp [results, Tryz.results168, go_sem, z'])) : p := h
theorem zb94 {p : Prop} (h : p := by
 have fhZ' := hZ.fz5
 go_wp2
 clear f' z'
 refine st5 0 fun W9 tW9 => ?_
 replace HB := tW9.hc HB; replace hZ := tW9.all5 hZ; have z' := hZ.cs5
 exact brt ⟨rfl, HB⟩ (by simp [results, Tryz.results168, go_sem, z'])) : p := h
theorem iAskF_is (tu se sp : Int) (A2 : Option Addr) (c2 : Nat) (ws : List Int) (A3 : Option Addr) (c3 : Nat) (sh : List Sha) (h2 : ws.length ≤ 1048576) (h3 : sh.length ≤ 1048576) (n2 : A2 = none → ws = [] ∧ c2 = 0) (n3 : A3 = none → sh = [] ∧ c3 = 0) (k2 : ws.length ≤ c2) (m : Int) (hv : akB ⟨tu, se, sp, ws, sh⟩ m = false) (w : World) (R2 : Rds 1 intC w A2 ws) (R3 : Rds 3 Sha.cells w A3 sh) :
 Calls Tryz.prog 168 #[.agg #[.int .i64 tu, .int .i64 se, .int .i64 sp, .slice A2 ws.length c2, .slice A3 sh.length c3], .int .i64 m] w fun e w' => e = .returned (.tuple #[.agg #[.int .i64 0, .int .i64 0, .int .i64 0, .slice none 0 0, .slice none 0 0], .bool false]) ∧ Below w.heap.size w w' := by
 have HR2 := lh R2; have HR3 := lh R3; clear R2 R3 n2 n3
 cases hc0 : floB tu se sp ws sh
 case false =>
  have HV := lh hc0; clear hc0; clear hv
  go_in
  go_upto_region 1 with fail
  refine lay2 fun wX hq1 hF hZ => ?_
  have HB := hq1; have f' := hF.cs5; have z' := hZ.cs5
  go_wp2_with fail
  refine (isValidFloor_is tu se sp A2 ws c2 A3 c3 sh h2 h3 k2 _ HV.out _ (HR2.out.below (bth HB bel)) (HR3.out.below (bth HB bel))).mono ?_
  rintro e w2 ⟨rfl, hb2⟩
  have hq2 := be wX hb2; replace HB := bth HB hq2; clear f'; replace hZ := hZ.to hq2
  exact zb83
 case true =>
  cases hc1 : memB m
  case false =>
   have HV := lh hc0; clear hc0; have HM := lh hc1; clear hc1; clear hv
   go_in
   go_upto_region 1 with fail
   refine lay2 fun wX hq1 hF hZ => ?_
   have HB := hq1; have f' := hF.cs5; have z' := hZ.cs5
   go_wp2_with fail
   refine (isValidFloor_is tu se sp A2 ws c2 A3 c3 sh h2 h3 k2 _ HV.out _ (HR2.out.below (bth HB bel)) (HR3.out.below (bth HB bel))).mono ?_
   rintro e w2 ⟨rfl, hb2⟩
   have hq2 := be wX hb2; replace HB := bth HB hq2; clear f'; replace hZ := hZ.to hq2; clear z'; have z' := hZ.cs5
   go_wp2_with fail
   refine (isMember_is m _ HM.out _).mono ?_
   rintro e w0 ⟨rfl, h0⟩
   rw [h0]
   clear h0 w0; have fhZ' := hZ.fz5
   go_wp2
   clear z'
   refine st5 0 fun W9 tW9 => ?_
   replace HB := tW9.hc HB; replace hZ := tW9.all5 hZ; have z' := hZ.cs5
   exact brt ⟨rfl, HB⟩ (by simp [results, Tryz.results168, go_sem, z'])
  case true =>
   cases hc2 : (m == sp)
   case true =>
    have HV := lh hc0; clear hc0; have HM := lh hc1; clear hc1; clear hv
    go_in
    go_upto_region 1 with fail
    refine lay2 fun wX hq1 hF hZ => ?_
    have HB := hq1; have f' := hF.cs5; have z' := hZ.cs5
    go_wp2_with fail
    refine (isValidFloor_is tu se sp A2 ws c2 A3 c3 sh h2 h3 k2 _ HV.out _ (HR2.out.below (bth HB bel)) (HR3.out.below (bth HB bel))).mono ?_
    rintro e w2 ⟨rfl, hb2⟩
    have hq2 := be wX hb2; replace HB := bth HB hq2; replace hF := hF.to hq2; clear f'; have f' := hF.cs5; replace hZ := hZ.to hq2; clear z'; have z' := hZ.cs5
    go_wp2_with fail
    refine (isMember_is m _ HM.out _).mono ?_
    rintro e w0 ⟨rfl, h0⟩
    rw [h0]
    clear h0 w0
    exact zb94
   case false =>
    cases hc3 : hasB ws m
    case true =>
     have HV := lh hc0; clear hc0; have HM := lh hc1; clear hc1; have HC := lh hc3; clear hc3; clear hv
     go_in
     go_upto_region 1 with fail
     refine lay2 fun wX hq1 hF hZ => ?_
     have HB := hq1; have f' := hF.cs5; have z' := hZ.cs5
     go_wp2_with fail
     refine (isValidFloor_is tu se sp A2 ws c2 A3 c3 sh h2 h3 k2 _ HV.out _ (HR2.out.below (bth HB bel)) (HR3.out.below (bth HB bel))).mono ?_
     rintro e w2 ⟨rfl, hb2⟩
     have hq2 := be wX hb2; replace HB := bth HB hq2; replace hF := hF.to hq2; clear f'; have f' := hF.cs5; replace hZ := hZ.to hq2; clear z'; have z' := hZ.cs5
     go_wp2_with fail
     refine (isMember_is m _ HM.out _).mono ?_
     rintro e w0 ⟨rfl, h0⟩
     rw [h0]
     clear h0 w0
     go_wp2_with fail
     refine (contains_int A2 c2 ws m h2 _ HC.out _ (HR2.out.below (bth HB bel))).mono ?_
     rintro e w3 ⟨rfl, hb3⟩
     have hq3 := be w2 hb3; replace HB := bth HB hq3; clear f'; replace hZ := hZ.to hq3
     exact zb83
    case false =>
     cases hc4 : entB tu se (shareF sh m)
     case false =>
      have HV := lh hc0; clear hc0; have HM := lh hc1; clear hc1; have HC := lh hc3; clear hc3; have HE := lh hc4; clear hc4; clear hv
      go_in
      go_upto_region 1 with fail
      refine lay2 fun wX hq1 hF hZ => ?_
      have HB := hq1; have f' := hF.cs5; have z' := hZ.cs5
      go_wp2_with fail
      refine (isValidFloor_is tu se sp A2 ws c2 A3 c3 sh h2 h3 k2 _ HV.out _ (HR2.out.below (bth HB bel)) (HR3.out.below (bth HB bel))).mono ?_
      rintro e w2 ⟨rfl, hb2⟩
      have hq2 := be wX hb2; replace HB := bth HB hq2; replace hF := hF.to hq2; clear f'; have f' := hF.cs5; replace hZ := hZ.to hq2; clear z'; have z' := hZ.cs5
      go_wp2_with fail
      refine (isMember_is m _ HM.out _).mono ?_
      rintro e w0 ⟨rfl, h0⟩
      rw [h0]
      clear h0 w0
      go_wp2_with fail
      refine (contains_int A2 c2 ws m h2 _ HC.out _ (HR2.out.below (bth HB bel))).mono ?_
      rintro e w3 ⟨rfl, hb3⟩
      have hq3 := be w2 hb3; replace HB := bth HB hq3; replace hF := hF.to hq3; clear f'; have f' := hF.cs5; replace hZ := hZ.to hq3; clear z'; have z' := hZ.cs5
      go_wp2_with fail
      refine (isEntitled_is tu se sp A2 ws.length c2 A3 c3 sh h3 m _ HE.out _ (HR3.out.below (bth HB bel))).mono ?_
      rintro e w4 ⟨rfl, hb4⟩
      have hq4 := be w3 hb4; replace HB := bth HB hq4; clear f'; replace hZ := hZ.to hq4
      exact zb83
     case true =>
      have hc5 : decide (ws.length = 10) = true := by simpa [akB, Fl.ok, hc0, hc1, hc2, hc3, hc4] using hv
      have HV := lh hc0; clear hc0; have HM := lh hc1; clear hc1; have HC := lh hc3; clear hc3; have HE := lh hc4; clear hc4
      have ht : ((ws.length : Int) == 10) = true := by have := of_decide_eq_true hc5; rw [this]; rfl
      clear hc5; clear hv
      go_in
      go_upto_region 1 with fail
      refine lay2 fun wX hq1 hF hZ => ?_
      have HB := hq1; have f' := hF.cs5; have z' := hZ.cs5
      go_wp2_with fail
      refine (isValidFloor_is tu se sp A2 ws c2 A3 c3 sh h2 h3 k2 _ HV.out _ (HR2.out.below (bth HB bel)) (HR3.out.below (bth HB bel))).mono ?_
      rintro e w2 ⟨rfl, hb2⟩
      have hq2 := be wX hb2; replace HB := bth HB hq2; replace hF := hF.to hq2; clear f'; have f' := hF.cs5; replace hZ := hZ.to hq2; clear z'; have z' := hZ.cs5
      go_wp2_with fail
      refine (isMember_is m _ HM.out _).mono ?_
      rintro e w0 ⟨rfl, h0⟩
      rw [h0]
      clear h0 w0
      go_wp2_with fail
      refine (contains_int A2 c2 ws m h2 _ HC.out _ (HR2.out.below (bth HB bel))).mono ?_
      rintro e w3 ⟨rfl, hb3⟩
      have hq3 := be w2 hb3; replace HB := bth HB hq3; replace hF := hF.to hq3; clear f'; have f' := hF.cs5; replace hZ := hZ.to hq3; clear z'; have z' := hZ.cs5
      go_wp2_with fail
      refine (isEntitled_is tu se sp A2 ws.length c2 A3 c3 sh h3 m _ HE.out _ (HR3.out.below (bth HB bel))).mono ?_
      rintro e w4 ⟨rfl, hb4⟩
      have hq4 := be w3 hb4; replace HB := bth HB hq4; replace hF := hF.to hq4; clear f'; have f' := hF.cs5; replace hZ := hZ.to hq4; clear z'; have z' := hZ.cs5
      exact zb94
theorem iAskT_is (tu se sp : Int) (A2 : Option Addr) (c2 : Nat) (ws : List Int) (A3 : Option Addr) (c3 : Nat) (sh : List Sha) (h2 : ws.length ≤ 1048576) (h3 : sh.length ≤ 1048576) (n2 : A2 = none → ws = [] ∧ c2 = 0) (n3 : A3 = none → sh = [] ∧ c3 = 0) (k2 : ws.length ≤ c2) (m : Int) (hv : akB ⟨tu, se, sp, ws, sh⟩ m = true) (w : World) (R2 : Rds 1 intC w A2 ws) (R3 : Rds 3 Sha.cells w A3 sh) :
 Calls Tryz.prog 168 #[.agg #[.int .i64 tu, .int .i64 se, .int .i64 sp, .slice A2 ws.length c2, .slice A3 sh.length c3], .int .i64 m] w fun e w' => ∃ D2 d2 D3 d3, e = .returned (.tuple #[.agg #[.int .i64 tu, .int .i64 se, .int .i64 sp, .slice D2 (ws ++ [m]).length d2, .slice D3 sh.length d3], .bool true]) ∧ FlO w.heap.size w' D2 d2 D3 d3 (ws ++ [m]) sh ∧ Below w.heap.size w w' := by
 obtain ⟨i0, hi, hz0, hz1, hz2⟩ := info_parts info_int
 have HR2 := lh R2; have HR3 := lh R3; have HN2 := lh n2; have HN3 := lh n3; clear R2 R3 n2 n3
 obtain ⟨hc0, hc1, hs, hc3, hc4, hc5⟩ : floB tu se sp ws sh = true ∧ memB m = true ∧ (m == sp) = false ∧ hasB ws m = false ∧ entB tu se (shareF sh m) = true ∧ ws.length ≠ 10 := by
  simpa [akB, Fl.ok] using hv
 have ht : ((ws.length : Int) == 10) = false := beq_eq_false_iff_ne.2 (by omega); have hwl : ws.length ≤ 10 := (fl_ok.1 (show (⟨tu, se, sp, ws, sh⟩ : Fl).ok = true from hc0)).l; have HV := lh hc0; have HM := lh hc1; have HC := lh hc3; have HE := lh hc4; clear hc0 hc1 hc3 hc4 hc5 hv
 go_in
 go_upto_region 1 with fail
 refine lay2 fun wX hq1 hF hZ => ?_
 have HB := hq1; have f' := hF.cs5; have z' := hZ.cs5; have hz0' := hZ.lt
 go_wp2_with fail
 refine (isValidFloor_is tu se sp A2 ws c2 A3 c3 sh h2 h3 k2 _ HV.out _ (HR2.out.below (bth HB bel)) (HR3.out.below (bth HB bel))).mono ?_
 rintro e w2 ⟨rfl, hb2⟩
 have hq2 := be wX hb2; replace HB := bth HB hq2; replace hF := hF.to hq2; clear f'; have f' := hF.cs5; replace hZ := hZ.to hq2; clear z'; have z' := hZ.cs5
 go_wp2_with fail
 refine (isMember_is m _ HM.out _).mono ?_
 rintro e w0 ⟨rfl, h0⟩
 rw [h0]
 clear h0 w0
 go_wp2_with fail
 refine (contains_int A2 c2 ws m h2 _ HC.out _ (HR2.out.below (bth HB bel))).mono ?_
 rintro e w3 ⟨rfl, hb3⟩
 have hq3 := be w2 hb3; replace HB := bth HB hq3; replace hF := hF.to hq3; clear f'; have f' := hF.cs5; replace hZ := hZ.to hq3; clear z'; have z' := hZ.cs5
 go_wp2_with fail
 refine (isEntitled_is tu se sp A2 ws.length c2 A3 c3 sh h3 m _ HE.out _ (HR3.out.below (bth HB bel))).mono ?_
 rintro e w4 ⟨rfl, hb4⟩
 have hq4 := be w3 hb4; replace HB := bth HB hq4; replace hF := hF.to hq4; clear f'; have f' := hF.cs5; replace hZ := hZ.to hq4; clear z'; have z' := hZ.cs5
 go_wp2_with fail
 refine (newFloor_is tu se sp A2 c2 ws A3 c3 sh h2 h3 HN2.out HN3.out _ (HR2.out.below (bth HB bel)) (HR3.out.below (bth HB bel))).mono ?_
 rintro e w5 ⟨D2, d2, g3, d3, rfl, OO, hb5⟩
 have hq5 := be w4 hb5; replace HB := bth HB hq5; clear f'; replace hZ := hZ.to hq5; clear z'; have z' := hZ.cs5; have szh := HB.size; have szq1 := hq2.size; have szq3 := hq3.size; have szq4 := hq4.size; have szq5 := hq5.size
 go_upto_region 4 with fail
 have hO4 := OO.later (bl1 w5 (.cells #[.int .i64 tu, .int .i64 se, .int .i64 sp, .slice D2 ws.length d2, .slice (some ⟨g3, 0, none⟩) sh.length d3] 29)); have hq6 : Below w5.heap.size w5 (World.alloc w5 (.cells #[.int .i64 tu, .int .i64 se, .int .i64 sp, .slice D2 ws.length d2, .slice (some ⟨g3, 0, none⟩) sh.length d3] 29)) := bl1 w5 _
 have hX : Blk (World.alloc w5 (.cells #[.int .i64 tu, .int .i64 se, .int .i64 sp, .slice D2 ws.length d2, .slice (some ⟨g3, 0, none⟩) sh.length d3] 29)) (w5.heap.size) 29 #[.int .i64 tu, .int .i64 se, .int .i64 sp, .slice D2 ws.length d2, .slice (some ⟨g3, 0, none⟩) sh.length d3] := by repeat (first | exact Blk.new _ _ _ | exact Blk.new2 _ _ _ _ | exact Blk.new3 _ _ _ _ _ | exact Blk.new4 _ _ _ _ _ _ | refine Blk.alloc ?_ _)
 generalize World.alloc w5 (.cells #[.int .i64 tu, .int .i64 se, .int .i64 sp, .slice D2 ws.length d2, .slice (some ⟨g3, 0, none⟩) sh.length d3] 29) = w8 at *
 replace HB := bth HB hq6
 obtain ⟨x0, x1, x2, x3, x4⟩ := hX.cs5
 clear z'; replace hZ := hZ.to hq6; have z' := hZ.cs5; have hx0 := hX.lt; have O2 := hO4.o2; have O3 := hO4.o3; have hap := O2.apart O3 (by decide); have hdl := O2.lt; have hdx := O2.nb hX
 have hdz : ∀ k, (Value.slice D2 ws.length d2).ownBlock = some k → k ≠ w.heap.size + 1 := fun k hk e => by have := (hdl k hk).1; have := szq1; omega
 have HO2 := lh O2; have HO3 := lh O3; have HX := lh hX; have HZ := lh hZ; have HAP := lh hap; have HDX := lh hdx; have HDZ := lh hdz; have HDL := lh hdl; have HHB := lh HB
 have hbase : w4.heap.size ≤ w8.heap.size := by omega
 clear OO hO4 O2 O3 hap hdx hdz hdl; have x3' := x3; clear x0 x1 x2 x3 x4 z'
 go_upto_region 5 with ((at_builtin; refine wpList_app1 rfl _ _ 26 rfl w4.heap.size 3 i0 _ 1 8 Tryz.underlying26 hi hz0 hz1 hz2 rfl (by decide) intC intC_len intC_one _ ws rfl (HO2.out.alloc _) ⟨w8.heap.size, 0, none⟩ 1 m rfl (Rds.one (f := intC) m _) (by unfold maxLen; omega) (by omega) (by simp; omega) ?_; intro v9 w9 hO9 hg9 ha9; have hX9 := ((HX.out.alloc (.cells #[.int .i64 m] 3)).grownN hg9 (fun e => HDX.out _ e.symm rfl)); clear ha9; obtain ⟨Y, yc, rfl, q1, q2, q3⟩ := hO9.form intC_len; clear q1 q2 q3; replace hO9 : OwnV w4.heap.size 3 1 intC w9 (.slice Y (ws.length + 1) yc) (ws ++ [m]) := (by rw [List.length_append] at hO9; exact hO9); have fz9 := hX9.frozen 3; have fc9 := (hX9.cell 3).trans (show _ = some (Value.slice D2 ws.length d2) from rfl)))
 have HB9 : Below w.heap.size w w9 := (HHB.out.alloc (by omega) (.cells #[.int .i64 m] 3)).grown hg9 (by simp; omega) (fun q hq => by have := (HDL.out q hq).1; omega); have hZ9 := (HZ.out.alloc (.cells #[.int .i64 m] 3)).grownN hg9 (fun e => HDZ.out _ e.symm rfl); have O3 := (HO3.out.alloc (.cells #[.int .i64 m] 3)).kept hg9 (fun k hk e => HAP.out k e.symm hk.symm); have O2 := hO9; have hdx := O2.nb hX9
 have h3x := O3.notBlk hX9 (by decide); clear hX hZ hF hg9 hO9 fz9 fc9 x3'; replace HB := HB9; clear HB9; have z' := hZ9.cs5
 obtain ⟨x0, x1, x2, x3, x4⟩ := hX9.cs5
 have neO2 : ∀ k, (Value.slice Y (ws.length + 1) yc).ownBlock = some k → ¬ k = w5.heap.size := hdx
 have neO3 : ∀ k, (Value.slice (some ⟨g3, 0, none⟩) sh.length d3).ownBlock = some k → ¬ k = w5.heap.size := fun k hk e => h3x (by have h : g3 = k := Option.some.inj hk; omega)
 clear z' x0 x1 x2 x3 x4
 refine st1 3 fun W10 tW10 => ?_
 replace HB := tW10.hc HB; replace hZ9 := tW10.fa hZ9; replace hX9 : Blk W10 (w5.heap.size) 29 #[.int .i64 tu, .int .i64 se, .int .i64 sp, .slice Y (ws.length + 1) yc, .slice (some ⟨g3, 0, none⟩) sh.length d3] := tW10.own hX9; replace O2 := O2.keptS tW10 neO2; replace O3 := O3.keptS tW10 neO3; have z' := hZ9.cs5
 obtain ⟨x0, x1, x2, x3, x4⟩ := hX9.cs5
 clear neO2 neO3
 have neO2 : ∀ k, (Value.slice Y (ws.length + 1) yc).ownBlock = some k → ¬ k = w.heap.size + 1 := fun k hk e => by have := (O2.lt k hk).1; omega
 have neO3 : ∀ k, (Value.slice (some ⟨g3, 0, none⟩) sh.length d3).ownBlock = some k → ¬ k = w.heap.size + 1 := fun k hk e => by have h := (O3.lt k hk).1; omega
 have fhZ90 := hZ9.frozen 0; have fhZ91 := hZ9.frozen 1; have fhZ92 := hZ9.frozen 2; have fhZ93 := hZ9.frozen 3; have fhZ94 := hZ9.frozen 4
 go_wp2
 clear z' x0 x1 x2 x3 x4
 refine st5 0 fun W11 tW11 => ?_
 replace HB := tW11.hc HB; replace hZ9 := tW11.all5 hZ9; replace hX9 := tW11.fa hX9; replace O2 := O2.keptS tW11 neO2; replace O3 := O3.keptS tW11 neO3; have z' := hZ9.cs5
 refine bodyPost_ret (v := .tuple #[.agg #[.int .i64 tu, .int .i64 se, .int .i64 sp, .slice Y (ws.length + 1) yc, .slice (some ⟨g3, 0, none⟩) sh.length d3], .bool true]) (by simp [results, Tryz.results168, go_sem, z']) rfl ?_
 have hlw : (ws ++ [m]).length = ws.length + 1 := by simp
 rw [hlw]
 exact ⟨Y, yc, some ⟨g3, 0, none⟩, d3, rfl, ⟨by rw [hlw]; exact O2.base (by omega), O3.base (by omega), by rw [hlw]; exact O2.apart O3 (by decide)⟩, HB⟩
theorem zb52 {p : Prop} (h : p := by
 rintro e w2 ⟨rfl, hb2⟩
 have hq2 := be wX hb2; replace HB := bth HB hq2; replace hF := hF.to hq2; clear f'; have f' := hF.cs5; replace hZ := hZ.to hq2; clear z'; have z' := hZ.cs5; have fhZ' := hZ.fz5
 go_wp2
 clear f' z'
 refine st5 0 fun W9 tW9 => ?_
 replace HB := tW9.hc HB; replace hZ := tW9.all5 hZ; have z' := hZ.cs5
 exact brt ⟨rfl, HB⟩ (by simp [results, Tryz.results169, go_sem, z'])) : p := h
theorem zb147 {p : Prop} (h : p := by
 have := hv
 simp only [nxB, Fl.ok, hf, hs, Bool.true_and, decide_eq_false_iff_not] at this
 omega) : p := h
theorem iNextF_is (tu se sp : Int) (A2 : Option Addr) (c2 : Nat) (ws : List Int) (A3 : Option Addr) (c3 : Nat) (sh : List Sha) (h2 : ws.length ≤ 1048576) (h3 : sh.length ≤ 1048576) (n2 : A2 = none → ws = [] ∧ c2 = 0) (n3 : A3 = none → sh = [] ∧ c3 = 0) (k2 : ws.length ≤ c2) (hv : nxB ⟨tu, se, sp, ws, sh⟩ = false) (w : World) (R2 : Rds 1 intC w A2 ws) (R3 : Rds 3 Sha.cells w A3 sh) :
 Calls Tryz.prog 169 #[.agg #[.int .i64 tu, .int .i64 se, .int .i64 sp, .slice A2 ws.length c2, .slice A3 sh.length c3]] w fun e w' => e = .returned (.tuple #[.agg #[.int .i64 0, .int .i64 0, .int .i64 0, .slice none 0 0, .slice none 0 0], .int .i64 0, .bool false]) ∧ Below w.heap.size w w' := by
 have HR2 := lh R2; have HR3 := lh R3; have HN2 := lh n2; clear R2 R3 n2 n3
 cases hf : floB tu se sp ws sh
 ·have HV := lh hf
  clear hf hv
  go_in
  go_upto_region 1 with fail
  refine lay2 fun wX hq1 hF hZ => ?_
  have HB := hq1; have f' := hF.cs5; have z' := hZ.cs5
  go_wp2_with fail
  refine (isValidFloor_is tu se sp A2 ws c2 A3 c3 sh h2 h3 k2 _ HV.out _ (HR2.out.below (bth HB bel)) (HR3.out.below (bth HB bel))).mono ?_
  rintro e w2 ⟨rfl, hb2⟩
  have hq2 := be wX hb2; replace HB := bth HB hq2; clear f'; replace hZ := hZ.to hq2; clear z'; have z' := hZ.cs5; have fhZ' := hZ.fz5
  go_wp2
  clear z'
  refine st5 0 fun W9 tW9 => ?_
  replace HB := tW9.hc HB; replace hZ := tW9.all5 hZ; have z' := hZ.cs5
  exact brt ⟨rfl, HB⟩ (by simp [results, Tryz.results169, go_sem, z'])
 ·cases hs : (sp == 0)
  case false =>
   have hs' : (sp != 0) = true := by rw [bne, hs]; rfl
   have HV := lh hf; clear hf hv hs
   go_in
   go_upto_region 1 with fail
   refine lay2 fun wX hq1 hF hZ => ?_
   have HB := hq1; have f' := hF.cs5; have z' := hZ.cs5
   go_wp2_with fail
   refine (isValidFloor_is tu se sp A2 ws c2 A3 c3 sh h2 h3 k2 _ HV.out _ (HR2.out.below (bth HB bel)) (HR3.out.below (bth HB bel))).mono ?_
   exact zb52
  case true =>
   have hw0 : ws.length = 0 := by
    exact zb147
   have hs' : (sp != 0) = false := by rw [bne, hs]; rfl
   obtain rfl := List.length_eq_zero_iff.1 hw0
   have HV := lh hf; clear hf hv hs hw0
   go_in
   go_upto_region 1 with fail
   refine lay2 fun wX hq1 hF hZ => ?_
   have HB := hq1; have f' := hF.cs5; have z' := hZ.cs5
   go_wp2_with fail
   refine (isValidFloor_is tu se sp A2 [] c2 A3 c3 sh h2 h3 k2 _ HV.out _ (HR2.out.below (bth HB bel)) (HR3.out.below (bth HB bel))).mono ?_
   exact zb52
theorem iNextT_is (tu se sp : Int) (A2 : Option Addr) (c2 : Nat) (ws : List Int) (A3 : Option Addr) (c3 : Nat) (sh : List Sha) (h2 : ws.length ≤ 1048576) (h3 : sh.length ≤ 1048576) (n2 : A2 = none → ws = [] ∧ c2 = 0) (n3 : A3 = none → sh = [] ∧ c3 = 0) (k2 : ws.length ≤ c2) (hv : nxB ⟨tu, se, sp, ws, sh⟩ = true) (m : Int) (hm : nxM ⟨tu, se, sp, ws, sh⟩ = some m) (w : World) (R2 : Rds 1 intC w A2 ws) (R3 : Rds 3 Sha.cells w A3 sh) :
 Calls Tryz.prog 169 #[.agg #[.int .i64 tu, .int .i64 se, .int .i64 sp, .slice A2 ws.length c2, .slice A3 sh.length c3]] w fun e w' => ∃ D2 d2 D3 d3, e = .returned (.tuple #[.agg #[.int .i64 tu, .int .i64 se, .int .i64 m, .slice D2 (ws.filter fun x => !(x == m)).length d2, .slice D3 sh.length d3], .int .i64 m, .bool true]) ∧ FlO w.heap.size w' D2 d2 D3 d3 (ws.filter fun x => !(x == m)) sh ∧ Below w.heap.size w w' := by
 have HR2 := lh R2; have HR3 := lh R3; have HN2 := lh n2; have HN3 := lh n3; clear R2 R3 n2 n3
 obtain ⟨hc0, hs, hw0⟩ : floB tu se sp ws sh = true ∧ (sp == 0) = true ∧ 0 < ws.length := by
  simpa [nxB, Fl.ok] using hv
 have hs' : (sp != 0) = false := by rw [bne, hs]; rfl
 have ht : ((ws.length : Int) == 0) = false := beq_eq_false_iff_ne.2 (by omega); have hwl : ws.length ≤ 10 := (fl_ok.1 (show (⟨tu, se, sp, ws, sh⟩ : Fl).ok = true from hc0)).l; have hhd : (spO ⟨tu, se, sp, ws, sh⟩)[0]? = some m := (spO_head hw0).trans hm; have hsl : (spO ⟨tu, se, sp, ws, sh⟩).length = ws.length := spO_len _; have HV := lh hc0; have HHD := lh hhd; have HSL := lh hsl; clear hc0 hhd hsl hv hm hs
 go_in
 go_upto_region 1 with fail
 refine lay2 fun wX hq1 hF hZ => ?_
 have HB := hq1; have f' := hF.cs5; have z' := hZ.cs5; have hz0' := hZ.lt
 go_wp2_with fail
 refine (isValidFloor_is tu se sp A2 ws c2 A3 c3 sh h2 h3 k2 _ HV.out _ (HR2.out.below (bth HB bel)) (HR3.out.below (bth HB bel))).mono ?_
 rintro e w2 ⟨rfl, hb2⟩
 have hq2 := be wX hb2; replace HB := bth HB hq2; replace hF := hF.to hq2; clear f'; have f' := hF.cs5; replace hZ := hZ.to hq2; clear z'; have z' := hZ.cs5
 go_wp2_with fail
 refine (newFloor_is tu se sp A2 c2 ws A3 c3 sh h2 h3 HN2.out HN3.out _ (HR2.out.below (bth HB bel)) (HR3.out.below (bth HB bel))).mono ?_
 rintro e w3 ⟨D2, d2, g3, d3, rfl, OO, hb3⟩
 have hq3 := be w2 hb3; replace HB := bth HB hq3; replace hF := hF.to hq3; clear f'; have f' := hF.cs5; replace hZ := hZ.to hq3; clear z'; have z' := hZ.cs5; have szq1 := hq2.size; have szq2 := hq3.size; have hgw := (OO.o3.lt g3 rfl)
 go_upto_region 4 with fail
 have O3 := OO.o3.later (bl1 w3 (.cells #[.int .i64 tu, .int .i64 se, .int .i64 sp, .slice D2 ws.length d2, .slice (some ⟨g3, 0, none⟩) sh.length d3] 29)); clear OO; have hq4 : Below w3.heap.size w3 (World.alloc w3 (.cells #[.int .i64 tu, .int .i64 se, .int .i64 sp, .slice D2 ws.length d2, .slice (some ⟨g3, 0, none⟩) sh.length d3] 29)) := bl1 w3 _
 have hX : Blk (World.alloc w3 (.cells #[.int .i64 tu, .int .i64 se, .int .i64 sp, .slice D2 ws.length d2, .slice (some ⟨g3, 0, none⟩) sh.length d3] 29)) (w3.heap.size) 29 #[.int .i64 tu, .int .i64 se, .int .i64 sp, .slice D2 ws.length d2, .slice (some ⟨g3, 0, none⟩) sh.length d3] := by repeat (first | exact Blk.new _ _ _ | exact Blk.new2 _ _ _ _ | exact Blk.new3 _ _ _ _ _ | exact Blk.new4 _ _ _ _ _ _ | refine Blk.alloc ?_ _)
 generalize World.alloc w3 (.cells #[.int .i64 tu, .int .i64 se, .int .i64 sp, .slice D2 ws.length d2, .slice (some ⟨g3, 0, none⟩) sh.length d3] 29) = w8 at *
 replace HB := bth HB hq4; have x' := hX.cs5; clear f'; replace hF := hF.to hq4; have f' := hF.cs5; clear z'; replace hZ := hZ.to hq4; have z' := hZ.cs5
 go_wp2_with fail
 refine (speakingOrder_is tu se sp A2 c2 ws A3 c3 sh h2 h3 HN2.out HN3.out k2 (by omega) _ (HR2.out.below (bth HB bel)) (HR3.out.below (bth HB bel))).mono ?_
 rintro e w5 ⟨g5, c5, rfl, O5, hb5⟩
 have hq5 := be w8 hb5; replace HB := bth HB hq5; replace O3 := O3.later hq5; replace hF := hF.to hq5; clear f'; have f' := hF.cs5; replace hZ := hZ.to hq5; clear z'; have z' := hZ.cs5; replace hX := hX.to hq5; clear x'; have x' := hX.cs5; have c50 := (own_cellJ (show OwnV _ _ _ _ _ (.slice (some ⟨g5, 0, none⟩) _ c5) (spO ⟨tu, se, sp, ws, sh⟩) from O5) HHD.out).1
 rw [HSL.out]
 clear O5; have fhX2 := hX.frozen 2
 go_upto_region 5 with fail
 have neO3 : ∀ k, (Value.slice (some ⟨g3, 0, none⟩) sh.length d3).ownBlock = some k → ¬ k = w3.heap.size := fun k hk e => by have h := (O3.lt k hk); have h9 : g3 = k := Option.some.inj hk; omega
 clear f' z' x'
 refine st1 2 fun W4 tW4 => ?_
 replace HB := tW4.hc HB; replace hF := tW4.fa hF; replace hZ := tW4.fa hZ; replace hX : Blk W4 (w3.heap.size) 29 #[.int .i64 tu, .int .i64 se, .int .i64 m, .slice D2 ws.length d2, .slice (some ⟨g3, 0, none⟩) sh.length d3] := tW4.own hX; replace O3 := O3.keptS tW4 neO3; have f' := hF.cs5; have z' := hZ.cs5; have x' := hX.cs5; clear neO3 fhX2; have szx4 := hX.lt
 go_wp2_with fail
 refine (without_is A2 c2 ws h2 HN2.out m _ (HR2.out.below (bth HB bel))).mono ?_
 rintro e w6 ⟨g7, c7, rfl, O7, hb6⟩
 have hq6 := be W4 hb6; replace HB := bth HB hq6; replace O3 := O3.later hq6; clear f'; replace hZ := hZ.to hq6; clear z'; have z' := hZ.cs5; replace hX := hX.to hq6; clear x'; have x' := hX.cs5; have fhX3 := hX.frozen 3; have h7b := (O7.lt g7 rfl).1
 go_upto_region 6 with fail
 have neO3 : ∀ k, (Value.slice (some ⟨g3, 0, none⟩) sh.length d3).ownBlock = some k → ¬ k = w3.heap.size := fun k hk e => by have h := (O3.lt k hk); have h9 : g3 = k := Option.some.inj hk; omega
 have neO7 : ∀ k, (Value.slice (some ⟨g7, 0, none⟩) (ws.filter fun x => !(x == m)).length c7).ownBlock = some k → ¬ k = w3.heap.size := fun k hk e => by have h9 : g7 = k := Option.some.inj hk; omega
 clear z' x'
 refine st1 3 fun W6 tW6 => ?_
 replace HB := tW6.hc HB; replace hZ := tW6.fa hZ; replace hX : Blk W6 (w3.heap.size) 29 #[.int .i64 tu, .int .i64 se, .int .i64 m, .slice (some ⟨g7, 0, none⟩) (ws.filter fun x => !(x == m)).length c7, .slice (some ⟨g3, 0, none⟩) sh.length d3] := tW6.own hX; replace O3 := O3.keptS tW6 neO3; replace O7 := O7.keptS tW6 neO7; have z' := hZ.cs5; have x' := hX.cs5; clear neO3 neO7 fhX3
 haveI : Nonempty (Hld (fun V => Blk V w3.heap.size 29 #[.int .i64 tu, .int .i64 se, .int .i64 m, .slice (some ⟨g7, 0, none⟩) (ws.filter fun x => !(x == m)).length c7, .slice (some ⟨g3, 0, none⟩) sh.length d3])) := ⟨⟨W6, hX⟩⟩
 haveI : Nonempty (Hld (fun _ => True)) := ⟨⟨W6, trivial⟩⟩
 clear x'; have x' := Blk.cs5K (fun K : Hld (fun V => Blk V w3.heap.size 29 #[.int .i64 tu, .int .i64 se, .int .i64 m, .slice (some ⟨g7, 0, none⟩) (ws.filter fun x => !(x == m)).length c7, .slice (some ⟨g3, 0, none⟩) sh.length d3]) => K.holds)
 refine wp_region_mx (fun V => Blk V w3.heap.size 29 #[.int .i64 tu, .int .i64 se, .int .i64 m, .slice (some ⟨g7, 0, none⟩) (ws.filter fun x => !(x == m)).length c7, .slice (some ⟨g3, 0, none⟩) sh.length d3]) [([0, 1, 2], [], 3, false)] [] [4, 5] (by kernel_rfl) (by kernel_rfl) hX ?_
 refine wpMx_cons fun K hK => ?_
 change wpQuiet _ _ _ _ (_ :: _ :: _ :: []) _
 repeat (go_big_quiet_step (fail))
 refine wpQuiet_nil ?_
 refine wpQuiet_nil ?_
 change wpList _ _ _ (_ :: []) _ _
 have hb9 := (Below.refl W6.heap.size W6).drew; replace HB : Below w.heap.size w W6.drew := HB.drew; have hZ9 := hZ.to hb9; have hX9 := hX.to hb9; replace O3 := O3.later hb9; replace O7 := O7.later hb9; clear hZ hX hF x' z' hb9
 generalize W6.drew = W7 at *
 have z' := hZ9.cs5; have fhZ90 := hZ9.frozen 0; have fhZ91 := hZ9.frozen 1; have fhZ92 := hZ9.frozen 2; have fhZ93 := hZ9.frozen 3; have fhZ94 := hZ9.frozen 4
 have neO3 : ∀ k, (Value.slice (some ⟨g3, 0, none⟩) sh.length d3).ownBlock = some k → ¬ k = w.heap.size + 1 := fun k hk e => by have h9 : g3 = k := Option.some.inj hk; omega
 have neO7 : ∀ k, (Value.slice (some ⟨g7, 0, none⟩) (ws.filter fun x => !(x == m)).length c7).ownBlock = some k → ¬ k = w.heap.size + 1 := fun k hk e => by have h9 : g7 = k := Option.some.inj hk; omega
 go_wp2
 clear z'
 refine st5 0 fun W8 tW8 => ?_
 replace HB := tW8.hc HB; replace hZ9 := tW8.all5 hZ9; replace hX9 := tW8.fa hX9; replace O3 := O3.keptS tW8 neO3; replace O7 := O7.keptS tW8 neO7; have z' := hZ9.cs5
 refine Nrm_keep hX9 (hK _ _ ?_)
 refine wpMx_last ?_
 refine wpQuiet_nil ?_
 change wpQuiet _ _ _ _ (_ :: _ :: []) _
 repeat (go_big_quiet_step (fail))
 refine wpQuiet_nil ?_
 go_wp2
 refine bodyPost_ret (v := .tuple #[.agg #[.int .i64 tu, .int .i64 se, .int .i64 m, .slice (some ⟨g7, 0, none⟩) (ws.filter fun x => !(x == m)).length c7, .slice (some ⟨g3, 0, none⟩) sh.length d3], .int .i64 m, .bool true]) (by simp [results, Tryz.results169, go_sem, z']) rfl ?_
 exact ⟨some ⟨g7, 0, none⟩, c7, some ⟨g3, 0, none⟩, d3, rfl, ⟨O7.base (by omega), O3.base (by omega), O7.apart O3 (by decide)⟩, HB⟩
open Go.RowKit Go.G9
theorem lkB_parts {rs : List Rul} {qs : List Que} (h : lkB rs qs = true) : pendB rs qs = true ∧ lstB rs qs = true := by simpa [lkB] using h
theorem lstB_some {rs : List Rul} {qs : List Que} (h : lstB rs qs = true) : ∃ j q, qs.length = j + 1 ∧ qs[j]? = some q := by
 unfold lstB at h
 cases hq : qs[qs.length - 1]? with
 | none => rw [hq] at h; cases h
 | some q =>
  have := (List.getElem?_eq_some_iff.1 hq).1
  exact ⟨qs.length - 1, q, by omega, hq⟩
theorem secd_set {qs : List Que} {j : Nat} {q : Que} (hj : qs.length = j + 1) (hq : qs[j]? = some q) : secd qs = qs.set j ⟨q.rule, q.mover, true⟩ := by
 have e : qs.length - 1 = j := by omega
 unfold secd
 rw [e, hq]
 dsimp only
 conv => rhs; rw [last_split hj hq]
 rw [List.set_append_right _ _ (by simp; omega)]
 congr 1
 simp
 rw [show j - min j qs.length = 0 by omega]; rfl
theorem lstM_last {qs : List Que} {j : Nat} {q : Que} {mem : Int} (hj : qs.length = j + 1) (hq : qs[j]? = some q) : lstM qs mem = (q.mover == mem) := by
 unfold lstM; rw [show qs.length - 1 = j by omega, hq]
theorem sdQ_no1 {rs : List Rul} {qs : List Que} {mem : Int} (h : lkB rs qs = false) : sdQ rs qs mem = none := by
 unfold sdQ; rw [← Bool.and_assoc, show (pendB rs qs && lstB rs qs) = false from h]; rfl
theorem sdQ_no2 {rs : List Rul} {qs : List Que} {mem : Int} (h : memB mem = false) : sdQ rs qs mem = none := by simp [sdQ, h]
theorem sdQ_no3 {rs : List Rul} {qs : List Que} {mem : Int} (h : lstM qs mem = true) : sdQ rs qs mem = none := by simp [sdQ, h]
theorem sdQ_yes {rs : List Rul} {qs : List Que} {mem : Int} (h : lkB rs qs = true) (h2 : memB mem = true) (h3 : lstM qs mem = false) : sdQ rs qs mem = some (secd qs) := by
 obtain ⟨h4, h5⟩ := lkB_parts h
 simp [sdQ, h4, h5, h2, h3]
theorem iSecondQ_is (A0 : Option Addr) (c0 : Nat) (rs : List Rul) (h0 : rs.length ≤ 1048576) (kc : rs.length ≤ c0) (A1 : Option Addr) (c1 : Nat) (qs : List Que) (h1 : qs.length ≤ 1048576) (hA : A1 = none → qs = [] ∧ c1 = 0) (mem : Int) (w : World) (R0 : Rds 7 Rul.cells w A0 rs) (R1 : Rds 3 Que.cells w A1 qs) : Calls Tryz.prog 108 #[.slice A0 rs.length c0, .slice A1 qs.length c1, .int .i64 mem] w fun e w' => ∃ A c, e = .returned (.tuple #[.slice A (oL (sdQ rs qs mem)).length c, .bool (sdQ rs qs mem).isSome]) ∧ OwnV w.heap.size 46 3 Que.cells w' (.slice A (oL (sdQ rs qs mem)).length c) (oL (sdQ rs qs mem)) ∧ Below w.heap.size w w' := by
 obtain ⟨i0, hi, hz0, hz1, hz2⟩ := info_parts info_Que
 have HNA := lh hA; clear hA
 cases hk : lkB rs qs
 ·have HK := lh hk
  rw [sdQ_no1 hk]
  clear hk
  go_in
  go_wp2_with fail
  refine (lacks_is A0 c0 rs h0 kc A1 c1 qs h1 _ HK.out _ (R0.below bel) (R1.below bel)).mono ?_
  rintro e w1 ⟨rfl, hb1⟩
  have hq1 := be w hb1; have HB : Below w.heap.size w w1 := hq1
  go_wp2
  go_ret2
  exact ⟨none, 0, rfl, OwnV.nil, (bth HB bel)⟩
 cases hm : memB mem
 ·have HK := lh hk; have HM := lh hm
  rw [sdQ_no2 hm]
  clear hk hm
  go_in
  go_wp2_with fail
  refine (lacks_is A0 c0 rs h0 kc A1 c1 qs h1 _ HK.out _ (R0.below bel) (R1.below bel)).mono ?_
  exact zb73
 obtain ⟨j, ⟨qr, qm, qe⟩, hj, hq⟩ := lstB_some (lkB_parts hk).2
 obtain ⟨bq, oq, _, rfl, _, _, _⟩ := R1.at_ (Below.refl _ _) (k := j) (by omega)
 have HJ := lh hj; have HQ := lh hq
 have hjl : j ≤ 1048576 := by omega
 have HE := lh (fun W (h : Rds 7 Rul.cells W A0 rs) (h' : Rds 3 Que.cells W (some ⟨bq, oq, none⟩) qs) => lacks_is A0 c0 rs h0 kc (some ⟨bq, oq, none⟩) c1 qs h1 _ hk W h h')
 cases hs : qm == mem
 case true =>
  have HM := lh hm
  rw [sdQ_no3 ((lstM_last hj hq).trans hs)]
  rw [hj] at HE ⊢
  clear hk hm hj hq h1
  go_in
  go_wp2_with fail
  refine (HE.out _ (R0.below bel) (R1.below bel)).mono ?_
  rintro e w1 ⟨rfl, hb1⟩
  have hq1 := be w hb1; have HB : Below w.heap.size w w1 := hq1; replace R1 := R1.below hq1
  go_wp2_with fail
  refine (isMember_is mem _ HM.out _).mono ?_
  rintro e w0 ⟨rfl, h0⟩
  rw [h0]
  clear h0 w0
  obtain ⟨_, _, y, e9, hb9, hy, hcy⟩ := R1.at_ (Below.refl _ _) (k := j) (by have := HJ.out; omega)
  cases e9
  obtain rfl : (⟨qr, qm, qe⟩ : Que) = y := Option.some.inj (HQ.out.symm.trans hy)
  clear hy; have p0 := hcy 0 _ rfl; have p1 := hcy 1 _ rfl; have p2 := hcy 2 _ rfl
  simp only [Nat.add_zero] at p0
  have g0 := p0 (Kin.self _); have g1 := p1 (Kin.self _); have g2 := p2 (Kin.self _)
  simp only [Kin.self] at g0
  simp only [Kin.self] at g1
  simp only [Kin.self] at g2
  clear hcy p0 p1 p2
  go_wp2
  go_ret2
  exact ⟨none, 0, rfl, OwnV.nil, (bth HB bel)⟩
 case false =>
  have HM := lh hm
  rw [sdQ_yes hk hm ((lstM_last hj hq).trans hs), secd_set hj hq]
  have hls : (qs.set j ⟨qr, qm, true⟩).length = j + 1 := by rw [List.length_set, hj]
  have HLS := lh hls
  rw [hj] at HE ⊢
  clear hk hm hj hq h1 hls
  go_in
  go_wp2_with fail
  refine (HE.out _ (R0.below bel) (R1.below bel)).mono ?_
  rintro e w1 ⟨rfl, hb1⟩
  have hq1 := be w hb1; have HB : Below w.heap.size w w1 := hq1; replace R1 := R1.below hq1
  go_wp2_with fail
  refine (isMember_is mem _ HM.out _).mono ?_
  rintro e w0 ⟨rfl, h0⟩
  rw [h0]
  clear h0 w0
  obtain ⟨_, _, y, e9, hb9, hy, hcy⟩ := R1.at_ (Below.refl _ _) (k := j) (by have := HJ.out; omega)
  cases e9
  obtain rfl : (⟨qr, qm, qe⟩ : Que) = y := Option.some.inj (HQ.out.symm.trans hy)
  clear hy; have p0 := hcy 0 _ rfl; have p1 := hcy 1 _ rfl; have p2 := hcy 2 _ rfl
  simp only [Nat.add_zero] at p0
  have g0 := p0 (Kin.self _); have g1 := p1 (Kin.self _); have g2 := p2 (Kin.self _)
  simp only [Kin.self] at g0
  simp only [Kin.self] at g1
  simp only [Kin.self] at g2
  clear hcy p0 p1 p2; have HR1 := lh (fun e u => (R1.below (bl1 w1 (.cells #[] e))) : ∀ (e : TypeId) (u : Unit), Rds 3 Que.cells (w1.alloc (.cells #[] e)) (some ⟨bq, oq, none⟩) qs); have szc := HB.size
  go_wp2_with ((at_builtin; refine wpList_appOn rfl _ _ 25 rfl w1.heap.size 46 i0 _ 3 24 Tryz.underlying25 hi hz0 hz1 hz2 rfl (by decide) Que.cells que_len que_one w1.heap.size rfl (Blk.new _ _ _) (Nat.le_refl _) (some ⟨bq, oq, none⟩) c1 qs (j + 1) HJ.out.symm rfl (HR1.out _ ()) (fun h => by cases h) (by have := HJ.out; unfold maxLen; omega) (by have := HJ.out; omega) ?_; intro g' c' wA hO' hb'; have hbA : Below w1.heap.size w1 wA := bth (bl1 _ _) hb'; have szA := hbA.size; have hgl := (hO'.lt g' rfl).2; have hfz := own_free hO' que_len (j := j) (i := 2) (by have := HJ.out; omega) (by decide); have hcv := own_cellq hO' que_len HQ.out (i := 2) (u := .bool qe) rfl))
  have hOs := own_set hO' que_len (y := ⟨qr, qm, true⟩) (u := .bool true) (i := 2) HQ.out (by decide) rfl; have hBs : Below w1.heap.size w1 (wA.setCell ⟨g', j * 3 + 2, none⟩ (.bool true)) := hbA.setCell (by have := (hO'.lt g' rfl).1; exact this) _
  go_wp2
  go_ret2
  refine ⟨some ⟨g', 0, none⟩, c', by simp only [oL, Option.getD_some, HLS.out]; rfl, ?_, bth HB hBs⟩
  have hOt := hOs.base (by omega : w.heap.size ≤ _); have e9 := HLS.out
  simp only [oL, Option.getD_some]
  rw [e9]
  first | exact hOt | (have e8 := HJ.out; rw [e8] at hOt; exact hOt)
theorem dpQ_no {rs : List Rul} {qs : List Que} (h : pendB rs qs = false) : dpQ rs qs = none := by simp [dpQ, h]
theorem dpQ_keep {rs : List Rul} {qs : List Que} (h : pendB rs qs = true) (h2 : lstB rs qs = false) : dpQ rs qs = some qs := by simp [dpQ, dpL, h, h2]
theorem dpQ_drop {rs : List Rul} {qs : List Que} (h : pendB rs qs = true) (h2 : lstB rs qs = true) : dpQ rs qs = some (qs.take (qs.length - 1)) := by simp [dpQ, dpL, h, h2]
theorem zb151 {p : Prop} (h : p := by
 obtain ⟨A', c', e', hc, _, _⟩ := h.form hf
 injection e' with _ _ e3
 subst e3; exact hc) : p := h
theorem own_capq {T : Type} {sz : Nat} {f : T → List Value} {B : Nat} {e : TypeId} {w : World} {A : Option Addr} {n c : Nat} {xs : List T} (h : OwnV B e sz f w (.slice A n c) xs) (hf : ∀ y, (f y).length = sz) : xs.length ≤ c := by
 exact zb151
theorem flat_take {T V : Type} {sz : Nat} {f : T → List V} (hf : ∀ y, (f y).length = sz) : ∀ (xs : List T) (k : Nat), (xs.take k).flatMap f = (xs.flatMap f).take (k * sz)
 | [], k => by simp
 | x :: xs, 0 => by simp
 | x :: xs, k + 1 => by
  have ih := flat_take hf xs k
  have hk : (k + 1) * sz = sz + k * sz := by rw [Nat.succ_mul]; omega
  simp only [List.take_succ_cons, List.flatMap_cons]
  rw [ih, hk, List.take_append, hf, List.take_of_length_le (l := f x) (by rw [hf]; omega)]
  congr 2
  omega
theorem own_take {T : Type} {B : Nat} {e : TypeId} {sz : Nat} {f : T → List Value} {w : World} {g n c : Nat} {xs : List T} (h : OwnV B e sz f w (.slice (some ⟨g, 0, none⟩) n c) xs) (hf : ∀ y, (f y).length = sz) {k : Nat} (hk : k ≤ xs.length) : OwnV B e sz f w (.slice (some ⟨g, 0, none⟩) k c) (xs.take k) := by
 obtain ⟨hl, h⟩ := h
 have hlen : (xs.take k).length = k := by rw [List.length_take]; omega
 have hft : (xs.take k).flatMap f = (xs.flatMap f).take (k * sz) := flat_take hf xs k
 unfold OwnV
 rw [hlen, hft]
 refine ⟨by rw [List.length_take, hl]; have := Nat.mul_le_mul_right sz hk; omega, ?_⟩
 rcases h with ⟨e0, _⟩ | ⟨g', cap, cur, e0, hB, hh, hnc, hcm, hcs, htk⟩
 ·cases e0
 ·injection e0 with e1 e2 e3
  cases e1; subst e3
  refine .inr ⟨_, c, cur, rfl, hB, hh, by omega, hcm, hcs, ?_⟩
  rw [← htk, List.take_take]
  congr 1
  have := Nat.mul_le_mul_right sz hk
  omega
theorem iDropQ_is (A0 : Option Addr) (c0 : Nat) (rs : List Rul) (h0 : rs.length ≤ 1048576) (kc : rs.length ≤ c0) (A1 : Option Addr) (c1 : Nat) (qs : List Que) (h1 : qs.length ≤ 1048576) (hA : A1 = none → qs = [] ∧ c1 = 0) (w : World) (R0 : Rds 7 Rul.cells w A0 rs) (R1 : Rds 3 Que.cells w A1 qs) : Calls Tryz.prog 166 #[.slice A0 rs.length c0, .slice A1 qs.length c1] w fun e w' => ∃ A c, e = .returned (.tuple #[.slice A (oL (dpQ rs qs)).length c, .bool (dpQ rs qs).isSome]) ∧ OwnV w.heap.size 46 3 Que.cells w' (.slice A (oL (dpQ rs qs)).length c) (oL (dpQ rs qs)) ∧ Below w.heap.size w w' := by
 obtain ⟨i0, hi, hz0, hz1, hz2⟩ := info_parts info_Que
 have HNA := lh hA; clear hA
 cases hp : pendB rs qs
 ·have HP := lh hp
  rw [dpQ_no hp]
  exact zb69
 cases hl : lstB rs qs
 ·have HP := lh hp
  have HK : Hid (lkB rs qs = false) := lh (by simp [lkB, hl])
  rw [dpQ_keep hp hl]
  clear hp hl
  go_in
  go_wp2_with fail
  refine (arePending_is A0 c0 rs h0 kc A1 c1 qs h1 _ HP.out _ (R0.below bel) (R1.below bel)).mono ?_
  rintro e w1 ⟨rfl, hb1⟩
  have hq1 := be w hb1; have HB : Below w.heap.size w w1 := hq1; replace R0 := R0.below hq1; replace R1 := R1.below hq1; have hA := HNA.out; have HR1 := lh (fun e u => (R1.below (bl1 w1 (.cells #[] e))) : ∀ (e : TypeId) (u : Unit), Rds 3 Que.cells (w1.alloc (.cells #[] e)) A1 qs); have szc := HB.size; have HRA := lh (fun W hW => ⟨R0.below hW, R1.below hW⟩ : ∀ W, Below w1.heap.size w1 W → Rds 7 Rul.cells W A0 rs ∧ Rds 3 Que.cells W A1 qs)
  go_wp2_with ((first
   | (at_builtin; refine wpList_appO rfl _ _ 25 rfl w1.heap.size 46 i0 _ 3 24 Tryz.underlying25 hi hz0 hz1 hz2 rfl (by decide) Que.cells que_len que_one w1.heap.size rfl (Blk.new _ _ _) (Nat.le_refl _) A1 c1 qs rfl (HR1.out _ ()) hA (by unfold maxLen; omega) (by omega) ?_; intro g' c' wA hO' hb'; have hbA : Below w1.heap.size w1 wA := bth (bl1 _ _) hb'; have szA := hbA.size; clear hA)))
  refine (lacks_is A0 c0 rs h0 kc A1 c1 qs h1 _ HK.out _ (HRA.out _ hbA).1 (HRA.out _ hbA).2).mono ?_
  rintro e wL ⟨rfl, hbL⟩
  go_wp2
  go_ret2
  exact ⟨some ⟨g', 0, none⟩, c', rfl, (hO'.later hbL).base (by omega), bth HB (bth hbA hbL)⟩
 ·have HK : Hid (lkB rs qs = true) := lh (by simp [lkB, hp, hl])
  obtain ⟨j, q, hj, hq⟩ := lstB_some hl
  rw [dpQ_drop hp hl]
  have HJ := lh hj
  have hjl : j ≤ 1048576 := by omega
  have HE := lh (fun W h h' => arePending_is A0 c0 rs h0 kc A1 c1 qs h1 _ hp W h h'); have HF := lh (fun W h h' => lacks_is A0 c0 rs h0 kc A1 c1 qs h1 _ HK.out W h h')
  have hlt : (qs.take (qs.length - 1)).length = j := by rw [List.length_take]; omega
  have HLT := lh hlt
  have e1 : qs.length - 1 = j := by omega
  rw [e1] at HLT ⊢
  rw [hj] at HE HF ⊢
  clear hp hl hj hq hlt e1 h1
  go_in
  go_wp2_with fail
  refine (HE.out _ (R0.below bel) (R1.below bel)).mono ?_
  rintro e w1 ⟨rfl, hb1⟩
  have hq1 := be w hb1; have HB : Below w.heap.size w w1 := hq1; replace R0 := R0.below hq1; replace R1 := R1.below hq1; have hA := HNA.out; have HR1 := lh (fun e u => (R1.below (bl1 w1 (.cells #[] e))) : ∀ (e : TypeId) (u : Unit), Rds 3 Que.cells (w1.alloc (.cells #[] e)) A1 qs); have szc := HB.size; have HRA := lh (fun W hW => ⟨R0.below hW, R1.below hW⟩ : ∀ W, Below w1.heap.size w1 W → Rds 7 Rul.cells W A0 rs ∧ Rds 3 Que.cells W A1 qs)
  go_wp2_with ((first
   | (at_builtin; refine wpList_appOn rfl _ _ 25 rfl w1.heap.size 46 i0 _ 3 24 Tryz.underlying25 hi hz0 hz1 hz2 rfl (by decide) Que.cells que_len que_one w1.heap.size rfl (Blk.new _ _ _) (Nat.le_refl _) A1 c1 qs (j + 1) HJ.out.symm rfl (HR1.out _ ()) hA (by have := HJ.out; unfold maxLen; omega) (by have := HJ.out; omega) ?_; intro g' c' wA hO' hb'; have hbA : Below w1.heap.size w1 wA := bth (bl1 _ _) hb'; have szA := hbA.size; clear hA)))
  have hcp := own_capq hO' que_len
  have hcq : j + 1 ≤ c' := by have := HJ.out; omega
  clear hcp
  refine (HF.out _ (HRA.out _ hbA).1 (HRA.out _ hbA).2).mono ?_
  rintro e wL ⟨rfl, hbL⟩
  have HO := lh hO'; clear hO'
  go_wp2
  go_ret2
  refine ⟨some ⟨g', 0, none⟩, c', by simp only [oL, Option.getD_some, HLT.out]; rfl, ?_, bth HB (bth hbA hbL)⟩
  have hOt := own_take ((HO.out.later hbL).base (by omega : w.heap.size ≤ _)) que_len (k := j) (by have := HJ.out; omega)
  simp only [oL, Option.getD_some]
  rw [HLT.out]
  exact hOt
open Go.RowKit Go.G9
theorem rds_takeq {T : Type} {sz : Nat} {f : T → List Value} {w : World} {A : Option Addr} {xs : List T} (h : Rds sz f w A xs) (k : Nat) : Rds sz f w A (xs.take k) := by
 intro hn
 have hn' : 0 < xs.length := by rw [List.length_take] at hn; omega
 obtain ⟨b, off, hA, hlt, hc⟩ := h hn'
 exact ⟨b, off, hA, hlt, fun i x hx => hc i x (by rw [List.getElem?_take] at hx; split at hx; exact hx; cases hx)⟩
theorem wdQ_no1 {rs : List Rul} {qs : List Que} {mem : Int} (h : pendB rs qs = false) : wdQ rs qs mem = none := by simp [wdQ, h]
theorem wdQ_no2 {rs : List Rul} {qs : List Que} {mem : Int} (hp : pendB rs qs = true) (h : memB mem = false) : wdQ rs qs mem = none := by
 unfold wdQ
 rw [if_pos hp]
 cases hw : wdI qs mem qs.length with
 | none => rfl
 | some j =>
  obtain ⟨q, hq, hm⟩ := wdI_mem hw
  have := pendB_mover hp hq
  rw [hm, h] at this; cases this
theorem wdQ_of {rs : List Rul} {qs : List Que} {mem : Int} (hp : pendB rs qs = true) : wdQ rs qs mem = (wdI qs mem qs.length).map (fun k => qs.take k) := by unfold wdQ; rw [if_pos hp]
theorem wdI_yes {qs : List Que} {mem : Int} {j : Nat} {q : Que} (hq : qs[j]? = some q) (h : (q.mover == mem) = true) : wdI qs mem (j + 1) = some j := by simp [wdI, hq, h]
theorem wdI_no {qs : List Que} {mem : Int} {j : Nat} {q : Que} (hq : qs[j]? = some q) (h : (q.mover == mem) = false) : wdI qs mem (j + 1) = wdI qs mem j := by simp [wdI, hq, h]
theorem zb5 {p : Prop} (h : p := by
 obtain ⟨j, hjk⟩ : ∃ j, k = j + 1 := ⟨k - 1, by omega⟩
 have e1 : (k : Int) - 1 = (j : Int) := by omega
 rw [e1]
 subst hjk
 have hjq : j < qs.length := by omega
 clear e1 h0
 obtain ⟨bq, oq, ⟨qr, qm, qe⟩, rfl, hbl, hq, hcq⟩ := HR1.out.at_ hb (k := j) hjq
 have p0 := hcq 0 _ rfl; have p1 := hcq 1 _ rfl; have p2 := hcq 2 _ rfl
 simp only [Nat.add_zero] at p0
 have g0 := p0 (Kin.self _); have g1 := p1 (Kin.self _); have g2 := p2 (Kin.self _)
 simp only [Kin.self] at g0
 simp only [Kin.self] at g1
 simp only [Kin.self] at g2
 have HQ := lh hq; clear hq hcq p0 p1 p2
 cases hs : qm == mem
 ·have HN := lh (HW.out.trans (wdI_no HQ.out hs))
  go_wp2
  go_roundw
  case rel => exact ⟨j, by omega, by go_num, HN.out, hb⟩
  case measure => (simp [intOf] <;> omega)
 ·have HN := lh (HW.out.trans (wdI_yes HQ.out hs))
  have hjc : j ≤ c1 := by omega
  have hlt : (qs.take j).length = j := by rw [List.length_take]; omega
  have HLT := lh hlt; clear hlt; have HRT := lh (fun e u => ((rds_takeq (HR1.out.below hb) j).below (bl1 wr (.cells #[] e))) : ∀ (e : TypeId) (u : Unit), Rds 3 Que.cells (wr.alloc (.cells #[] e)) _ (qs.take j))
  go_wp2_with ((at_builtin; refine wpList_appOn rfl _ _ 25 rfl wr.heap.size 46 i0 _ 3 24 Tryz.underlying25 hi hz0 hz1 hz2 rfl (by decide) Que.cells que_len que_one wr.heap.size rfl (Blk.new _ _ _) (Nat.le_refl _) (some ⟨bq, oq, none⟩) c1 (qs.take j) j HLT.out.symm rfl (HRT.out _ ()) (fun h => by cases h) (by have := HLT.out; unfold maxLen; omega) (by have := HLT.out; omega) ?_; intro g' c' wA hO' hb'))
  have hbA : Below wr.heap.size wr wA := bth (bl1 _ _) hb'
  go_wp2
  go_ret2
  rw [HN.out]
  refine ⟨some ⟨g', 0, none⟩, c', by simp only [oL, Option.map_some, Option.getD_some, HLT.out]; rfl, ?_, bth HB (bth hb hbA)⟩
  have hOt := hO'.base (by omega : w.heap.size ≤ _)
  simp only [oL, Option.map_some, Option.getD_some]
  exact hOt) : p := h
theorem iWithdrawQ_is (A0 : Option Addr) (c0 : Nat) (rs : List Rul) (h0 : rs.length ≤ 1048576) (kc : rs.length ≤ c0) (A1 : Option Addr) (c1 : Nat) (qs : List Que) (h1 : qs.length ≤ 1048576) (kq : qs.length ≤ c1) (mem : Int) (w : World) (R0 : Rds 7 Rul.cells w A0 rs) (R1 : Rds 3 Que.cells w A1 qs) : Calls Tryz.prog 165 #[.slice A0 rs.length c0, .slice A1 qs.length c1, .int .i64 mem] w fun e w' => ∃ A c, e = .returned (.tuple #[.slice A (oL (wdQ rs qs mem)).length c, .bool (wdQ rs qs mem).isSome]) ∧ OwnV w.heap.size 46 3 Que.cells w' (.slice A (oL (wdQ rs qs mem)).length c) (oL (wdQ rs qs mem)) ∧ Below w.heap.size w w' := by
 obtain ⟨i0, hi, hz0, hz1, hz2⟩ := info_parts info_Que
 cases hp : pendB rs qs
 ·have HP := lh hp
  rw [wdQ_no1 hp]
  clear hp
  go_in
  go_wp2_with fail
  refine (arePending_is A0 c0 rs h0 kc A1 c1 qs h1 _ HP.out _ (R0.below bel) (R1.below bel)).mono ?_
  rintro e w1 ⟨rfl, hb1⟩
  have hq1 := be w hb1; have HB : Below w.heap.size w w1 := hq1; replace R0 := R0.below hq1; replace R1 := R1.below hq1
  go_wp2
  go_ret2
  exact ⟨none, 0, rfl, OwnV.nil, (bth HB bel)⟩
 cases hm : memB mem
 ·have HP := lh hp; have HM := lh hm
  rw [wdQ_no2 hp hm]
  clear hp hm
  go_in
  go_wp2_with fail
  refine (arePending_is A0 c0 rs h0 kc A1 c1 qs h1 _ HP.out _ (R0.below bel) (R1.below bel)).mono ?_
  rintro e w1 ⟨rfl, hb1⟩
  have hq1 := be w hb1; have HB : Below w.heap.size w w1 := hq1; replace R0 := R0.below hq1; replace R1 := R1.below hq1
  go_wp2_with fail
  refine (isMember_is mem _ HM.out _).mono ?_
  rintro e w0 ⟨rfl, h0⟩
  rw [h0]
  clear h0 w0
  go_wp2
  go_ret2
  exact ⟨none, 0, rfl, OwnV.nil, (bth HB bel)⟩
 have HP := lh hp; have HM := lh hm
 rw [wdQ_of hp]
 clear hp hm
 go_in
 go_wp2_with fail
 refine (arePending_is A0 c0 rs h0 kc A1 c1 qs h1 _ HP.out _ (R0.below bel) (R1.below bel)).mono ?_
 rintro e w1 ⟨rfl, hb1⟩
 have hq1 := be w hb1; have HB : Below w.heap.size w w1 := hq1; replace R0 := R0.below hq1; replace R1 := R1.below hq1
 go_wp2_with fail
 refine (isMember_is mem _ HM.out _).mono ?_
 rintro e w0 ⟨rfl, h0⟩
 rw [h0]
 clear h0 w0; have szc := HB.size; have HR1 := lh R1; clear R0 R1
 go_wp2
 go_loopw [8] (fun i wr => ∃ k : Nat, k ≤ qs.length ∧ i = .int .i64 ((k : Int) - 1) ∧ wdI qs mem qs.length = wdI qs mem k ∧ Below w1.heap.size w1 wr) (fun i _ => (intOf i + 1).toNat)
 case atStart => exact ⟨qs.length, Nat.le_refl _, rfl, rfl, Below.refl _ _⟩
 case round =>
  obtain ⟨k, hk, rfl, hw, hb⟩ := hrel
  have HW := lh hw; clear hw; have szb := hb.size
  by_cases h0 : 0 < k
  ·exact zb5
  ·obtain rfl : k = 0 := by omega
   have HN : Hid (wdI qs mem qs.length = none) := lh HW.out
   go_wp2
   go_ret2
   rw [HN.out]
   exact ⟨none, 0, rfl, OwnV.nil, bth HB hb⟩
end Go.Proofs.YtjimibkgocieoaaGreat
