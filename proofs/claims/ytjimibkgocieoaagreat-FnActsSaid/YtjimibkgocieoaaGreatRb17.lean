/- Texts of the proof: walks of the functions, and what they compute. -/
import Derived.Test.YtjimibkgocieoaaGreatRb13
import Derived.Test.YtjimibkgocieoaaGreatRb16
import Derived.Test.YtjimibkgocieoaaGreatRb8
import Derived.Test.YtjimibkgocieoaaGreatRb0
import Derived.Deep.Cut
import Derived.BigRegion
import Derived.Test.YtjimibkgocieoaaGreatRb15
import Derived.Test.YtjimibkgocieoaaGreatRb3
set_option maxHeartbeats 16000000
set_option maxRecDepth 100000
namespace Go.Proofs.YtjimibkgocieoaaGreat
open Go.RowKit Go.G9
theorem iAct3_is (tu se sp : Int) (A2 : Option Addr) (c2 : Nat) (ws : List Int) (A3 : Option Addr) (c3 : Nat) (sh : List Sha) (h2 : ws.length ≤ 1048576) (h3 : sh.length ≤ 1048576) (n2 : A2 = none → ws = [] ∧ c2 = 0) (n3 : A3 = none → sh = [] ∧ c3 = 0) (k2 : ws.length ≤ c2) (mem : Int) (p' : Int) (ws' : List Int) (sh' : List Sha) (hv : akB ⟨tu, se, sp, ws, sh⟩ mem = true) (he : akF ⟨tu, se, sp, ws, sh⟩ mem = ⟨tu, se, p', ws', sh'⟩) (w : World) (R2 : Rds 1 intC w A2 ws) (R3 : Rds 3 Sha.cells w A3 sh) :
 Calls Tryz.prog 168 #[.agg #[.int .i64 tu, .int .i64 se, .int .i64 sp, .slice A2 ws.length c2, .slice A3 sh.length c3], .int .i64 mem] w fun e w' => ∃ D2 d2 D3 d3, e = .returned (.tuple #[.agg #[.int .i64 tu, .int .i64 se, .int .i64 p', .slice D2 ws'.length d2, .slice D3 sh'.length d3], .bool true]) ∧ FlO w.heap.size w' D2 d2 D3 d3 ws' sh' ∧ Below w.heap.size w w' := by
 have e1 := congrArg Fl.sp he; have e3 := congrArg Fl.sh he; have e2 := congrArg Fl.ws he
 simp only [akF, nxF] at e1 e2 e3
 subst e1; subst e3; subst e2
 exact iAskT_is tu se sp A2 c2 ws A3 c3 sh h2 h3 n2 n3 k2 mem hv w R2 R3
theorem iAct4_is (tu se sp : Int) (A2 : Option Addr) (c2 : Nat) (ws : List Int) (A3 : Option Addr) (c3 : Nat) (sh : List Sha) (h2 : ws.length ≤ 1048576) (h3 : sh.length ≤ 1048576) (n2 : A2 = none → ws = [] ∧ c2 = 0) (n3 : A3 = none → sh = [] ∧ c3 = 0) (k2 : ws.length ≤ c2) (q : Int) (hq : nxM ⟨tu, se, sp, ws, sh⟩ = some q) (p' : Int) (ws' : List Int) (sh' : List Sha) (hv : nxB ⟨tu, se, sp, ws, sh⟩ = true) (he : nxF ⟨tu, se, sp, ws, sh⟩ q = ⟨tu, se, p', ws', sh'⟩) (w : World) (R2 : Rds 1 intC w A2 ws) (R3 : Rds 3 Sha.cells w A3 sh) :
 Calls Tryz.prog 169 #[.agg #[.int .i64 tu, .int .i64 se, .int .i64 sp, .slice A2 ws.length c2, .slice A3 sh.length c3]] w fun e w' => ∃ D2 d2 D3 d3, e = .returned (.tuple #[.agg #[.int .i64 tu, .int .i64 se, .int .i64 p', .slice D2 ws'.length d2, .slice D3 sh'.length d3], .int .i64 q, .bool true]) ∧ FlO w.heap.size w' D2 d2 D3 d3 ws' sh' ∧ Below w.heap.size w w' := by
 have e1 := congrArg Fl.sp he; have e3 := congrArg Fl.sh he; have e2 := congrArg Fl.ws he
 simp only [akF, nxF] at e1 e2 e3
 subst e1; subst e3; subst e2
 exact iNextT_is tu se sp A2 c2 ws A3 c3 sh h2 h3 n2 n3 k2 hv q hq w R2 R3
theorem iAct5_is (tu se sp : Int) (A2 : Option Addr) (c2 : Nat) (ws : List Int) (A3 : Option Addr) (c3 : Nat) (sh : List Sha) (h2 : ws.length ≤ 1048576) (h3 : sh.length ≤ 1048576) (n2 : A2 = none → ws = [] ∧ c2 = 0) (n3 : A3 = none → sh = [] ∧ c3 = 0) (k2 : ws.length ≤ c2) (val : Int) (p' : Int) (ws' : List Int) (sh' : List Sha) (hv : spB ⟨tu, se, sp, ws, sh⟩ val = true) (he : spF ⟨tu, se, sp, ws, sh⟩ val = ⟨tu, se, p', ws', sh'⟩) (w : World) (R2 : Rds 1 intC w A2 ws) (R3 : Rds 3 Sha.cells w A3 sh) :
 Calls Tryz.prog 170 #[.agg #[.int .i64 tu, .int .i64 se, .int .i64 sp, .slice A2 ws.length c2, .slice A3 sh.length c3], .int .i64 val] w fun e w' => ∃ D2 d2 D3 d3, e = .returned (.tuple #[.agg #[.int .i64 tu, .int .i64 se, .int .i64 p', .slice D2 ws'.length d2, .slice D3 sh'.length d3], .int .i64 (spU ⟨tu, se, sp, ws, sh⟩ val), .bool true]) ∧ FlO w.heap.size w' D2 d2 D3 d3 ws' sh' ∧ Below w.heap.size w w' := by
 have e1 : (spF ⟨tu, se, sp, ws, sh⟩ val).sp = p' := by rw [he]
 have e3 : (spF ⟨tu, se, sp, ws, sh⟩ val).sh = sh' := by rw [he]
 have e2 : ws = ws' := by
  exact zb143
 subst e1; subst e3; subst e2
 exact iSpeakT_is tu se sp A2 c2 ws A3 c3 sh h2 h3 n2 n3 k2 val hv w R2 R3
theorem iAct6_is (tu se sp : Int) (A2 : Option Addr) (c2 : Nat) (ws : List Int) (A3 : Option Addr) (c3 : Nat) (sh : List Sha) (h2 : ws.length ≤ 1048576) (h3 : sh.length ≤ 1048576) (n2 : A2 = none → ws = [] ∧ c2 = 0) (n3 : A3 = none → sh = [] ∧ c3 = 0) (k2 : ws.length ≤ c2) (p' : Int) (ws' : List Int) (sh' : List Sha) (hv : yldB ⟨tu, se, sp, ws, sh⟩ = true) (he : yldF ⟨tu, se, sp, ws, sh⟩ = ⟨tu, se, p', ws', sh'⟩) (w : World) (R2 : Rds 1 intC w A2 ws) (R3 : Rds 3 Sha.cells w A3 sh) :
 Calls Tryz.prog 171 #[.agg #[.int .i64 tu, .int .i64 se, .int .i64 sp, .slice A2 ws.length c2, .slice A3 sh.length c3]] w fun e w' => ∃ D2 d2 D3 d3, e = .returned (.tuple #[.agg #[.int .i64 tu, .int .i64 se, .int .i64 p', .slice D2 ws'.length d2, .slice D3 sh'.length d3], .bool true]) ∧ FlO w.heap.size w' D2 d2 D3 d3 ws' sh' ∧ Below w.heap.size w w' := by
 have e1 : (0 : Int) = p' := congrArg Fl.sp he
 have e3 : (yldF ⟨tu, se, sp, ws, sh⟩).sh = sh' := by rw [he]
 have e2 : ws = ws' := congrArg Fl.ws he
 subst e1; subst e3; subst e2
 exact iYieldT_is tu se sp A2 c2 ws A3 c3 sh h2 h3 n2 n3 k2 hv w R2 R3
theorem zb1 {p : Prop} (h : p := by
 rintro e w3 ⟨D2, d2, D3, d3, rfl, OO, hb3⟩
 have hq3 := be wG hb3; replace HB := bth HB hq3; replace hF := hF.to hq3; clear f'; have f' := hF.cs8; clear a'; replace hZ := hZ.to hq3; clear z'; have z' := hZ.cs8; replace hG := hG.to hq3; clear g'; have g' := hG.cs5; have O2 := OO.o2; have O3 := OO.o3; clear OO; have fhG' := hG.fz5; have neO2 := O2.nb hG; have neO3 := O3.nb hG
 go_upto_region 11 with fail
 clear f' z' g'
 refine st5 0 fun W4 tW4 => ?_
 replace HB := tW4.hc HB; replace hF := tW4.fa hF; replace hZ := tW4.fa hZ; replace hG := tW4.all5 hG; replace O2 := O2.keptS tW4 neO2; replace O3 := O3.keptS tW4 neO3; have f' := hF.cs8; have z' := hZ.cs8; have g' := hG.cs5; clear neO2 neO3 fhG'; have hg1 := hG.lt
 go_wp2_with fail
 refine (isDebatable_is rs qs tu se sp ws sh os A0 A1 A2 A3 A4 c0 c1 c2 c3 c4 HZ.out.h0 HZ.out.h1 HZ.out.h2 HZ.out.h3 HZ.out.h4 HP.out true HD.out _ (HR.out.r0.below (bth HB bel)) (HR.out.r1.below (bth HB bel)) (HR.out.r2.below (bth HB bel)) (HR.out.r3.below (bth HB bel)) (HR.out.r4.below (bth HB bel))).mono ?_
 rintro e w4 ⟨rfl, hb4⟩
 have hq4 := be W4 hb4; replace HB := bth HB hq4; replace O2 := O2.later hq4; replace O3 := O3.later hq4; replace hF := hF.to hq4; clear f'; have f' := hF.cs8; replace hZ := hZ.to hq4; clear z'; have z' := hZ.cs8; replace hG := hG.to hq4; clear g'; have g' := hG.cs5; have sz4 := hq4.size
 go_wp2_with fail
 refine (newMee_is A0 A1 A2 A3 A4 c0 c1 c2 c3 c4 rs qs tu se sp ws sh os HZ.out _ (HR.out.below (bth HB bel))).mono ?_
 rintro e w5 ⟨E0, e0, E1, e1, E2, e2, E3, e3, E4, e4, rfl, OO, hb5⟩
 have hq5 := be w4 hb5; replace HB := bth HB hq5; replace O2 := O2.later hq5; replace O3 := O3.later hq5; clear f'; replace hZ := hZ.to hq5; clear z'; have z' := hZ.cs8; replace hG := hG.to hq5; clear g'; have g' := hG.cs5; have sz5 := hq5.size; have szh2 := HB.size
 go_upto_region 14 with fail
 have OP := OO.later (bl1 w5 (.cells #[.slice E0 rs.length e0, .slice E1 qs.length e1, .int .i64 tu, .int .i64 se, .int .i64 sp, .slice E2 ws.length e2, .slice E3 sh.length e3, .slice E4 os.length e4] 32)); have hq6 : Below w5.heap.size w5 (World.alloc w5 (.cells #[.slice E0 rs.length e0, .slice E1 qs.length e1, .int .i64 tu, .int .i64 se, .int .i64 sp, .slice E2 ws.length e2, .slice E3 sh.length e3, .slice E4 os.length e4] 32)) := bl1 w5 _
 have hX : Blk (World.alloc w5 (.cells #[.slice E0 rs.length e0, .slice E1 qs.length e1, .int .i64 tu, .int .i64 se, .int .i64 sp, .slice E2 ws.length e2, .slice E3 sh.length e3, .slice E4 os.length e4] 32)) (w5.heap.size) 32 #[.slice E0 rs.length e0, .slice E1 qs.length e1, .int .i64 tu, .int .i64 se, .int .i64 sp, .slice E2 ws.length e2, .slice E3 sh.length e3, .slice E4 os.length e4] := by repeat (first | exact Blk.new _ _ _ | exact Blk.new2 _ _ _ _ | exact Blk.new3 _ _ _ _ _ | exact Blk.new4 _ _ _ _ _ _ | refine Blk.alloc ?_ _)
 replace O2 := O2.later hq6; replace O3 := O3.later hq6
 generalize World.alloc w5 (.cells #[.slice E0 rs.length e0, .slice E1 qs.length e1, .int .i64 tu, .int .i64 se, .int .i64 sp, .slice E2 ws.length e2, .slice E3 sh.length e3, .slice E4 os.length e4] 32) = wM at *
 replace HB := bth HB hq6; have x' := hX.cs8; clear z'; replace hZ := hZ.to hq6; have z' := hZ.cs8; clear g'; replace hG := hG.to hq6; have g' := hG.cs5; have O0 := OP.o0; have O1 := OP.o1; have O4 := OP.o4; clear OP; have fhX2 := hX.frozen 2; have fhX3 := hX.frozen 3; have fhX4 := hX.frozen 4; have fhX5 := hX.frozen 5; have fhX6 := hX.frozen 6; have neO0 := O0.nb hX; have neO1 := O1.nb hX; have neO2 := O2.nb hX
 have neO3 := O3.nb hX; have neO4 := O4.nb hX
 go_upto_region 15 with fail
 clear z' g' x'
 refine st5 2 fun W6 tW6 => ?_
 replace HB := tW6.hc HB; replace hZ := tW6.fa hZ; replace hX : Blk W6 (w5.heap.size) 32 #[.slice E0 rs.length e0, .slice E1 qs.length e1, .int .i64 tu, .int .i64 se, .int .i64 p', .slice D2 ws'.length d2, .slice D3 sh'.length d3, .slice E4 os.length e4] := tW6.own hX; replace O2 := O2.keptS tW6 neO2; replace O3 := O3.keptS tW6 neO3; replace O0 := O0.keptS tW6 neO0; replace O1 := O1.keptS tW6 neO1
 replace O4 := O4.keptS tW6 neO4; have z' := hZ.cs8; have x' := hX.cs8; clear neO0 neO1 neO2 neO3 neO4 fhX2 fhX3 fhX4 fhX5 fhX6; have neO0 := O0.nb hZ; have neO1 := O1.nb hZ; have neO2 := O2.nb hZ; have neO3 := O3.nb hZ; have neO4 := O4.nb hZ; have fhZ' := hZ.fz8
 go_wp2
 clear z' x'
 refine st8 0 fun W9 tW9 => ?_
 replace HB := tW9.hc HB; replace hZ := tW9.all8 hZ; replace O2 := O2.keptS tW9 neO2; replace O3 := O3.keptS tW9 neO3; replace O0 := O0.keptS tW9 neO0; replace O1 := O1.keptS tW9 neO1; replace O4 := O4.keptS tW9 neO4; have z' := hZ.cs8
 exact brt ⟨E0, e0, E1, e1, D2, d2, D3, d3, E4, e4, rfl, ⟨O0.base (by omega), O1.base (by omega), O2.base (by omega), O3.base (by omega), O4.base (by omega)⟩, HB⟩ (by simp [results, Tryz.results107, go_sem, z'])) : p := h
theorem iFlo3T_is (A0 A1 A2 A3 A4 : Option Addr) (c0 c1 c2 c3 c4 : Nat) (rs : List Rul) (qs : List Que) (tu se sp : Int) (ws : List Int) (sh : List Sha) (os : List Out) (Z : MeeIn A0 A1 A2 A3 A4 c0 c1 c2 c3 c4 rs qs ws sh os) (mem val yes no abst : Int) (p' : Int) (ws' : List Int) (sh' : List Sha) (hv : akB ⟨tu, se, sp, ws, sh⟩ mem = true) (he : akF ⟨tu, se, sp, ws, sh⟩ mem = ⟨tu, se, p', ws', sh'⟩) (hp : pendB rs qs = true) (hd : debB rs qs = true) (w : World) (R : MeR w A0 A1 A2 A3 A4 rs qs ws sh os) :
 Calls Tryz.prog 107 #[.agg #[.slice A0 rs.length c0, .slice A1 qs.length c1, .int .i64 tu, .int .i64 se, .int .i64 sp, .slice A2 ws.length c2, .slice A3 sh.length c3, .slice A4 os.length c4], .agg #[.int .i64 3, .int .i64 mem, .int .i64 val, .int .i64 yes, .int .i64 no, .int .i64 abst]] w fun e w' => ∃ E0 e0 E1 e1 D2 d2 D3 d3 E4 e4, e = .returned (.tuple #[.agg #[.slice E0 rs.length e0, .slice E1 qs.length e1, .int .i64 tu, .int .i64 se, .int .i64 p', .slice D2 ws'.length d2, .slice D3 sh'.length d3, .slice E4 os.length e4], .bool true]) ∧ MeO w.heap.size w' E0 e0 E1 e1 D2 d2 D3 d3 E4 e4 rs qs ws' sh' os ∧ Below w.heap.size w w' := by
 have HR := lh R; have HZ := lh Z; have HP := lh hp; have HD := lh hd; have HV := lh hv; have HE := lh he; clear R Z hp hd hv he
 go_in
 go_upto_region 1 with fail
 refine lay3 fun wX hq1 hF hA hZ => ?_
 have HB := hq1; have f' := hF.cs8; have a' := hA.cs6; have z' := hZ.cs8; have hz0' := hZ.lt
 go_upto_region 2 with fail
 refine lay1 fun wG hq2 hG => ?_
 replace HB := bth HB hq2; have g' := hG.cs5; clear f'; replace hF := hF.to hq2; have f' := hF.cs8; clear a'; replace hA := hA.to hq2; have a' := hA.cs6; clear z'; replace hZ := hZ.to hq2; have z' := hZ.cs8; have hg0 := hG.lt
 go_wp2_with fail
 refine (iAct3_is tu se sp A2 c2 ws A3 c3 sh HZ.out.h2 HZ.out.h3 HZ.out.n2 HZ.out.n3 HZ.out.k2 mem p' ws' sh' HV.out HE.out _ (HR.out.r2.below (bth HB bel)) (HR.out.r3.below (bth HB bel))).mono ?_
 exact zb1
theorem iFlo4T_is (A0 A1 A2 A3 A4 : Option Addr) (c0 c1 c2 c3 c4 : Nat) (rs : List Rul) (qs : List Que) (tu se sp : Int) (ws : List Int) (sh : List Sha) (os : List Out) (Z : MeeIn A0 A1 A2 A3 A4 c0 c1 c2 c3 c4 rs qs ws sh os) (mem val yes no abst : Int) (q : Int) (hq : nxM ⟨tu, se, sp, ws, sh⟩ = some q) (p' : Int) (ws' : List Int) (sh' : List Sha) (hv : nxB ⟨tu, se, sp, ws, sh⟩ = true) (he : nxF ⟨tu, se, sp, ws, sh⟩ q = ⟨tu, se, p', ws', sh'⟩) (hp : pendB rs qs = true) (hd : debB rs qs = true) (w : World) (R : MeR w A0 A1 A2 A3 A4 rs qs ws sh os) :
 Calls Tryz.prog 107 #[.agg #[.slice A0 rs.length c0, .slice A1 qs.length c1, .int .i64 tu, .int .i64 se, .int .i64 sp, .slice A2 ws.length c2, .slice A3 sh.length c3, .slice A4 os.length c4], .agg #[.int .i64 4, .int .i64 mem, .int .i64 val, .int .i64 yes, .int .i64 no, .int .i64 abst]] w fun e w' => ∃ E0 e0 E1 e1 D2 d2 D3 d3 E4 e4, e = .returned (.tuple #[.agg #[.slice E0 rs.length e0, .slice E1 qs.length e1, .int .i64 tu, .int .i64 se, .int .i64 p', .slice D2 ws'.length d2, .slice D3 sh'.length d3, .slice E4 os.length e4], .bool true]) ∧ MeO w.heap.size w' E0 e0 E1 e1 D2 d2 D3 d3 E4 e4 rs qs ws' sh' os ∧ Below w.heap.size w w' := by
 have HR := lh R; have HZ := lh Z; have HP := lh hp; have HD := lh hd; have HV := lh hv; have HE := lh he; have HQ := lh hq; clear R Z hp hd hv he hq
 go_in
 go_upto_region 1 with fail
 refine lay3 fun wX hq1 hF hA hZ => ?_
 have HB := hq1; have f' := hF.cs8; have a' := hA.cs6; have z' := hZ.cs8; have hz0' := hZ.lt
 go_upto_region 2 with fail
 refine lay1 fun wG hq2 hG => ?_
 replace HB := bth HB hq2; have g' := hG.cs5; clear f'; replace hF := hF.to hq2; have f' := hF.cs8; clear a'; replace hA := hA.to hq2; have a' := hA.cs6; clear z'; replace hZ := hZ.to hq2; have z' := hZ.cs8; have hg0 := hG.lt
 go_wp2_with fail
 refine (iAct4_is tu se sp A2 c2 ws A3 c3 sh HZ.out.h2 HZ.out.h3 HZ.out.n2 HZ.out.n3 HZ.out.k2 q HQ.out p' ws' sh' HV.out HE.out _ (HR.out.r2.below (bth HB bel)) (HR.out.r3.below (bth HB bel))).mono ?_
 exact zb1
theorem iFlo5T_is (A0 A1 A2 A3 A4 : Option Addr) (c0 c1 c2 c3 c4 : Nat) (rs : List Rul) (qs : List Que) (tu se sp : Int) (ws : List Int) (sh : List Sha) (os : List Out) (Z : MeeIn A0 A1 A2 A3 A4 c0 c1 c2 c3 c4 rs qs ws sh os) (mem val yes no abst : Int) (p' : Int) (ws' : List Int) (sh' : List Sha) (hv : spB ⟨tu, se, sp, ws, sh⟩ val = true) (he : spF ⟨tu, se, sp, ws, sh⟩ val = ⟨tu, se, p', ws', sh'⟩) (hp : pendB rs qs = true) (hd : debB rs qs = true) (w : World) (R : MeR w A0 A1 A2 A3 A4 rs qs ws sh os) :
 Calls Tryz.prog 107 #[.agg #[.slice A0 rs.length c0, .slice A1 qs.length c1, .int .i64 tu, .int .i64 se, .int .i64 sp, .slice A2 ws.length c2, .slice A3 sh.length c3, .slice A4 os.length c4], .agg #[.int .i64 5, .int .i64 mem, .int .i64 val, .int .i64 yes, .int .i64 no, .int .i64 abst]] w fun e w' => ∃ E0 e0 E1 e1 D2 d2 D3 d3 E4 e4, e = .returned (.tuple #[.agg #[.slice E0 rs.length e0, .slice E1 qs.length e1, .int .i64 tu, .int .i64 se, .int .i64 p', .slice D2 ws'.length d2, .slice D3 sh'.length d3, .slice E4 os.length e4], .bool true]) ∧ MeO w.heap.size w' E0 e0 E1 e1 D2 d2 D3 d3 E4 e4 rs qs ws' sh' os ∧ Below w.heap.size w w' := by
 have HR := lh R; have HZ := lh Z; have HP := lh hp; have HD := lh hd; have HV := lh hv; have HE := lh he; clear R Z hp hd hv he
 go_in
 go_upto_region 1 with fail
 refine lay3 fun wX hq1 hF hA hZ => ?_
 have HB := hq1; have f' := hF.cs8; have a' := hA.cs6; have z' := hZ.cs8; have hz0' := hZ.lt
 go_upto_region 2 with fail
 refine lay1 fun wG hq2 hG => ?_
 replace HB := bth HB hq2; have g' := hG.cs5; clear f'; replace hF := hF.to hq2; have f' := hF.cs8; clear a'; replace hA := hA.to hq2; have a' := hA.cs6; clear z'; replace hZ := hZ.to hq2; have z' := hZ.cs8; have hg0 := hG.lt
 go_wp2_with fail
 refine (iAct5_is tu se sp A2 c2 ws A3 c3 sh HZ.out.h2 HZ.out.h3 HZ.out.n2 HZ.out.n3 HZ.out.k2 val p' ws' sh' HV.out HE.out _ (HR.out.r2.below (bth HB bel)) (HR.out.r3.below (bth HB bel))).mono ?_
 exact zb1
theorem iFlo6T_is (A0 A1 A2 A3 A4 : Option Addr) (c0 c1 c2 c3 c4 : Nat) (rs : List Rul) (qs : List Que) (tu se sp : Int) (ws : List Int) (sh : List Sha) (os : List Out) (Z : MeeIn A0 A1 A2 A3 A4 c0 c1 c2 c3 c4 rs qs ws sh os) (mem val yes no abst : Int) (p' : Int) (ws' : List Int) (sh' : List Sha) (hv : yldB ⟨tu, se, sp, ws, sh⟩ = true) (he : yldF ⟨tu, se, sp, ws, sh⟩ = ⟨tu, se, p', ws', sh'⟩) (hp : pendB rs qs = true) (hd : debB rs qs = true) (w : World) (R : MeR w A0 A1 A2 A3 A4 rs qs ws sh os) :
 Calls Tryz.prog 107 #[.agg #[.slice A0 rs.length c0, .slice A1 qs.length c1, .int .i64 tu, .int .i64 se, .int .i64 sp, .slice A2 ws.length c2, .slice A3 sh.length c3, .slice A4 os.length c4], .agg #[.int .i64 6, .int .i64 mem, .int .i64 val, .int .i64 yes, .int .i64 no, .int .i64 abst]] w fun e w' => ∃ E0 e0 E1 e1 D2 d2 D3 d3 E4 e4, e = .returned (.tuple #[.agg #[.slice E0 rs.length e0, .slice E1 qs.length e1, .int .i64 tu, .int .i64 se, .int .i64 p', .slice D2 ws'.length d2, .slice D3 sh'.length d3, .slice E4 os.length e4], .bool true]) ∧ MeO w.heap.size w' E0 e0 E1 e1 D2 d2 D3 d3 E4 e4 rs qs ws' sh' os ∧ Below w.heap.size w w' := by
 have HR := lh R; have HZ := lh Z; have HP := lh hp; have HD := lh hd; have HV := lh hv; have HE := lh he; clear R Z hp hd hv he
 go_in
 go_upto_region 1 with fail
 refine lay3 fun wX hq1 hF hA hZ => ?_
 have HB := hq1; have f' := hF.cs8; have a' := hA.cs6; have z' := hZ.cs8; have hz0' := hZ.lt
 go_upto_region 2 with fail
 refine lay1 fun wG hq2 hG => ?_
 replace HB := bth HB hq2; have g' := hG.cs5; clear f'; replace hF := hF.to hq2; have f' := hF.cs8; clear a'; replace hA := hA.to hq2; have a' := hA.cs6; clear z'; replace hZ := hZ.to hq2; have z' := hZ.cs8; have hg0 := hG.lt
 go_wp2_with fail
 refine (iAct6_is tu se sp A2 c2 ws A3 c3 sh HZ.out.h2 HZ.out.h3 HZ.out.n2 HZ.out.n3 HZ.out.k2 p' ws' sh' HV.out HE.out _ (HR.out.r2.below (bth HB bel)) (HR.out.r3.below (bth HB bel))).mono ?_
 exact zb1
theorem zb28 {p : Prop} (h : p := by
 rintro e w3 ⟨rfl, hb3⟩
 have hq3 := be wG hb3; replace HB := bth HB hq3; clear f'; clear a'; replace hZ := hZ.to hq3; clear z'; have z' := hZ.cs8; replace hG := hG.to hq3; clear g'; have g' := hG.cs5; have fhG' := hG.fz5
 go_upto_region 11 with fail
 clear z' g'
 refine st5 0 fun W4 tW4 => ?_
 replace HB := tW4.hc HB; replace hZ := tW4.fa hZ; have z' := hZ.cs8; clear fhG'; have fhZ' := hZ.fz8
 go_wp2
 clear z'
 refine st8 0 fun W9 tW9 => ?_
 replace HB := tW9.hc HB; replace hZ := tW9.all8 hZ; have z' := hZ.cs8
 exact brt ⟨rfl, HB⟩ (by simp [results, Tryz.results107, go_sem, z'])) : p := h
theorem iFlo3F_is (A0 A1 A2 A3 A4 : Option Addr) (c0 c1 c2 c3 c4 : Nat) (rs : List Rul) (qs : List Que) (tu se sp : Int) (ws : List Int) (sh : List Sha) (os : List Out) (Z : MeeIn A0 A1 A2 A3 A4 c0 c1 c2 c3 c4 rs qs ws sh os) (mem val yes no abst : Int) (hv : akB ⟨tu, se, sp, ws, sh⟩ mem = false) (hp : pendB rs qs = true) (w : World) (R : MeR w A0 A1 A2 A3 A4 rs qs ws sh os) :
 Calls Tryz.prog 107 #[.agg #[.slice A0 rs.length c0, .slice A1 qs.length c1, .int .i64 tu, .int .i64 se, .int .i64 sp, .slice A2 ws.length c2, .slice A3 sh.length c3, .slice A4 os.length c4], .agg #[.int .i64 3, .int .i64 mem, .int .i64 val, .int .i64 yes, .int .i64 no, .int .i64 abst]] w fun e w' => e = .returned (.tuple #[.agg #[.slice none 0 0, .slice none 0 0, .int .i64 0, .int .i64 0, .int .i64 0, .slice none 0 0, .slice none 0 0, .slice none 0 0], .bool false]) ∧ Below w.heap.size w w' := by
 have HR := lh R; have HZ := lh Z; clear R Z hp; have HV := lh hv; clear hv
 go_in
 go_upto_region 1 with fail
 refine lay3 fun wX hq1 hF hA hZ => ?_
 have HB := hq1; have f' := hF.cs8; have a' := hA.cs6; have z' := hZ.cs8; have hz0' := hZ.lt
 go_upto_region 2 with fail
 refine lay1 fun wG hq2 hG => ?_
 replace HB := bth HB hq2; have g' := hG.cs5; clear f'; replace hF := hF.to hq2; have f' := hF.cs8; clear a'; replace hA := hA.to hq2; have a' := hA.cs6; clear z'; replace hZ := hZ.to hq2; have z' := hZ.cs8
 go_wp2_with fail
 refine (iAskF_is tu se sp A2 c2 ws A3 c3 sh HZ.out.h2 HZ.out.h3 HZ.out.n2 HZ.out.n3 HZ.out.k2 mem HV.out _ (HR.out.r2.below (bth HB bel)) (HR.out.r3.below (bth HB bel))).mono ?_
 exact zb28
theorem zb77 {p : Prop} (h : p := by
 have e1 := congrArg Fl.tu he; have e2 := congrArg Fl.se he
 simp only [akF, nxF, yldF] at e1 e2
 first | exact ⟨e1, e2⟩ | (unfold spF at e1 e2; split at e1 <;> rename_i hc <;> (first | rw [if_pos hc] at e2 | rw [if_neg hc] at e2) <;> exact ⟨e1, e2⟩)) : p := h
theorem zb16 {p : Prop} (h : p := by
 rintro e w3 ⟨D2, d2, D3, d3, rfl, OO, hb3⟩
 have hq3 := be wG hb3; replace HB := bth HB hq3; replace hF := hF.to hq3; clear f'; have f' := hF.cs8; clear a'; replace hZ := hZ.to hq3; clear z'; have z' := hZ.cs8; replace hG := hG.to hq3; clear g'; have g' := hG.cs5; clear OO; have fhG' := hG.fz5
 go_upto_region 11 with fail
 clear f' z' g'
 refine st5 0 fun W4 tW4 => ?_
 replace HB := tW4.hc HB; replace hF := tW4.fa hF; replace hZ := tW4.fa hZ; have f' := hF.cs8; have z' := hZ.cs8; clear fhG'
 go_wp2_with fail
 refine (isDebatable_is rs qs tu se sp ws sh os A0 A1 A2 A3 A4 c0 c1 c2 c3 c4 HZ.out.h0 HZ.out.h1 HZ.out.h2 HZ.out.h3 HZ.out.h4 HP.out false HD.out _ (HR.out.r0.below (bth HB bel)) (HR.out.r1.below (bth HB bel)) (HR.out.r2.below (bth HB bel)) (HR.out.r3.below (bth HB bel)) (HR.out.r4.below (bth HB bel))).mono ?_
 rintro e w4 ⟨rfl, hb4⟩
 have hq4 := be W4 hb4; replace HB := bth HB hq4; clear f'; replace hZ := hZ.to hq4; clear z'; have z' := hZ.cs8; have fhZ' := hZ.fz8
 go_wp2
 clear z'
 refine st8 0 fun W9 tW9 => ?_
 replace HB := tW9.hc HB; replace hZ := tW9.all8 hZ; have z' := hZ.cs8
 exact brt ⟨rfl, HB⟩ (by simp [results, Tryz.results107, go_sem, z'])) : p := h
theorem iFlo3D_is (A0 A1 A2 A3 A4 : Option Addr) (c0 c1 c2 c3 c4 : Nat) (rs : List Rul) (qs : List Que) (tu se sp : Int) (ws : List Int) (sh : List Sha) (os : List Out) (Z : MeeIn A0 A1 A2 A3 A4 c0 c1 c2 c3 c4 rs qs ws sh os) (mem val yes no abst : Int) (hv : akB ⟨tu, se, sp, ws, sh⟩ mem = true) (hd : debB rs qs = false) (hp : pendB rs qs = true) (w : World) (R : MeR w A0 A1 A2 A3 A4 rs qs ws sh os) :
 Calls Tryz.prog 107 #[.agg #[.slice A0 rs.length c0, .slice A1 qs.length c1, .int .i64 tu, .int .i64 se, .int .i64 sp, .slice A2 ws.length c2, .slice A3 sh.length c3, .slice A4 os.length c4], .agg #[.int .i64 3, .int .i64 mem, .int .i64 val, .int .i64 yes, .int .i64 no, .int .i64 abst]] w fun e w' => e = .returned (.tuple #[.agg #[.slice none 0 0, .slice none 0 0, .int .i64 0, .int .i64 0, .int .i64 0, .slice none 0 0, .slice none 0 0, .slice none 0 0], .bool false]) ∧ Below w.heap.size w w' := by
 have HR := lh R; have HZ := lh Z; have HP := lh hp; clear R Z hp; have HV := lh hv; clear hv; have HD := lh hd; clear hd
 obtain ⟨⟨t', s', p', ws', sh'⟩, he⟩ : ∃ f, akF ⟨tu, se, sp, ws, sh⟩ mem = f := ⟨_, rfl⟩
 obtain ⟨rfl, rfl⟩ : tu = t' ∧ se = s' := by
  exact zb77
 have HE := lh he; clear he
 go_in
 go_upto_region 1 with fail
 refine lay3 fun wX hq1 hF hA hZ => ?_
 have HB := hq1; have f' := hF.cs8; have a' := hA.cs6; have z' := hZ.cs8; have hz0' := hZ.lt
 go_upto_region 2 with fail
 refine lay1 fun wG hq2 hG => ?_
 replace HB := bth HB hq2; have g' := hG.cs5; clear f'; replace hF := hF.to hq2; have f' := hF.cs8; clear a'; replace hA := hA.to hq2; have a' := hA.cs6; clear z'; replace hZ := hZ.to hq2; have z' := hZ.cs8
 go_wp2_with fail
 refine (iAct3_is tu se sp A2 c2 ws A3 c3 sh HZ.out.h2 HZ.out.h3 HZ.out.n2 HZ.out.n3 HZ.out.k2 mem p' ws' sh' HV.out HE.out _ (HR.out.r2.below (bth HB bel)) (HR.out.r3.below (bth HB bel))).mono ?_
 exact zb16
theorem iFlo4F_is (A0 A1 A2 A3 A4 : Option Addr) (c0 c1 c2 c3 c4 : Nat) (rs : List Rul) (qs : List Que) (tu se sp : Int) (ws : List Int) (sh : List Sha) (os : List Out) (Z : MeeIn A0 A1 A2 A3 A4 c0 c1 c2 c3 c4 rs qs ws sh os) (mem val yes no abst : Int) (hv : nxB ⟨tu, se, sp, ws, sh⟩ = false) (hp : pendB rs qs = true) (w : World) (R : MeR w A0 A1 A2 A3 A4 rs qs ws sh os) :
 Calls Tryz.prog 107 #[.agg #[.slice A0 rs.length c0, .slice A1 qs.length c1, .int .i64 tu, .int .i64 se, .int .i64 sp, .slice A2 ws.length c2, .slice A3 sh.length c3, .slice A4 os.length c4], .agg #[.int .i64 4, .int .i64 mem, .int .i64 val, .int .i64 yes, .int .i64 no, .int .i64 abst]] w fun e w' => e = .returned (.tuple #[.agg #[.slice none 0 0, .slice none 0 0, .int .i64 0, .int .i64 0, .int .i64 0, .slice none 0 0, .slice none 0 0, .slice none 0 0], .bool false]) ∧ Below w.heap.size w w' := by
 have HR := lh R; have HZ := lh Z; clear R Z hp; have HV := lh hv; clear hv
 go_in
 go_upto_region 1 with fail
 refine lay3 fun wX hq1 hF hA hZ => ?_
 have HB := hq1; have f' := hF.cs8; have a' := hA.cs6; have z' := hZ.cs8; have hz0' := hZ.lt
 go_upto_region 2 with fail
 refine lay1 fun wG hq2 hG => ?_
 replace HB := bth HB hq2; have g' := hG.cs5; clear f'; replace hF := hF.to hq2; have f' := hF.cs8; clear a'; replace hA := hA.to hq2; have a' := hA.cs6; clear z'; replace hZ := hZ.to hq2; have z' := hZ.cs8
 go_wp2_with fail
 refine (iNextF_is tu se sp A2 c2 ws A3 c3 sh HZ.out.h2 HZ.out.h3 HZ.out.n2 HZ.out.n3 HZ.out.k2 HV.out _ (HR.out.r2.below (bth HB bel)) (HR.out.r3.below (bth HB bel))).mono ?_
 exact zb28
theorem iFlo4D_is (A0 A1 A2 A3 A4 : Option Addr) (c0 c1 c2 c3 c4 : Nat) (rs : List Rul) (qs : List Que) (tu se sp : Int) (ws : List Int) (sh : List Sha) (os : List Out) (Z : MeeIn A0 A1 A2 A3 A4 c0 c1 c2 c3 c4 rs qs ws sh os) (mem val yes no abst : Int) (hv : nxB ⟨tu, se, sp, ws, sh⟩ = true) (hd : debB rs qs = false) (hp : pendB rs qs = true) (w : World) (R : MeR w A0 A1 A2 A3 A4 rs qs ws sh os) :
 Calls Tryz.prog 107 #[.agg #[.slice A0 rs.length c0, .slice A1 qs.length c1, .int .i64 tu, .int .i64 se, .int .i64 sp, .slice A2 ws.length c2, .slice A3 sh.length c3, .slice A4 os.length c4], .agg #[.int .i64 4, .int .i64 mem, .int .i64 val, .int .i64 yes, .int .i64 no, .int .i64 abst]] w fun e w' => e = .returned (.tuple #[.agg #[.slice none 0 0, .slice none 0 0, .int .i64 0, .int .i64 0, .int .i64 0, .slice none 0 0, .slice none 0 0, .slice none 0 0], .bool false]) ∧ Below w.heap.size w w' := by
 have HR := lh R; have HZ := lh Z; have HP := lh hp; clear R Z hp; have HV := lh hv; clear hv; have HD := lh hd; clear hd
 obtain ⟨q, hq, _⟩ := nxM_some (f := ⟨tu, se, sp, ws, sh⟩) (by have := HV.out; simp only [nxB, Bool.and_eq_true, decide_eq_true_eq] at this; exact this.2.2)
 have HQ := lh hq; clear hq
 obtain ⟨ws', he⟩ : ∃ ws', (nxF ⟨tu, se, sp, ws, sh⟩ q) = ⟨tu, se, q, ws', sh⟩ := ⟨_, rfl⟩
 have HE := lh he; clear he
 go_in
 go_upto_region 1 with fail
 refine lay3 fun wX hq1 hF hA hZ => ?_
 have HB := hq1; have f' := hF.cs8; have a' := hA.cs6; have z' := hZ.cs8; have hz0' := hZ.lt
 go_upto_region 2 with fail
 refine lay1 fun wG hq2 hG => ?_
 replace HB := bth HB hq2; have g' := hG.cs5; clear f'; replace hF := hF.to hq2; have f' := hF.cs8; clear a'; replace hA := hA.to hq2; have a' := hA.cs6; clear z'; replace hZ := hZ.to hq2; have z' := hZ.cs8
 go_wp2_with fail
 refine (iAct4_is tu se sp A2 c2 ws A3 c3 sh HZ.out.h2 HZ.out.h3 HZ.out.n2 HZ.out.n3 HZ.out.k2 q HQ.out q ws' sh HV.out HE.out _ (HR.out.r2.below (bth HB bel)) (HR.out.r3.below (bth HB bel))).mono ?_
 exact zb16
theorem iFlo5F_is (A0 A1 A2 A3 A4 : Option Addr) (c0 c1 c2 c3 c4 : Nat) (rs : List Rul) (qs : List Que) (tu se sp : Int) (ws : List Int) (sh : List Sha) (os : List Out) (Z : MeeIn A0 A1 A2 A3 A4 c0 c1 c2 c3 c4 rs qs ws sh os) (mem val yes no abst : Int) (hv : spB ⟨tu, se, sp, ws, sh⟩ val = false) (hp : pendB rs qs = true) (w : World) (R : MeR w A0 A1 A2 A3 A4 rs qs ws sh os) :
 Calls Tryz.prog 107 #[.agg #[.slice A0 rs.length c0, .slice A1 qs.length c1, .int .i64 tu, .int .i64 se, .int .i64 sp, .slice A2 ws.length c2, .slice A3 sh.length c3, .slice A4 os.length c4], .agg #[.int .i64 5, .int .i64 mem, .int .i64 val, .int .i64 yes, .int .i64 no, .int .i64 abst]] w fun e w' => e = .returned (.tuple #[.agg #[.slice none 0 0, .slice none 0 0, .int .i64 0, .int .i64 0, .int .i64 0, .slice none 0 0, .slice none 0 0, .slice none 0 0], .bool false]) ∧ Below w.heap.size w w' := by
 have HR := lh R; have HZ := lh Z; clear R Z hp; have HV := lh hv; clear hv
 go_in
 go_upto_region 1 with fail
 refine lay3 fun wX hq1 hF hA hZ => ?_
 have HB := hq1; have f' := hF.cs8; have a' := hA.cs6; have z' := hZ.cs8; have hz0' := hZ.lt
 go_upto_region 2 with fail
 refine lay1 fun wG hq2 hG => ?_
 replace HB := bth HB hq2; have g' := hG.cs5; clear f'; replace hF := hF.to hq2; have f' := hF.cs8; clear a'; replace hA := hA.to hq2; have a' := hA.cs6; clear z'; replace hZ := hZ.to hq2; have z' := hZ.cs8
 go_wp2_with fail
 refine (iSpeakF_is tu se sp A2 c2 ws A3 c3 sh HZ.out.h2 HZ.out.h3 HZ.out.n2 HZ.out.n3 HZ.out.k2 val HV.out _ (HR.out.r2.below (bth HB bel)) (HR.out.r3.below (bth HB bel))).mono ?_
 exact zb28
theorem iFlo5D_is (A0 A1 A2 A3 A4 : Option Addr) (c0 c1 c2 c3 c4 : Nat) (rs : List Rul) (qs : List Que) (tu se sp : Int) (ws : List Int) (sh : List Sha) (os : List Out) (Z : MeeIn A0 A1 A2 A3 A4 c0 c1 c2 c3 c4 rs qs ws sh os) (mem val yes no abst : Int) (hv : spB ⟨tu, se, sp, ws, sh⟩ val = true) (hd : debB rs qs = false) (hp : pendB rs qs = true) (w : World) (R : MeR w A0 A1 A2 A3 A4 rs qs ws sh os) :
 Calls Tryz.prog 107 #[.agg #[.slice A0 rs.length c0, .slice A1 qs.length c1, .int .i64 tu, .int .i64 se, .int .i64 sp, .slice A2 ws.length c2, .slice A3 sh.length c3, .slice A4 os.length c4], .agg #[.int .i64 5, .int .i64 mem, .int .i64 val, .int .i64 yes, .int .i64 no, .int .i64 abst]] w fun e w' => e = .returned (.tuple #[.agg #[.slice none 0 0, .slice none 0 0, .int .i64 0, .int .i64 0, .int .i64 0, .slice none 0 0, .slice none 0 0, .slice none 0 0], .bool false]) ∧ Below w.heap.size w w' := by
 have HR := lh R; have HZ := lh Z; have HP := lh hp; clear R Z hp; have HV := lh hv; clear hv; have HD := lh hd; clear hd
 obtain ⟨⟨t', s', p', ws', sh'⟩, he⟩ : ∃ f, spF ⟨tu, se, sp, ws, sh⟩ val = f := ⟨_, rfl⟩
 obtain ⟨rfl, rfl⟩ : tu = t' ∧ se = s' := by
  exact zb77
 have HE := lh he; clear he
 go_in
 go_upto_region 1 with fail
 refine lay3 fun wX hq1 hF hA hZ => ?_
 have HB := hq1; have f' := hF.cs8; have a' := hA.cs6; have z' := hZ.cs8; have hz0' := hZ.lt
 go_upto_region 2 with fail
 refine lay1 fun wG hq2 hG => ?_
 replace HB := bth HB hq2; have g' := hG.cs5; clear f'; replace hF := hF.to hq2; have f' := hF.cs8; clear a'; replace hA := hA.to hq2; have a' := hA.cs6; clear z'; replace hZ := hZ.to hq2; have z' := hZ.cs8
 go_wp2_with fail
 refine (iAct5_is tu se sp A2 c2 ws A3 c3 sh HZ.out.h2 HZ.out.h3 HZ.out.n2 HZ.out.n3 HZ.out.k2 val p' ws' sh' HV.out HE.out _ (HR.out.r2.below (bth HB bel)) (HR.out.r3.below (bth HB bel))).mono ?_
 exact zb16
theorem iFlo6F_is (A0 A1 A2 A3 A4 : Option Addr) (c0 c1 c2 c3 c4 : Nat) (rs : List Rul) (qs : List Que) (tu se sp : Int) (ws : List Int) (sh : List Sha) (os : List Out) (Z : MeeIn A0 A1 A2 A3 A4 c0 c1 c2 c3 c4 rs qs ws sh os) (mem val yes no abst : Int) (hv : yldB ⟨tu, se, sp, ws, sh⟩ = false) (hp : pendB rs qs = true) (w : World) (R : MeR w A0 A1 A2 A3 A4 rs qs ws sh os) :
 Calls Tryz.prog 107 #[.agg #[.slice A0 rs.length c0, .slice A1 qs.length c1, .int .i64 tu, .int .i64 se, .int .i64 sp, .slice A2 ws.length c2, .slice A3 sh.length c3, .slice A4 os.length c4], .agg #[.int .i64 6, .int .i64 mem, .int .i64 val, .int .i64 yes, .int .i64 no, .int .i64 abst]] w fun e w' => e = .returned (.tuple #[.agg #[.slice none 0 0, .slice none 0 0, .int .i64 0, .int .i64 0, .int .i64 0, .slice none 0 0, .slice none 0 0, .slice none 0 0], .bool false]) ∧ Below w.heap.size w w' := by
 have HR := lh R; have HZ := lh Z; clear R Z hp; have HV := lh hv; clear hv
 go_in
 go_upto_region 1 with fail
 refine lay3 fun wX hq1 hF hA hZ => ?_
 have HB := hq1; have f' := hF.cs8; have a' := hA.cs6; have z' := hZ.cs8; have hz0' := hZ.lt
 go_upto_region 2 with fail
 refine lay1 fun wG hq2 hG => ?_
 replace HB := bth HB hq2; have g' := hG.cs5; clear f'; replace hF := hF.to hq2; have f' := hF.cs8; clear a'; replace hA := hA.to hq2; have a' := hA.cs6; clear z'; replace hZ := hZ.to hq2; have z' := hZ.cs8
 go_wp2_with fail
 refine (iYieldF_is tu se sp A2 c2 ws A3 c3 sh HZ.out.h2 HZ.out.h3 HZ.out.n2 HZ.out.n3 HZ.out.k2 HV.out _ (HR.out.r2.below (bth HB bel)) (HR.out.r3.below (bth HB bel))).mono ?_
 exact zb28
theorem iFlo6D_is (A0 A1 A2 A3 A4 : Option Addr) (c0 c1 c2 c3 c4 : Nat) (rs : List Rul) (qs : List Que) (tu se sp : Int) (ws : List Int) (sh : List Sha) (os : List Out) (Z : MeeIn A0 A1 A2 A3 A4 c0 c1 c2 c3 c4 rs qs ws sh os) (mem val yes no abst : Int) (hv : yldB ⟨tu, se, sp, ws, sh⟩ = true) (hd : debB rs qs = false) (hp : pendB rs qs = true) (w : World) (R : MeR w A0 A1 A2 A3 A4 rs qs ws sh os) :
 Calls Tryz.prog 107 #[.agg #[.slice A0 rs.length c0, .slice A1 qs.length c1, .int .i64 tu, .int .i64 se, .int .i64 sp, .slice A2 ws.length c2, .slice A3 sh.length c3, .slice A4 os.length c4], .agg #[.int .i64 6, .int .i64 mem, .int .i64 val, .int .i64 yes, .int .i64 no, .int .i64 abst]] w fun e w' => e = .returned (.tuple #[.agg #[.slice none 0 0, .slice none 0 0, .int .i64 0, .int .i64 0, .int .i64 0, .slice none 0 0, .slice none 0 0, .slice none 0 0], .bool false]) ∧ Below w.heap.size w w' := by
 have HR := lh R; have HZ := lh Z; have HP := lh hp; clear R Z hp; have HV := lh hv; clear hv; have HD := lh hd; clear hd
 obtain ⟨⟨t', s', p', ws', sh'⟩, he⟩ : ∃ f, yldF ⟨tu, se, sp, ws, sh⟩ = f := ⟨_, rfl⟩
 obtain ⟨rfl, rfl⟩ : tu = t' ∧ se = s' := by
  exact zb77
 have HE := lh he; clear he
 go_in
 go_upto_region 1 with fail
 refine lay3 fun wX hq1 hF hA hZ => ?_
 have HB := hq1; have f' := hF.cs8; have a' := hA.cs6; have z' := hZ.cs8; have hz0' := hZ.lt
 go_upto_region 2 with fail
 refine lay1 fun wG hq2 hG => ?_
 replace HB := bth HB hq2; have g' := hG.cs5; clear f'; replace hF := hF.to hq2; have f' := hF.cs8; clear a'; replace hA := hA.to hq2; have a' := hA.cs6; clear z'; replace hZ := hZ.to hq2; have z' := hZ.cs8
 go_wp2_with fail
 refine (iAct6_is tu se sp A2 c2 ws A3 c3 sh HZ.out.h2 HZ.out.h3 HZ.out.n2 HZ.out.n3 HZ.out.k2 p' ws' sh' HV.out HE.out _ (HR.out.r2.below (bth HB bel)) (HR.out.r3.below (bth HB bel))).mono ?_
 exact zb16
open Go.RowKit Go.G9
theorem zb47 {p : Prop} (h : p := by
 clear hp
 go_in
 go_wp2_with fail
 refine (l7Good_is A0 c0 rs h0 A1 c1 qs h1 _ HP.out _ (R0.below bel) (R1.below bel)).mono ?_
 rintro e w1 ⟨rfl, hb1⟩
 have hq1 := be w hb1; have HB : Below w.heap.size w w1 := hq1; replace R0 := R0.below hq1; replace R1 := R1.below hq1
 go_wp2
 go_ret2
 exact ⟨some ⟨_, 0, none⟩, 0, rfl, OwnV.made _ (by have := HB.size; first | omega | (simp; omega)) _, (bth HB bel)⟩) : p := h
theorem sWithdrawQ_is (A0 : Option Addr) (c0 : Nat) (rs : List Rul) (h0 : rs.length ≤ 1048576) (A1 : Option Addr) (c1 : Nat) (qs : List Que) (h1 : qs.length ≤ 1048576) (kq : qs.length ≤ c1) (mem : Int) (w : World) (R0 : Rds 7 Rul.cells w A0 rs) (R1 : Rds 3 Que.cells w A1 qs) : Calls Tryz.prog 113 #[.slice A0 rs.length c0, .slice A1 qs.length c1, .int .i64 mem] w fun e w' => ∃ A c, e = .returned (.tuple #[.slice A (oL (wdQ rs qs mem)).length c, .bool (wdQ rs qs mem).isSome]) ∧ OwnV w.heap.size 46 3 Que.cells w' (.slice A (oL (wdQ rs qs mem)).length c) (oL (wdQ rs qs mem)) ∧ Below w.heap.size w w' := by
 obtain ⟨i0, hi, hz0, hz1, hz2⟩ := info_parts info_Que
 cases hp : pendB rs qs
 ·have HP := lh hp
  rw [wdQ_no1 hp]
  exact zb47
 have HP := lh hp
 rw [wdQ_of hp]
 clear hp
 go_in
 go_wp2_with fail
 refine (l7Good_is A0 c0 rs h0 A1 c1 qs h1 _ HP.out _ (R0.below bel) (R1.below bel)).mono ?_
 rintro e w1 ⟨rfl, hb1⟩
 have hq1 := be w hb1; have HB : Below w.heap.size w w1 := hq1; replace R0 := R0.below hq1; replace R1 := R1.below hq1; have szc := HB.size; have HR1 := lh R1; clear R0 R1
 go_wp2
 go_loopw [8] (fun i wr => ∃ k : Nat, k ≤ qs.length ∧ i = .int .i64 ((k : Int) - 1) ∧ wdI qs mem qs.length = wdI qs mem k ∧ Below w1.heap.size w1 wr) (fun i _ => (intOf i + 1).toNat)
 case atStart => exact ⟨qs.length, Nat.le_refl _, rfl, rfl, Below.refl _ _⟩
 case round =>
  obtain ⟨k, hk, rfl, hw, hb⟩ := hrel
  have HW := lh hw; clear hw; have szb := hb.size
  by_cases h0 : 0 < k
  ·exact zb5
  ·obtain rfl : k = 0 := by omega
   have HN : Hid (wdI qs mem qs.length = none) := lh HW.out
   go_wp2
   go_ret2
   rw [HN.out]
   exact ⟨some ⟨_, 0, none⟩, 0, rfl, OwnV.made _ (by omega) _, bth HB (bth hb (bl1 _ _))⟩
theorem zb149 {p : Prop} (h : p := by
 have hOt := hO'.base (by omega : w.heap.size ≤ _)
 simp only [oL, Option.getD_some]
 exact hOt) : p := h
theorem sDropQ_is (A0 : Option Addr) (c0 : Nat) (rs : List Rul) (h0 : rs.length ≤ 1048576) (A1 : Option Addr) (c1 : Nat) (qs : List Que) (h1 : qs.length ≤ 1048576) (hA : A1 = none → qs = [] ∧ c1 = 0) (kq : qs.length ≤ c1) (w : World) (R0 : Rds 7 Rul.cells w A0 rs) (R1 : Rds 3 Que.cells w A1 qs) : Calls Tryz.prog 114 #[.slice A0 rs.length c0, .slice A1 qs.length c1] w fun e w' => ∃ A c, e = .returned (.tuple #[.slice A (oL (dpQ rs qs)).length c, .bool (dpQ rs qs).isSome]) ∧ OwnV w.heap.size 46 3 Que.cells w' (.slice A (oL (dpQ rs qs)).length c) (oL (dpQ rs qs)) ∧ Below w.heap.size w w' := by
 obtain ⟨i0, hi, hz0, hz1, hz2⟩ := info_parts info_Que
 have HNA := lh hA; clear hA
 cases hp : pendB rs qs
 ·have HP := lh hp
  rw [dpQ_no hp]
  exact zb47
 by_cases hq0 : qs.length = 0
 ·obtain rfl := List.length_eq_zero_iff.1 hq0
  rw [dpQ_keep hp (lstB_nil rfl)]
  have HP := lh hp; clear hp hq0 kq
  cases A1 with
  | none =>
   obtain ⟨_, rfl⟩ := HNA.out rfl
   go_in
   go_wp2_with fail
   refine (l7Good_is A0 c0 rs h0 none 0 [] h1 _ HP.out _ (R0.below bel) (R1.below bel)).mono ?_
   rintro e w1 ⟨rfl, hb1⟩
   have hq1 := be w hb1; have HB : Below w.heap.size w w1 := hq1; replace R0 := R0.below hq1; replace R1 := R1.below hq1
   go_wp2
   go_ret2
   exact ⟨some ⟨_, 0, none⟩, 0, rfl, OwnV.made _ (by have := HB.size; omega) _, (bth HB bel)⟩
  | some ad =>
   obtain ⟨ab, ao, asp⟩ := ad
   go_in
   go_wp2_with fail
   refine (l7Good_is A0 c0 rs h0 (some ⟨ab, ao, asp⟩) c1 [] h1 _ HP.out _ (R0.below bel) (R1.below bel)).mono ?_
   rintro e w1 ⟨rfl, hb1⟩
   have hq1 := be w hb1; have HB : Below w.heap.size w w1 := hq1; replace R0 := R0.below hq1; replace R1 := R1.below hq1; have szc := HB.size; have HRT := lh (fun e u => (R1.below (bl1 w1 (.cells #[] e))) : ∀ (e : TypeId) (u : Unit), Rds 3 Que.cells (w1.alloc (.cells #[] e)) (some ⟨ab, ao, asp⟩) ([] : List Que))
   go_wp2_with ((at_builtin; refine wpList_appOn rfl _ _ 25 rfl w1.heap.size 46 i0 _ 3 24 Tryz.underlying25 hi hz0 hz1 hz2 rfl (by decide) Que.cells que_len que_one w1.heap.size rfl (Blk.new _ _ _) (Nat.le_refl _) (some ⟨ab, ao, asp⟩) c1 ([] : List Que) 0 rfl rfl (HRT.out _ ()) (fun h => by cases h) (by simp [maxLen]) (by simp) ?_; intro g' c' wA hO' hb'))
   go_wp2
   go_ret2
   exact ⟨some ⟨g', 0, none⟩, c', rfl, hO'.base (by omega), bth HB (bth (bl1 _ _) hb')⟩
 obtain ⟨j, hj⟩ : ∃ j, qs.length = j + 1 := ⟨qs.length - 1, by omega⟩
 obtain ⟨bq, oq, ⟨qr, qm, qe⟩, hAe, _, hq, _⟩ := R1.at_ (Below.refl _ _) (k := j) (by omega)
 obtain ⟨t, ht⟩ := pendB_found hp hq
 have HJ := lh hj; have HQ := lh hq; have HT := lh ht; have HP := lh hp
 have hjl : j ≤ 1048576 := by omega
 have hjc : j + 1 ≤ c1 := by omega
 have HAE := lh hAe; have HE := lh (fun W h h' => l7Good_is A0 c0 rs h0 A1 c1 qs h1 _ hp W h h')
 cases hk : lackB t ⟨qr, qm, qe⟩
 case false =>
  have HK := lh hk
  rw [dpQ_keep hp ((lstB_last hj hq ht).trans hk)]
  skip
  rw [hj] at HE
  rw [show qs.length = j + 1 from hj]
  have hjc2 : j ≤ c1 := by omega
  clear hp hk hq ht hj hq0 h1 hAe kq
  go_in
  go_wp2_with fail
  refine (HE.out _ (R0.below bel) (R1.below bel)).mono ?_
  rintro e w1 ⟨rfl, hb1⟩
  have hq1 := be w hb1; have HB : Below w.heap.size w w1 := hq1; replace R0 := R0.below hq1; replace R1 := R1.below hq1
  obtain ⟨_, _, y, e9, hb9, hy, hcy⟩ := R1.at_ (Below.refl _ _) (k := j) (by have := HJ.out; omega)
  obtain rfl : (⟨qr, qm, qe⟩ : Que) = y := Option.some.inj (HQ.out.symm.trans hy)
  have e8 := HAE.out
  rw [e8] at e9
  cases e9
  subst e8
  clear hy; have p0 := hcy 0 _ rfl; have p1 := hcy 1 _ rfl; have p2 := hcy 2 _ rfl
  simp only [Nat.add_zero] at p0
  have g0 := p0 (Kin.self _); have g1 := p1 (Kin.self _); have g2 := p2 (Kin.self _)
  simp only [Kin.self] at g0
  simp only [Kin.self] at g1
  simp only [Kin.self] at g2
  clear hcy p0 p1 p2
  go_wp2_with fail
  refine (l7Lacks_is A0 c0 rs h0 ⟨qr, qm, qe⟩ t HT.out false HK.out _ (R0.below bel)).mono ?_
  rintro e w2 ⟨rfl, hb2⟩
  have hq2 := be w1 hb2; replace HB := bth HB hq2; replace R0 := R0.below hq2; replace R1 := R1.below hq2; have hA := HNA.out; have szc := HB.size; clear g0 g1 g2; have HRT := lh (fun e u => (R1.below (bl1 w2 (.cells #[] e))) : ∀ (e : TypeId) (u : Unit), Rds 3 Que.cells (w2.alloc (.cells #[] e)) (some ⟨bq, oq, none⟩) qs)
  go_wp2_with ((at_builtin; refine wpList_appOn rfl _ _ 25 rfl w2.heap.size 46 i0 _ 3 24 Tryz.underlying25 hi hz0 hz1 hz2 rfl (by decide) Que.cells que_len que_one w2.heap.size rfl (Blk.new _ _ _) (Nat.le_refl _) (some ⟨bq, oq, none⟩) c1 qs (j + 1) HJ.out.symm rfl (HRT.out _ ()) hA (by have := HJ.out.symm; unfold maxLen; omega) (by have := HJ.out.symm; omega) ?_; intro g' c' wA hO' hb'; clear hA))
  go_wp2
  go_ret2
  refine ⟨some ⟨g', 0, none⟩, c', by simp only [oL, Option.getD_some, HJ.out]; rfl, ?_, bth HB (bth (bl1 _ _) hb')⟩
  exact zb149
 case true =>
  have HK := lh hk
  rw [dpQ_drop hp ((lstB_last hj hq ht).trans hk), show qs.length - 1 = j by omega]
  have HLT := lh (show (qs.take j).length = j by rw [List.length_take]; omega)
  rw [hj] at HE
  rw [show qs.length = j + 1 from hj]
  have hjc2 : j ≤ c1 := by omega
  clear hp hk hq ht hj hq0 h1 hAe kq
  go_in
  go_wp2_with fail
  refine (HE.out _ (R0.below bel) (R1.below bel)).mono ?_
  rintro e w1 ⟨rfl, hb1⟩
  have hq1 := be w hb1; have HB : Below w.heap.size w w1 := hq1; replace R0 := R0.below hq1; replace R1 := R1.below hq1
  obtain ⟨_, _, y, e9, hb9, hy, hcy⟩ := R1.at_ (Below.refl _ _) (k := j) (by have := HJ.out; omega)
  obtain rfl : (⟨qr, qm, qe⟩ : Que) = y := Option.some.inj (HQ.out.symm.trans hy)
  have e8 := HAE.out
  rw [e8] at e9
  cases e9
  subst e8
  clear hy; have p0 := hcy 0 _ rfl; have p1 := hcy 1 _ rfl; have p2 := hcy 2 _ rfl
  simp only [Nat.add_zero] at p0
  have g0 := p0 (Kin.self _); have g1 := p1 (Kin.self _); have g2 := p2 (Kin.self _)
  simp only [Kin.self] at g0
  simp only [Kin.self] at g1
  simp only [Kin.self] at g2
  clear hcy p0 p1 p2
  go_wp2_with fail
  refine (l7Lacks_is A0 c0 rs h0 ⟨qr, qm, qe⟩ t HT.out true HK.out _ (R0.below bel)).mono ?_
  rintro e w2 ⟨rfl, hb2⟩
  have hq2 := be w1 hb2; replace HB := bth HB hq2; replace R0 := R0.below hq2; replace R1 := R1.below hq2; have hA := HNA.out; have szc := HB.size; clear g0 g1 g2; have HRT := lh (fun e u => ((rds_takeq R1 j).below (bl1 w2 (.cells #[] e))) : ∀ (e : TypeId) (u : Unit), Rds 3 Que.cells (w2.alloc (.cells #[] e)) (some ⟨bq, oq, none⟩) (qs.take j))
  go_wp2_with ((at_builtin; refine wpList_appOn rfl _ _ 25 rfl w2.heap.size 46 i0 _ 3 24 Tryz.underlying25 hi hz0 hz1 hz2 rfl (by decide) Que.cells que_len que_one w2.heap.size rfl (Blk.new _ _ _) (Nat.le_refl _) (some ⟨bq, oq, none⟩) c1 (qs.take j) j HLT.out.symm rfl (HRT.out _ ()) (fun h => by cases h) (by have := HLT.out.symm; unfold maxLen; omega) (by have := HLT.out.symm; omega) ?_; intro g' c' wA hO' hb'; clear hA))
  go_wp2
  go_ret2
  refine ⟨some ⟨g', 0, none⟩, c', by simp only [oL, Option.getD_some, HLT.out]; rfl, ?_, bth HB (bth (bl1 _ _) hb')⟩
  exact zb149
open Go.RowKit Go.G9
theorem zb72 {p : Prop} (h : p := by
 have hrs : Below w.heap.size w w4 := (hbk.alloc hbk.size _).grown hg4 (by have := hbk.size; simp; omega) (fun q hq => (hOk.lt q hq).1)
 go_roundw
 case rel => exact ⟨k + 1, by omega, by go_num, by rw [HA.out]; exact hO4, hrs⟩
 case measure => simp [intOf]; omega) : p := h
theorem zb113 {p : Prop} (h : p := by
 skip
 obtain rfl : k = rs.length := by omega
 obtain ⟨Y, yc, rfl, _, _, _⟩ := hO.form intC_len
 go_wp2
 go_ret
 rw [HL.out]
 exact ⟨Y, yc, rfl, hO, hb⟩) : p := h
theorem zb132 {p : Prop} (h : p := by
 go_wp2
 go_ret
 rw [HL.out]
 obtain ⟨Y, yc, hv, _, _, _⟩ := hO.form intC_len
 subst hv
 exact ⟨Y, yc, rfl, hO, hb⟩) : p := h
theorem l7May_is (A0 : Option Addr) (c0 : Nat) (rs : List Rul) (h0 : rs.length ≤ 1048576) (A1 : Option Addr) (c1 : Nat) (qs : List Que) (h1 : qs.length ≤ 1048576) (hp : pendB rs qs = true) (w : World) (R0 : Rds 7 Rul.cells w A0 rs) (R1 : Rds 3 Que.cells w A1 qs) :
 Calls Tryz.prog 104 #[.slice A0 rs.length c0, .slice A1 qs.length c1] w fun e w' => ∃ A c, e = .returned (.slice A (mayL rs qs).length c) ∧ OwnV w.heap.size 3 1 intC w' (.slice A (mayL rs qs).length c) (mayL rs qs) ∧ Below w.heap.size w w' := by
 obtain ⟨i0, hi, hz0, hz1, hz2⟩ := info_parts info_int
 have HR0 := lh R0; have hO0 : OwnV w.heap.size 3 1 intC (w.alloc (.cells #[] 3)) (.slice (some ⟨w.heap.size, 0, none⟩) 0 0) ([] : List Int) := OwnV.made w (Nat.le_refl _) _; have hBz : Below w.heap.size w (w.alloc (.cells #[] 3)) := bl1 w _; have hRb := (pendB_parts hp).1
 by_cases hq0 : qs.length = 0
 ·have HL := lh (mayL_empty hp hq0)
  clear R0 R1
  obtain rfl := List.length_eq_zero_iff.1 hq0
  clear hq0
  go_in
  go_wp2
  go_loopw [5, 7] (fun y i wr => ∃ k : Nat, k ≤ rs.length ∧ i = .int .i64 k ∧ OwnV w.heap.size 3 1 intC wr y (mayG (-1) rs k) ∧ Below w.heap.size w wr) (fun _ i _ => rs.length - (intOf i).toNat)
  case atStart => exact ⟨0, Nat.zero_le _, rfl, hO0, hBz⟩
  case round =>
   clear hO0 hBz
   obtain ⟨k, hk, rfl, hO, hb⟩ := hrel
   by_cases hlt : k < rs.length
   ·skip
    obtain ⟨bq, oq, x, rfl, hbl, hx, hcx⟩ := HR0.out.at_ hb hlt
    have hrb := ruleB_bd (rulesB_at hRb hx)
    obtain ⟨xi, xn, xr, xs, xd, xa, xe, xo⟩ := x
    have p0 := hcx 0 _ rfl
    simp only [Nat.add_zero] at p0
    have HX := lh hx; clear hx hcx
    have hr : (-1) < xr := by dsimp only at hrb; omega
    have ha := mayG_yes (rk := (-1)) HX.out hr; have HA := lh ha; clear ha
    go_wp2
    refine wp_region_kin (by kernel_rfl) (by kernel_rfl) ?_
    repeat (go_big_quiet_step (fail))
    refine wpQuiet_nil ?_
    intro K
    have g0 := p0 K; have hbk := bth hb K.below; have hOk := hO.later K.below; clear p0 hO
    generalize K.world = wv at *
    go_wp2_with ((at_builtin; refine wpList_app1 rfl _ _ 26 rfl w.heap.size 3 i0 _ 1 8 Tryz.underlying26 hi hz0 hz1 hz2 rfl (by decide) intC intC_len intC_one _ (mayG (-1) rs k) rfl (hOk.alloc _) ⟨wv.heap.size, 0, none⟩ 1 xi rfl (Rds.one _ _) (by have := mayG_len (-1) rs k; unfold maxLen; omega) (by have := mayG_len (-1) rs k; omega) (by have := hbk.size; simp; omega) ?_; intro v4 w4 hO4 hg4 ha4))
    exact zb72
   ·exact zb113
 ·obtain ⟨j, hj⟩ : ∃ j, qs.length = j + 1 := ⟨qs.length - 1, by omega⟩
  obtain ⟨b1, o1, ⟨qr, qm, qe⟩, rfl, hb1, hq, hcq⟩ := R1.at_ (Below.refl _ _) (k := j) (by omega)
  obtain ⟨t, ht⟩ := pendB_found hp hq
  have HQ := lh hq; have HT := lh ht; have HJ := lh hj; have h6q := (pendB_parts hp).2.1; have HQC : Hid (Rds 3 Que.cells w (some ⟨b1, o1, none⟩) qs) := lh R1; clear hq ht hcq R1
  rw [hj] at h6q ⊢
  clear hj hq0 h1
  by_cases h6 : j + 1 = 6
  ·obtain rfl : j = 5 := by omega
   have HL := lh (mayL_none HJ.out HQ.out HT.out (Or.inr HJ.out)); clear hp
   go_in
   go_wp2
   go_loopw [5, 7] (fun y i wr => i = .int .i64 0 ∧ OwnV w.heap.size 3 1 intC wr y ([] : List Int) ∧ Below w.heap.size w wr) (fun _ i _ => 0)
   case atStart => exact ⟨rfl, hO0, hBz⟩
   case round =>
    clear hO0 hBz
    obtain ⟨rfl, hO, hb⟩ := hrel
    rcases Nat.eq_zero_or_pos rs.length with h9 | h9
    ·obtain rfl := List.length_eq_zero_iff.1 h9
     clear h9
     exact zb132
    ·exact zb132
  ·have hn0 : ((j : Int) + 1 == 0) = false := beq_eq_false_iff_ne.2 (by omega)
   have hn6 : decide ((j : Int) + 1 < 6) = true := decide_eq_true (by omega)
   cases hk : lackB t ⟨qr, qm, qe⟩
   case true =>
    have HK := lh hk; have HL := lh (mayL_none HJ.out HQ.out HT.out (Or.inl hk)); clear hk
    go_in
    go_wp2
    go_loopw [5, 7] (fun y i wr => ∃ k : Nat, k ≤ rs.length ∧ i = .int .i64 k ∧ OwnV w.heap.size 3 1 intC wr y ([]) ∧ Below w.heap.size w wr) (fun _ i _ => rs.length - (intOf i).toNat)
    case atStart => exact ⟨0, Nat.zero_le _, rfl, hO0, hBz⟩
    case round =>
     clear hO0 hBz
     obtain ⟨k, hk, rfl, hO, hb⟩ := hrel
     by_cases hlt : k < rs.length
     ·obtain ⟨_, _, y9, e9, hb9, hy9, hcy⟩ := HQC.out.at_ hb (k := j) (by have := HJ.out; omega)
      cases e9
      obtain rfl : (⟨qr, qm, qe⟩ : Que) = y9 := Option.some.inj (HQ.out.symm.trans hy9)
      clear hy9; have q0 := hcy 0 _ rfl; have q1 := hcy 1 _ rfl; have q2 := hcy 2 _ rfl
      simp only [Nat.add_zero] at q0
      clear hcy
      go_wp2
      refine wp_region_kin (by kernel_rfl) (by kernel_rfl) ?_
      repeat (go_big_quiet_step (fail))
      go_big_quiet_step ((go_at_call 126; exact Kin.call _ (by first | exact Nat.le_refl _ | omega) (l7Lacks_is A0 c0 rs h0 ⟨qr, qm, qe⟩ t HT.out true HK.out _ (HR0.out.below (bth hb (Kin.below _))))))
      repeat (go_big_quiet_step (fail))
      refine wpQuiet_nil ?_
      intro K
      have hbk := bth hb K.below; have hOk := hO.later K.below; clear q0 q1 q2 hO
      generalize K.world = wv at *
      go_wp2
      go_roundw
      case rel => exact ⟨k + 1, by omega, by go_num, hOk, hbk⟩
      case measure => simp [intOf]; omega
     ·skip
      obtain ⟨Y, yc, rfl, _, _, _⟩ := hO.form intC_len
      go_wp2
      go_ret
      rw [HL.out]
      exact ⟨Y, yc, rfl, hO, hb⟩
   case false =>
    have HK := lh hk; have HL := lh (mayL_rank HJ.out HQ.out HT.out hk (by have := HJ.out; omega)); clear hk
    obtain ⟨ti, tn, tr, ts, td, ta, te, tk⟩ := t
    go_in
    go_wp2
    go_loopw [5, 7] (fun y i wr => ∃ k : Nat, k ≤ rs.length ∧ i = .int .i64 k ∧ OwnV w.heap.size 3 1 intC wr y (mayG tr rs k) ∧ Below w.heap.size w wr) (fun _ i _ => rs.length - (intOf i).toNat)
    case atStart => exact ⟨0, Nat.zero_le _, rfl, hO0, hBz⟩
    case round =>
     clear hO0 hBz
     obtain ⟨k, hk, rfl, hO, hb⟩ := hrel
     by_cases hlt : k < rs.length
     ·skip
      obtain ⟨bq, oq, x, hA0, hbl, hx, hcx⟩ := HR0.out.at_ hb hlt
      have hrb := ruleB_bd (rulesB_at hRb hx)
      obtain ⟨xi, xn, xr, xs, xd, xa, xe, xo⟩ := x
      have p0 := hcx 0 _ rfl; have p2 := hcx 2 _ rfl
      simp only [Nat.add_zero] at p0
      have HX := lh hx; clear hx hcx
      subst hA0
      obtain ⟨_, _, y9, e9, hb9, hy9, hcy⟩ := HQC.out.at_ hb (k := j) (by have := HJ.out; omega)
      cases e9
      obtain rfl : (⟨qr, qm, qe⟩ : Que) = y9 := Option.some.inj (HQ.out.symm.trans hy9)
      clear hy9; have q0 := hcy 0 _ rfl; have q1 := hcy 1 _ rfl; have q2 := hcy 2 _ rfl
      simp only [Nat.add_zero] at q0
      clear hcy
      by_cases hr : tr < xr
      ·have ha := mayG_yes (rk := tr) HX.out hr; have HA := lh ha; clear ha
       go_wp2
       refine wp_region_kin (by kernel_rfl) (by kernel_rfl) ?_
       repeat (go_big_quiet_step (fail))
       go_big_quiet_step ((go_at_call 126; exact Kin.call _ (by first | exact Nat.le_refl _ | omega) (l7Lacks_is (some ⟨bq, oq, none⟩) c0 rs h0 ⟨qr, qm, qe⟩ ⟨ti, tn, tr, ts, td, ta, te, tk⟩ HT.out false HK.out _ (HR0.out.below (bth hb (Kin.below _))))))
       repeat (go_big_quiet_step (fail))
       go_big_quiet_step ((go_at_call 161; exact Kin.call _ (by first | exact Nat.le_refl _ | omega) (l7Rank_is (some ⟨bq, oq, none⟩) c0 rs h0 ⟨qr, qm, qe⟩ ⟨ti, tn, tr, ts, td, ta, te, tk⟩ HT.out _ (HR0.out.below (bth hb (Kin.below _))))))
       repeat (go_big_quiet_step (fail))
       refine wpQuiet_nil ?_
       intro K
       have g0 := p0 K; have hbk := bth hb K.below; have hOk := hO.later K.below; clear p0 p2 hO
       generalize K.world = wv at *
       clear q0 q1 q2
       go_wp2_with ((at_builtin; refine wpList_app1 rfl _ _ 26 rfl w.heap.size 3 i0 _ 1 8 Tryz.underlying26 hi hz0 hz1 hz2 rfl (by decide) intC intC_len intC_one _ (mayG (tr) rs k) rfl (hOk.alloc _) ⟨wv.heap.size, 0, none⟩ 1 xi rfl (Rds.one _ _) (by have := mayG_len (tr) rs k; unfold maxLen; omega) (by have := mayG_len (tr) rs k; omega) (by have := hbk.size; simp; omega) ?_; intro v4 w4 hO4 hg4 ha4))
       exact zb72
      ·have hr' : decide (tr < xr) = false := decide_eq_false hr
       have ha := mayG_no (rk := tr) HX.out hr; have HA := lh ha; clear ha
       go_wp2
       refine wp_region_kin (by kernel_rfl) (by kernel_rfl) ?_
       repeat (go_big_quiet_step (fail))
       go_big_quiet_step ((go_at_call 126; exact Kin.call _ (by first | exact Nat.le_refl _ | omega) (l7Lacks_is (some ⟨bq, oq, none⟩) c0 rs h0 ⟨qr, qm, qe⟩ ⟨ti, tn, tr, ts, td, ta, te, tk⟩ HT.out false HK.out _ (HR0.out.below (bth hb (Kin.below _))))))
       repeat (go_big_quiet_step (fail))
       go_big_quiet_step ((go_at_call 161; exact Kin.call _ (by first | exact Nat.le_refl _ | omega) (l7Rank_is (some ⟨bq, oq, none⟩) c0 rs h0 ⟨qr, qm, qe⟩ ⟨ti, tn, tr, ts, td, ta, te, tk⟩ HT.out _ (HR0.out.below (bth hb (Kin.below _))))))
       repeat (go_big_quiet_step (fail))
       refine wpQuiet_nil ?_
       intro K
       have hbk := bth hb K.below; have hOk := hO.later K.below; clear p0 p2 hO
       generalize K.world = wv at *
       clear q0 q1 q2
       go_wp2
       go_roundw
       case rel => exact ⟨k + 1, by omega, by go_num, by rw [HA.out]; exact hOk, hbk⟩
       case measure => simp [intOf]; omega
     ·exact zb113
end Go.Proofs.YtjimibkgocieoaaGreat
