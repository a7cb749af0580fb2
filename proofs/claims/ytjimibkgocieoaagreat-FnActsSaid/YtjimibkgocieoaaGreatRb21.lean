/- Texts of the proof: walks of the functions, and what they compute. -/
import Derived.Test.YtjimibkgocieoaaGreatRb20
import Derived.Test.YtjimibkgocieoaaGreatRb16
import Derived.Test.YtjimibkgocieoaaGreatRb0
import Derived.Test.YtjimibkgocieoaaGreatRb8
set_option maxHeartbeats 16000000
set_option maxRecDepth 100000
namespace Go.Proofs.YtjimibkgocieoaaGreat
open Go.RowKit Go.G9
theorem zb12 {p : Prop} (h : p := by
 rintro e w3 ⟨QA, qc, rfl, OQ, hb3⟩
 have hq3 := be wE hb3; replace HB := bth HB hq3; replace hF := hF.to hq3; clear f'; have f' := hF.cs8; clear a'; replace hZ := hZ.to hq3; clear z'; have z' := hZ.cs8; have szh := HB.size
 go_wp2_with fail
 refine (l25Pending_is A0 A1 A2 A3 A4 c0 c1 c2 c3 c4 rs qs tu se sp ws sh os HZ.out QA ps.length qc _ (HR.out.below (bth HB bel))).mono ?_
 rintro e w4 ⟨D0, d0, D4, d4, rfl, O0, O4, hb4⟩
 have hq4 := be w3 hb4; replace HB := bth HB hq4; replace OQ := OQ.later hq4; clear f'; replace hZ := hZ.to hq4; clear z'; have z' := hZ.cs8; have neO0 := O0.nb hZ; have neOQ := OQ.nb hZ; have neO4 := O4.nb hZ; have fhZ' := hZ.fz8
 go_wp2
 clear z'
 refine st8 0 fun W9 tW9 => ?_
 replace HB := tW9.hc HB; replace hZ := tW9.all8 hZ; replace OQ := OQ.keptS tW9 neOQ; replace O0 := O0.keptS tW9 neO0; replace O4 := O4.keptS tW9 neO4; have z' := hZ.cs8
 refine bodyPost_ret (v := .tuple #[.agg #[.slice D0 rs.length d0, .slice QA ps.length qc, .int .i64 tu, .int .i64 se, .int .i64 0, .slice none 0 0, .slice none 0 0, .slice D4 os.length d4], .bool true]) (by simp [results, Tryz.results48, go_sem, z']) rfl ?_
 exact ⟨D0, d0, QA, qc, none, 0, none, 0, D4, d4, rfl, ⟨O0.base (by omega), OQ.base (by omega), OwnV.nil, OwnV.nil, O4.base (by omega)⟩, HB⟩) : p := h
theorem sMk1T_is (A0 A1 A2 A3 A4 : Option Addr) (c0 c1 c2 c3 c4 : Nat) (rs : List Rul) (qs : List Que) (tu se sp : Int) (ws : List Int) (sh : List Sha) (os : List Out) (Z : MeeIn A0 A1 A2 A3 A4 c0 c1 c2 c3 c4 rs qs ws sh os) (mem val yes no abst : Int) (ps : List Que) (hv : mvQ rs qs val mem = some ps) (hs : (sp == 0) = true) (w : World) (R : MeR w A0 A1 A2 A3 A4 rs qs ws sh os) :
 Calls Tryz.prog 48 #[.agg #[.slice A0 rs.length c0, .slice A1 qs.length c1, .int .i64 tu, .int .i64 se, .int .i64 sp, .slice A2 ws.length c2, .slice A3 sh.length c3, .slice A4 os.length c4], .agg #[.int .i64 1, .int .i64 mem, .int .i64 val, .int .i64 yes, .int .i64 no, .int .i64 abst]] w (ARes (some ⟨rs, ps, tu, se, 0, [], [], os⟩) w) := by
 have HR := lh R; have HZ := lh Z; clear R Z; have HV := lh hv; clear hv
 go_in
 go_upto_region 1 with fail
 refine lay3 fun wX hq1 hF hA hZ => ?_
 have HB := hq1; have f' := hF.cs8; have a' := hA.cs6; have z' := hZ.cs8; have hz0' := hZ.lt
 go_upto_region 2 with fail
 refine lay1 fun wE hq2 hE => ?_
 replace HB := bth HB hq2; clear f'; replace hF := hF.to hq2; have f' := hF.cs8; clear a'; replace hA := hA.to hq2; have a' := hA.cs6; clear z'; replace hZ := hZ.to hq2; have z' := hZ.cs8; have he0 := hE.lt
 go_wp2_with fail
 refine (sMoveQY_is A0 c0 rs HZ.out.h0 A1 c1 qs HZ.out.h1 HZ.out.n1 val mem ps HV.out _ (HR.out.r0.below (bth HB bel)) (HR.out.r1.below (bth HB bel))).mono ?_
 exact zb12
theorem zb35 {p : Prop} (h : p := by
 rintro e w3 ⟨QA, qc, rfl, hb3⟩
 have hq3 := be wE hb3; replace HB := bth HB hq3; clear f'; clear a'; replace hZ := hZ.to hq3; clear z'; have z' := hZ.cs8; have fhZ' := hZ.fz8
 go_wp2
 clear z'
 refine st8 0 fun W9 tW9 => ?_
 replace HB := tW9.hc HB; replace hZ := tW9.all8 hZ; have z' := hZ.cs8
 refine bodyPost_ret (v := .tuple #[.agg #[.slice none 0 0, .slice none 0 0, .int .i64 0, .int .i64 0, .int .i64 0, .slice none 0 0, .slice none 0 0, .slice none 0 0], .bool false]) (by simp [results, Tryz.results48, go_sem, z']) rfl ?_
 exact ⟨rfl, HB⟩) : p := h
theorem sMk1F_is (A0 A1 A2 A3 A4 : Option Addr) (c0 c1 c2 c3 c4 : Nat) (rs : List Rul) (qs : List Que) (tu se sp : Int) (ws : List Int) (sh : List Sha) (os : List Out) (Z : MeeIn A0 A1 A2 A3 A4 c0 c1 c2 c3 c4 rs qs ws sh os) (mem val yes no abst : Int) (hv : mvQ rs qs val mem = none)  (w : World) (R : MeR w A0 A1 A2 A3 A4 rs qs ws sh os) :
 Calls Tryz.prog 48 #[.agg #[.slice A0 rs.length c0, .slice A1 qs.length c1, .int .i64 tu, .int .i64 se, .int .i64 sp, .slice A2 ws.length c2, .slice A3 sh.length c3, .slice A4 os.length c4], .agg #[.int .i64 1, .int .i64 mem, .int .i64 val, .int .i64 yes, .int .i64 no, .int .i64 abst]] w (ARes none w) := by
 have HR := lh R; have HZ := lh Z; clear R Z; have HV := lh hv; clear hv
 go_in
 go_upto_region 1 with fail
 refine lay3 fun wX hq1 hF hA hZ => ?_
 have HB := hq1; have f' := hF.cs8; have a' := hA.cs6; have z' := hZ.cs8
 go_upto_region 2 with fail
 refine lay1 fun wE hq2 hE => ?_
 replace HB := bth HB hq2; clear f'; replace hF := hF.to hq2; have f' := hF.cs8; clear a'; replace hA := hA.to hq2; have a' := hA.cs6; clear z'; replace hZ := hZ.to hq2; have z' := hZ.cs8
 go_wp2_with fail
 refine (sMoveQN_is A0 c0 rs HZ.out.h0 A1 c1 qs HZ.out.h1 HZ.out.n1 val mem HV.out _ (HR.out.r0.below (bth HB bel)) (HR.out.r1.below (bth HB bel))).mono ?_
 exact zb35
theorem zb31 {p : Prop} (h : p := by
 rintro e w3 ⟨QA, qc, rfl, OQ, hb3⟩
 have hq3 := be wE hb3; replace HB := bth HB hq3; clear f'; clear a'; replace hZ := hZ.to hq3; clear z'; have z' := hZ.cs8; clear OQ; have fhZ' := hZ.fz8
 go_wp2
 clear z'
 refine st8 0 fun W9 tW9 => ?_
 replace HB := tW9.hc HB; replace hZ := tW9.all8 hZ; have z' := hZ.cs8
 refine bodyPost_ret (v := .tuple #[.agg #[.slice none 0 0, .slice none 0 0, .int .i64 0, .int .i64 0, .int .i64 0, .slice none 0 0, .slice none 0 0, .slice none 0 0], .bool false]) (by simp [results, Tryz.results48, go_sem, z']) rfl ?_
 exact ⟨rfl, HB⟩) : p := h
theorem sMk1S_is (A0 A1 A2 A3 A4 : Option Addr) (c0 c1 c2 c3 c4 : Nat) (rs : List Rul) (qs : List Que) (tu se sp : Int) (ws : List Int) (sh : List Sha) (os : List Out) (Z : MeeIn A0 A1 A2 A3 A4 c0 c1 c2 c3 c4 rs qs ws sh os) (mem val yes no abst : Int) (ps : List Que) (hv : mvQ rs qs val mem = some ps) (hs : (sp == 0) = false) (w : World) (R : MeR w A0 A1 A2 A3 A4 rs qs ws sh os) :
 Calls Tryz.prog 48 #[.agg #[.slice A0 rs.length c0, .slice A1 qs.length c1, .int .i64 tu, .int .i64 se, .int .i64 sp, .slice A2 ws.length c2, .slice A3 sh.length c3, .slice A4 os.length c4], .agg #[.int .i64 1, .int .i64 mem, .int .i64 val, .int .i64 yes, .int .i64 no, .int .i64 abst]] w (ARes none w) := by
 have HR := lh R; have HZ := lh Z; clear R Z; have HV := lh hv; clear hv
 go_in
 go_upto_region 1 with fail
 refine lay3 fun wX hq1 hF hA hZ => ?_
 have HB := hq1; have f' := hF.cs8; have a' := hA.cs6; have z' := hZ.cs8
 go_upto_region 2 with fail
 refine lay1 fun wE hq2 hE => ?_
 replace HB := bth HB hq2; clear f'; replace hF := hF.to hq2; have f' := hF.cs8; clear a'; replace hA := hA.to hq2; have a' := hA.cs6; clear z'; replace hZ := hZ.to hq2; have z' := hZ.cs8
 go_wp2_with fail
 refine (sMoveQY_is A0 c0 rs HZ.out.h0 A1 c1 qs HZ.out.h1 HZ.out.n1 val mem ps HV.out _ (HR.out.r0.below (bth HB bel)) (HR.out.r1.below (bth HB bel))).mono ?_
 exact zb31
theorem sMk8T_is (A0 A1 A2 A3 A4 : Option Addr) (c0 c1 c2 c3 c4 : Nat) (rs : List Rul) (qs : List Que) (tu se sp : Int) (ws : List Int) (sh : List Sha) (os : List Out) (Z : MeeIn A0 A1 A2 A3 A4 c0 c1 c2 c3 c4 rs qs ws sh os) (mem val yes no abst : Int) (ps : List Que) (hv : wdQ rs qs mem = some ps) (hs : (sp == 0) = true) (w : World) (R : MeR w A0 A1 A2 A3 A4 rs qs ws sh os) :
 Calls Tryz.prog 48 #[.agg #[.slice A0 rs.length c0, .slice A1 qs.length c1, .int .i64 tu, .int .i64 se, .int .i64 sp, .slice A2 ws.length c2, .slice A3 sh.length c3, .slice A4 os.length c4], .agg #[.int .i64 8, .int .i64 mem, .int .i64 val, .int .i64 yes, .int .i64 no, .int .i64 abst]] w (ARes (some ⟨rs, ps, tu, se, 0, [], [], os⟩) w) := by
 have HR := lh R; have HZ := lh Z; clear R Z; have HV := lh hv; clear hv
 go_in
 go_upto_region 1 with fail
 refine lay3 fun wX hq1 hF hA hZ => ?_
 have HB := hq1; have f' := hF.cs8; have a' := hA.cs6; have z' := hZ.cs8; have hz0' := hZ.lt
 go_upto_region 2 with fail
 refine lay1 fun wE hq2 hE => ?_
 replace HB := bth HB hq2; clear f'; replace hF := hF.to hq2; have f' := hF.cs8; clear a'; replace hA := hA.to hq2; have a' := hA.cs6; clear z'; replace hZ := hZ.to hq2; have z' := hZ.cs8; have he0 := hE.lt
 go_wp2_with fail
 refine (sWithdrawQY_is A0 c0 rs HZ.out.h0 A1 c1 qs HZ.out.h1 HZ.out.k1 mem ps HV.out _ (HR.out.r0.below (bth HB bel)) (HR.out.r1.below (bth HB bel))).mono ?_
 exact zb12
theorem sMk8F_is (A0 A1 A2 A3 A4 : Option Addr) (c0 c1 c2 c3 c4 : Nat) (rs : List Rul) (qs : List Que) (tu se sp : Int) (ws : List Int) (sh : List Sha) (os : List Out) (Z : MeeIn A0 A1 A2 A3 A4 c0 c1 c2 c3 c4 rs qs ws sh os) (mem val yes no abst : Int) (hv : wdQ rs qs mem = none)  (w : World) (R : MeR w A0 A1 A2 A3 A4 rs qs ws sh os) :
 Calls Tryz.prog 48 #[.agg #[.slice A0 rs.length c0, .slice A1 qs.length c1, .int .i64 tu, .int .i64 se, .int .i64 sp, .slice A2 ws.length c2, .slice A3 sh.length c3, .slice A4 os.length c4], .agg #[.int .i64 8, .int .i64 mem, .int .i64 val, .int .i64 yes, .int .i64 no, .int .i64 abst]] w (ARes none w) := by
 have HR := lh R; have HZ := lh Z; clear R Z; have HV := lh hv; clear hv
 go_in
 go_upto_region 1 with fail
 refine lay3 fun wX hq1 hF hA hZ => ?_
 have HB := hq1; have f' := hF.cs8; have a' := hA.cs6; have z' := hZ.cs8
 go_upto_region 2 with fail
 refine lay1 fun wE hq2 hE => ?_
 replace HB := bth HB hq2; clear f'; replace hF := hF.to hq2; have f' := hF.cs8; clear a'; replace hA := hA.to hq2; have a' := hA.cs6; clear z'; replace hZ := hZ.to hq2; have z' := hZ.cs8
 go_wp2_with fail
 refine (sWithdrawQN_is A0 c0 rs HZ.out.h0 A1 c1 qs HZ.out.h1 HZ.out.k1 mem HV.out _ (HR.out.r0.below (bth HB bel)) (HR.out.r1.below (bth HB bel))).mono ?_
 exact zb35
theorem sMk8S_is (A0 A1 A2 A3 A4 : Option Addr) (c0 c1 c2 c3 c4 : Nat) (rs : List Rul) (qs : List Que) (tu se sp : Int) (ws : List Int) (sh : List Sha) (os : List Out) (Z : MeeIn A0 A1 A2 A3 A4 c0 c1 c2 c3 c4 rs qs ws sh os) (mem val yes no abst : Int) (ps : List Que) (hv : wdQ rs qs mem = some ps) (hs : (sp == 0) = false) (w : World) (R : MeR w A0 A1 A2 A3 A4 rs qs ws sh os) :
 Calls Tryz.prog 48 #[.agg #[.slice A0 rs.length c0, .slice A1 qs.length c1, .int .i64 tu, .int .i64 se, .int .i64 sp, .slice A2 ws.length c2, .slice A3 sh.length c3, .slice A4 os.length c4], .agg #[.int .i64 8, .int .i64 mem, .int .i64 val, .int .i64 yes, .int .i64 no, .int .i64 abst]] w (ARes none w) := by
 have HR := lh R; have HZ := lh Z; clear R Z; have HV := lh hv; clear hv
 go_in
 go_upto_region 1 with fail
 refine lay3 fun wX hq1 hF hA hZ => ?_
 have HB := hq1; have f' := hF.cs8; have a' := hA.cs6; have z' := hZ.cs8
 go_upto_region 2 with fail
 refine lay1 fun wE hq2 hE => ?_
 replace HB := bth HB hq2; clear f'; replace hF := hF.to hq2; have f' := hF.cs8; clear a'; replace hA := hA.to hq2; have a' := hA.cs6; clear z'; replace hZ := hZ.to hq2; have z' := hZ.cs8
 go_wp2_with fail
 refine (sWithdrawQY_is A0 c0 rs HZ.out.h0 A1 c1 qs HZ.out.h1 HZ.out.k1 mem ps HV.out _ (HR.out.r0.below (bth HB bel)) (HR.out.r1.below (bth HB bel))).mono ?_
 exact zb31
theorem sMk9T_is (A0 A1 A2 A3 A4 : Option Addr) (c0 c1 c2 c3 c4 : Nat) (rs : List Rul) (qs : List Que) (tu se sp : Int) (ws : List Int) (sh : List Sha) (os : List Out) (Z : MeeIn A0 A1 A2 A3 A4 c0 c1 c2 c3 c4 rs qs ws sh os) (mem val yes no abst : Int) (ps : List Que) (hv : dpQ rs qs = some ps) (hl : ps.length < qs.length) (w : World) (R : MeR w A0 A1 A2 A3 A4 rs qs ws sh os) :
 Calls Tryz.prog 48 #[.agg #[.slice A0 rs.length c0, .slice A1 qs.length c1, .int .i64 tu, .int .i64 se, .int .i64 sp, .slice A2 ws.length c2, .slice A3 sh.length c3, .slice A4 os.length c4], .agg #[.int .i64 9, .int .i64 mem, .int .i64 val, .int .i64 yes, .int .i64 no, .int .i64 abst]] w (ARes (some ⟨rs, ps, tu, se, 0, [], [], os⟩) w) := by
 have HR := lh R; have HZ := lh Z; clear R Z; have HV := lh hv; clear hv
 go_in
 go_upto_region 1 with fail
 refine lay3 fun wX hq1 hF hA hZ => ?_
 have HB := hq1; have f' := hF.cs8; have a' := hA.cs6; have z' := hZ.cs8; have hz0' := hZ.lt
 go_upto_region 2 with fail
 refine lay1 fun wE hq2 hE => ?_
 replace HB := bth HB hq2; clear f'; replace hF := hF.to hq2; have f' := hF.cs8; clear a'; replace hA := hA.to hq2; have a' := hA.cs6; clear z'; replace hZ := hZ.to hq2; have z' := hZ.cs8; have he0 := hE.lt
 go_wp2_with fail
 refine (sDropQY_is A0 c0 rs HZ.out.h0 A1 c1 qs HZ.out.h1 HZ.out.n1 HZ.out.k1 ps HV.out _ (HR.out.r0.below (bth HB bel)) (HR.out.r1.below (bth HB bel))).mono ?_
 exact zb12
theorem sMk9F_is (A0 A1 A2 A3 A4 : Option Addr) (c0 c1 c2 c3 c4 : Nat) (rs : List Rul) (qs : List Que) (tu se sp : Int) (ws : List Int) (sh : List Sha) (os : List Out) (Z : MeeIn A0 A1 A2 A3 A4 c0 c1 c2 c3 c4 rs qs ws sh os) (mem val yes no abst : Int) (ps : List Que) (hv : dpQ rs qs = some ps) (hl : ¬ ps.length < qs.length) (w : World) (R : MeR w A0 A1 A2 A3 A4 rs qs ws sh os) :
 Calls Tryz.prog 48 #[.agg #[.slice A0 rs.length c0, .slice A1 qs.length c1, .int .i64 tu, .int .i64 se, .int .i64 sp, .slice A2 ws.length c2, .slice A3 sh.length c3, .slice A4 os.length c4], .agg #[.int .i64 9, .int .i64 mem, .int .i64 val, .int .i64 yes, .int .i64 no, .int .i64 abst]] w (ARes none w) := by
 have HR := lh R; have HZ := lh Z; clear R Z; have HV := lh hv; clear hv
 go_in
 go_upto_region 1 with fail
 refine lay3 fun wX hq1 hF hA hZ => ?_
 have HB := hq1; have f' := hF.cs8; have a' := hA.cs6; have z' := hZ.cs8
 go_upto_region 2 with fail
 refine lay1 fun wE hq2 hE => ?_
 replace HB := bth HB hq2; clear f'; replace hF := hF.to hq2; have f' := hF.cs8; clear a'; replace hA := hA.to hq2; have a' := hA.cs6; clear z'; replace hZ := hZ.to hq2; have z' := hZ.cs8
 go_wp2_with fail
 refine (sDropQY_is A0 c0 rs HZ.out.h0 A1 c1 qs HZ.out.h1 HZ.out.n1 HZ.out.k1 ps HV.out _ (HR.out.r0.below (bth HB bel)) (HR.out.r1.below (bth HB bel))).mono ?_
 rintro e w3 ⟨QA, qc, rfl, OQ, hb3⟩
 have hq3 := be wE hb3; replace HB := bth HB hq3; replace hF := hF.to hq3; clear f'; have f' := hF.cs8; clear a'; replace hZ := hZ.to hq3; clear z'; have z' := hZ.cs8; clear OQ; have fhZ' := hZ.fz8
 go_wp2
 clear f' z'
 refine st8 0 fun W9 tW9 => ?_
 replace HB := tW9.hc HB; replace hZ := tW9.all8 hZ; have z' := hZ.cs8
 refine bodyPost_ret (v := .tuple #[.agg #[.slice none 0 0, .slice none 0 0, .int .i64 0, .int .i64 0, .int .i64 0, .slice none 0 0, .slice none 0 0, .slice none 0 0], .bool false]) (by simp [results, Tryz.results48, go_sem, z']) rfl ?_
 exact ⟨rfl, HB⟩
theorem zb15 {p : Prop} (h : p := by
 rintro e w3 ⟨D0, d0, D1, d1, D2, d2, D3, d3, D4, d4, rfl, OO, hb3⟩
 have hq3 := be wE hb3; replace HB := bth HB hq3; clear f'; clear a'; replace hZ := hZ.to hq3; clear z'; have z' := hZ.cs8; have O0 := OO.o0; have O1 := OO.o1; have O2 := OO.o2; have O3 := OO.o3; have O4 := OO.o4; clear OO; have neO0 := O0.nb hZ; have neO1 := O1.nb hZ; have neO2 := O2.nb hZ; have neO3 := O3.nb hZ; have neO4 := O4.nb hZ; have fhZ' := hZ.fz8
 go_wp2
 clear z'
 refine st8 0 fun W9 tW9 => ?_
 replace HB := tW9.hc HB; replace hZ := tW9.all8 hZ; replace O0 := O0.keptS tW9 neO0; replace O1 := O1.keptS tW9 neO1; replace O2 := O2.keptS tW9 neO2; replace O3 := O3.keptS tW9 neO3; replace O4 := O4.keptS tW9 neO4; have z' := hZ.cs8
 refine bodyPost_ret (v := .tuple #[.agg #[.slice D0 n.rules.length d0, .slice D1 n.pend.length d1, .int .i64 n.turns, .int .i64 n.secs, .int .i64 n.spk, .slice D2 n.wait.length d2, .slice D3 n.shares.length d3, .slice D4 n.outs.length d4], .bool true]) (by simp [results, Tryz.results48, go_sem, z']) rfl ?_
 exact ⟨D0, d0, D1, d1, D2, d2, D3, d3, D4, d4, rfl, ⟨O0.base (by omega), O1.base (by omega), O2.base (by omega), O3.base (by omega), O4.base (by omega)⟩, HB⟩) : p := h
theorem sMk7T_is (A0 A1 A2 A3 A4 : Option Addr) (c0 c1 c2 c3 c4 : Nat) (rs : List Rul) (qs : List Que) (tu se sp : Int) (ws : List Int) (sh : List Sha) (os : List Out) (Z : MeeIn A0 A1 A2 A3 A4 c0 c1 c2 c3 c4 rs qs ws sh os) (mem val yes no abst : Int) (hs : (sp != 0) = false) (n : Mee) (hv : votA ⟨rs, qs, tu, se, sp, ws, sh, os⟩ ⟨7, mem, val, yes, no, abst⟩ = some n) (hp : pendB rs qs = true) (ho : os.length ≤ 12) (w : World) (R : MeR w A0 A1 A2 A3 A4 rs qs ws sh os) :
 Calls Tryz.prog 48 #[.agg #[.slice A0 rs.length c0, .slice A1 qs.length c1, .int .i64 tu, .int .i64 se, .int .i64 sp, .slice A2 ws.length c2, .slice A3 sh.length c3, .slice A4 os.length c4], .agg #[.int .i64 7, .int .i64 mem, .int .i64 val, .int .i64 yes, .int .i64 no, .int .i64 abst]] w (ARes (some n) w) := by
 have HR := lh R; have HZ := lh Z; clear R Z; have HV := lh hv; clear hv
 go_in
 go_upto_region 1 with fail
 refine lay3 fun wX hq1 hF hA hZ => ?_
 have HB := hq1; have f' := hF.cs8; have a' := hA.cs6; have z' := hZ.cs8; have hz0' := hZ.lt
 go_upto_region 2 with fail
 refine lay1 fun wE hq2 hE => ?_
 replace HB := bth HB hq2; clear f'; replace hF := hF.to hq2; have f' := hF.cs8; clear a'; replace hA := hA.to hq2; have a' := hA.cs6; clear z'; replace hZ := hZ.to hq2; have z' := hZ.cs8; have he0 := hE.lt
 go_wp2_with fail
 refine (sVoteY_is A0 A1 A2 A3 A4 c0 c1 c2 c3 c4 rs qs tu se sp ws sh os HZ.out mem val yes no abst hs n HV.out hp ho _ (HR.out.below (bth HB bel))).mono ?_
 exact zb15
theorem zb37 {p : Prop} (h : p := by
 rintro e w3 ⟨rfl, hb3⟩
 have hq3 := be wE hb3; replace HB := bth HB hq3; clear f'; clear a'; replace hZ := hZ.to hq3; clear z'; have z' := hZ.cs8; have fhZ' := hZ.fz8
 go_wp2
 clear z'
 refine st8 0 fun W9 tW9 => ?_
 replace HB := tW9.hc HB; replace hZ := tW9.all8 hZ; have z' := hZ.cs8
 refine bodyPost_ret (v := .tuple #[.agg #[.slice none 0 0, .slice none 0 0, .int .i64 0, .int .i64 0, .int .i64 0, .slice none 0 0, .slice none 0 0, .slice none 0 0], .bool false]) (by simp [results, Tryz.results48, go_sem, z']) rfl ?_
 exact ⟨rfl, HB⟩) : p := h
theorem sMk7F_is (A0 A1 A2 A3 A4 : Option Addr) (c0 c1 c2 c3 c4 : Nat) (rs : List Rul) (qs : List Que) (tu se sp : Int) (ws : List Int) (sh : List Sha) (os : List Out) (Z : MeeIn A0 A1 A2 A3 A4 c0 c1 c2 c3 c4 rs qs ws sh os) (mem val yes no abst : Int) (hv : sp ≠ 0 ∨ votA ⟨rs, qs, tu, se, sp, ws, sh, os⟩ ⟨7, mem, val, yes, no, abst⟩ = none) (w : World) (R : MeR w A0 A1 A2 A3 A4 rs qs ws sh os) :
 Calls Tryz.prog 48 #[.agg #[.slice A0 rs.length c0, .slice A1 qs.length c1, .int .i64 tu, .int .i64 se, .int .i64 sp, .slice A2 ws.length c2, .slice A3 sh.length c3, .slice A4 os.length c4], .agg #[.int .i64 7, .int .i64 mem, .int .i64 val, .int .i64 yes, .int .i64 no, .int .i64 abst]] w (ARes none w) := by
 have HR := lh R; have HZ := lh Z; clear R Z; have HV := lh hv; clear hv
 go_in
 go_upto_region 1 with fail
 refine lay3 fun wX hq1 hF hA hZ => ?_
 have HB := hq1; have f' := hF.cs8; have a' := hA.cs6; have z' := hZ.cs8
 go_upto_region 2 with fail
 refine lay1 fun wE hq2 hE => ?_
 replace HB := bth HB hq2; clear f'; replace hF := hF.to hq2; have f' := hF.cs8; clear a'; replace hA := hA.to hq2; have a' := hA.cs6; clear z'; replace hZ := hZ.to hq2; have z' := hZ.cs8
 go_wp2_with fail
 refine (sVoteF_is A0 A1 A2 A3 A4 c0 c1 c2 c3 c4 rs qs tu se sp ws sh os HZ.out mem val yes no abst HV.out _ (HR.out.below (bth HB bel))).mono ?_
 exact zb37
theorem sMkF_is (A0 A1 A2 A3 A4 : Option Addr) (c0 c1 c2 c3 c4 : Nat) (rs : List Rul) (qs : List Que) (tu se sp : Int) (ws : List Int) (sh : List Sha) (os : List Out) (Z : MeeIn A0 A1 A2 A3 A4 c0 c1 c2 c3 c4 rs qs ws sh os) (kind mem val yes no abst : Int) (g1 : (kind == 1) = false) (g2 : (kind == 2) = false) (g7 : (kind == 7) = false) (g8 : (kind == 8) = false) (g9 : (kind == 9) = false) (o : Option Mee) (w : World) (R : MeR w A0 A1 A2 A3 A4 rs qs ws sh os) (H : ∀ W, Below w.heap.size w W → Calls Tryz.prog 115 #[.agg #[.slice A0 rs.length c0, .slice A1 qs.length c1, .int .i64 tu, .int .i64 se, .int .i64 sp, .slice A2 ws.length c2, .slice A3 sh.length c3, .slice A4 os.length c4], .agg #[.int .i64 kind, .int .i64 mem, .int .i64 val, .int .i64 yes, .int .i64 no, .int .i64 abst]] W (ARes o W)) :
 Calls Tryz.prog 48 #[.agg #[.slice A0 rs.length c0, .slice A1 qs.length c1, .int .i64 tu, .int .i64 se, .int .i64 sp, .slice A2 ws.length c2, .slice A3 sh.length c3, .slice A4 os.length c4], .agg #[.int .i64 kind, .int .i64 mem, .int .i64 val, .int .i64 yes, .int .i64 no, .int .i64 abst]] w (ARes o w) := by
 have HH := lh H; clear H R Z
 cases o with
 | none =>
  go_in
  go_upto_region 1 with fail
  refine lay3 fun wX hq1 hF hA hZ => ?_
  have HB := hq1; have f' := hF.cs8; have a' := hA.cs6; have z' := hZ.cs8
  go_upto_region 2 with fail
  refine lay1 fun wE hq2 hE => ?_
  replace HB := bth HB hq2; clear f'; replace hF := hF.to hq2; have f' := hF.cs8; clear a'; replace hA := hA.to hq2; have a' := hA.cs6; clear z'; replace hZ := hZ.to hq2; have z' := hZ.cs8
  go_wp2_with fail
  refine (HH.out _ (bth HB bel)).mono ?_
  exact zb37
 | some n =>
  go_in
  go_upto_region 1 with fail
  refine lay3 fun wX hq1 hF hA hZ => ?_
  have HB := hq1; have f' := hF.cs8; have a' := hA.cs6; have z' := hZ.cs8; have hz0' := hZ.lt
  go_upto_region 2 with fail
  refine lay1 fun wE hq2 hE => ?_
  replace HB := bth HB hq2; clear f'; replace hF := hF.to hq2; have f' := hF.cs8; clear a'; replace hA := hA.to hq2; have a' := hA.cs6; clear z'; replace hZ := hZ.to hq2; have z' := hZ.cs8; have he0 := hE.lt
  go_wp2_with fail
  refine (HH.out _ (bth HB bel)).mono ?_
  exact zb15
theorem sMk2T_is (A0 A1 A2 A3 A4 : Option Addr) (c0 c1 c2 c3 c4 : Nat) (rs : List Rul) (qs : List Que) (tu se sp : Int) (ws : List Int) (sh : List Sha) (os : List Out) (Z : MeeIn A0 A1 A2 A3 A4 c0 c1 c2 c3 c4 rs qs ws sh os) (mem val yes no abst : Int) (ps : List Que) (hv : sdQ rs qs mem = some ps) (w : World) (R : MeR w A0 A1 A2 A3 A4 rs qs ws sh os) :
 Calls Tryz.prog 48 #[.agg #[.slice A0 rs.length c0, .slice A1 qs.length c1, .int .i64 tu, .int .i64 se, .int .i64 sp, .slice A2 ws.length c2, .slice A3 sh.length c3, .slice A4 os.length c4], .agg #[.int .i64 2, .int .i64 mem, .int .i64 val, .int .i64 yes, .int .i64 no, .int .i64 abst]] w (ARes (some ⟨rs, ps, tu, se, sp, ws, sh, os⟩) w) := by
 have HR := lh R; have HZ := lh Z; clear R Z; have HV := lh hv; clear hv
 go_in
 go_upto_region 1 with fail
 refine lay3 fun wX hq1 hF hA hZ => ?_
 have HB := hq1; have f' := hF.cs8; have a' := hA.cs6; have z' := hZ.cs8; have hz0' := hZ.lt
 go_upto_region 2 with fail
 refine lay1 fun wE hq2 hE => ?_
 replace HB := bth HB hq2; clear f'; replace hF := hF.to hq2; have f' := hF.cs8; clear a'; replace hA := hA.to hq2; have a' := hA.cs6; clear z'; replace hZ := hZ.to hq2; have z' := hZ.cs8; have he0 := hE.lt
 go_wp2_with fail
 refine (sSecondQY_is A0 c0 rs HZ.out.h0 A1 c1 qs HZ.out.h1 HZ.out.n1 mem ps HV.out _ (HR.out.r0.below (bth HB bel)) (HR.out.r1.below (bth HB bel))).mono ?_
 rintro e w3 ⟨QA, qc, rfl, OQ, hb3⟩
 have hq3 := be wE hb3; replace HB := bth HB hq3; replace hF := hF.to hq3; clear f'; have f' := hF.cs8; clear a'; replace hZ := hZ.to hq3; clear z'; have z' := hZ.cs8; have sz2 := hq3.size; have szh := HB.size
 go_wp2_with fail
 refine (l25Own_is A0 A1 A2 A3 A4 c0 c1 c2 c3 c4 rs qs tu se sp ws sh os HZ.out _ (HR.out.below (bth HB bel))).mono ?_
 rintro e w4 ⟨E0, e0, E1, e1, E2, e2, E3, e3, E4, e4, rfl, OO, hb4⟩
 have hq4 := be w3 hb4; replace HB := bth HB hq4; replace OQ := OQ.later hq4; clear f'; replace hZ := hZ.to hq4; clear z'; have z' := hZ.cs8; have sz3 := hq4.size; have szh2 := HB.size
 go_upto_region 13 with fail
 have OP := OO.later (bl1 w4 (.cells #[.slice E0 rs.length e0, .slice E1 qs.length e1, .int .i64 tu, .int .i64 se, .int .i64 sp, .slice E2 ws.length e2, .slice E3 sh.length e3, .slice E4 os.length e4] 32)); clear OO; have hq5 : Below w4.heap.size w4 (World.alloc w4 (.cells #[.slice E0 rs.length e0, .slice E1 qs.length e1, .int .i64 tu, .int .i64 se, .int .i64 sp, .slice E2 ws.length e2, .slice E3 sh.length e3, .slice E4 os.length e4] 32)) := bl1 w4 _
 have hX : Blk (World.alloc w4 (.cells #[.slice E0 rs.length e0, .slice E1 qs.length e1, .int .i64 tu, .int .i64 se, .int .i64 sp, .slice E2 ws.length e2, .slice E3 sh.length e3, .slice E4 os.length e4] 32)) (w4.heap.size) 32 #[.slice E0 rs.length e0, .slice E1 qs.length e1, .int .i64 tu, .int .i64 se, .int .i64 sp, .slice E2 ws.length e2, .slice E3 sh.length e3, .slice E4 os.length e4] := by repeat (first | exact Blk.new _ _ _ | exact Blk.new2 _ _ _ _ | exact Blk.new3 _ _ _ _ _ | exact Blk.new4 _ _ _ _ _ _ | refine Blk.alloc ?_ _)
 replace OQ := OQ.later hq5
 generalize World.alloc w4 (.cells #[.slice E0 rs.length e0, .slice E1 qs.length e1, .int .i64 tu, .int .i64 se, .int .i64 sp, .slice E2 ws.length e2, .slice E3 sh.length e3, .slice E4 os.length e4] 32) = wM at *
 replace HB := bth HB hq5; have x' := hX.cs8; clear z'; replace hZ := hZ.to hq5; have z' := hZ.cs8; have O0 := OP.o0; have O2 := OP.o2; have O3 := OP.o3; have O4 := OP.o4; clear OP; have fhX1 := hX.frozen 1; have neO0 := O0.nb hX; have neOQ := OQ.nb hX; have neO2 := O2.nb hX; have neO3 := O3.nb hX; have neO4 := O4.nb hX
 go_upto_region 14 with fail
 clear z' x'
 refine st1 1 fun W6 tW6 => ?_
 replace HB := tW6.hc HB; replace hZ := tW6.fa hZ; replace hX : Blk W6 (w4.heap.size) 32 #[.slice E0 rs.length e0, .slice QA ps.length qc, .int .i64 tu, .int .i64 se, .int .i64 sp, .slice E2 ws.length e2, .slice E3 sh.length e3, .slice E4 os.length e4] := tW6.own hX; replace OQ := OQ.keptS tW6 neOQ; replace O0 := O0.keptS tW6 neO0; replace O2 := O2.keptS tW6 neO2; replace O3 := O3.keptS tW6 neO3; replace O4 := O4.keptS tW6 neO4
 have z' := hZ.cs8; have x' := hX.cs8; clear neO0 neOQ neO2 neO3 neO4 fhX1; have neO0 := O0.nb hZ; have neOQ := OQ.nb hZ; have neO2 := O2.nb hZ; have neO3 := O3.nb hZ; have neO4 := O4.nb hZ; have fhZ' := hZ.fz8
 go_wp2
 clear z' x'
 refine st8 0 fun W9 tW9 => ?_
 replace HB := tW9.hc HB; replace hZ := tW9.all8 hZ; replace OQ := OQ.keptS tW9 neOQ; replace O0 := O0.keptS tW9 neO0; replace O2 := O2.keptS tW9 neO2; replace O3 := O3.keptS tW9 neO3; replace O4 := O4.keptS tW9 neO4; have z' := hZ.cs8
 refine bodyPost_ret (v := .tuple #[.agg #[.slice E0 rs.length e0, .slice QA ps.length qc, .int .i64 tu, .int .i64 se, .int .i64 sp, .slice E2 ws.length e2, .slice E3 sh.length e3, .slice E4 os.length e4], .bool true]) (by simp [results, Tryz.results48, go_sem, z']) rfl ?_
 exact zb109
theorem sMk2F_is (A0 A1 A2 A3 A4 : Option Addr) (c0 c1 c2 c3 c4 : Nat) (rs : List Rul) (qs : List Que) (tu se sp : Int) (ws : List Int) (sh : List Sha) (os : List Out) (Z : MeeIn A0 A1 A2 A3 A4 c0 c1 c2 c3 c4 rs qs ws sh os) (mem val yes no abst : Int) (hv : sdQ rs qs mem = none)  (w : World) (R : MeR w A0 A1 A2 A3 A4 rs qs ws sh os) :
 Calls Tryz.prog 48 #[.agg #[.slice A0 rs.length c0, .slice A1 qs.length c1, .int .i64 tu, .int .i64 se, .int .i64 sp, .slice A2 ws.length c2, .slice A3 sh.length c3, .slice A4 os.length c4], .agg #[.int .i64 2, .int .i64 mem, .int .i64 val, .int .i64 yes, .int .i64 no, .int .i64 abst]] w (ARes none w) := by
 have HR := lh R; have HZ := lh Z; clear R Z; have HV := lh hv; clear hv
 go_in
 go_upto_region 1 with fail
 refine lay3 fun wX hq1 hF hA hZ => ?_
 have HB := hq1; have f' := hF.cs8; have a' := hA.cs6; have z' := hZ.cs8
 go_upto_region 2 with fail
 refine lay1 fun wE hq2 hE => ?_
 replace HB := bth HB hq2; clear f'; replace hF := hF.to hq2; have f' := hF.cs8; clear a'; replace hA := hA.to hq2; have a' := hA.cs6; clear z'; replace hZ := hZ.to hq2; have z' := hZ.cs8
 go_wp2_with fail
 refine (sSecondQN_is A0 c0 rs HZ.out.h0 A1 c1 qs HZ.out.h1 HZ.out.n1 mem HV.out _ (HR.out.r0.below (bth HB bel)) (HR.out.r1.below (bth HB bel))).mono ?_
 exact zb35
open Go.RowKit Go.G9
theorem z_of {sp : Int} (h : (sp != 0) = false) : (sp == 0) = true := by rw [bne] at h; simpa using h
theorem nz_of {sp : Int} (h : (sp != 0) = true) : (sp == 0) = false := by rw [bne] at h; simpa using h
theorem dpQ_some {rs : List Rul} {qs : List Que} (h : pendB rs qs = true) : dpQ rs qs = some (dpL rs qs) := by rw [dpQ, if_pos h]
theorem dpL_lt {rs : List Rul} {qs : List Que} (h : lstB rs qs = true) : (dpL rs qs).length < qs.length := by
 obtain ⟨j, q, hj, _⟩ := lstB_some h
 rw [dpL, if_pos h, List.length_take]; omega
theorem dpL_eq {rs : List Rul} {qs : List Que} (h : lstB rs qs = false) : ¬ (dpL rs qs).length < qs.length := by
 rw [dpL, h]; simp
theorem spF_form (tu se sp : Int) (ws : List Int) (sh : List Sha) (val : Int) : ∃ p' ws' sh', spF ⟨tu, se, sp, ws, sh⟩ val = ⟨tu, se, p', ws', sh'⟩ := by
 unfold spF; split <;> exact ⟨_, _, _, rfl⟩
theorem zb129 {p : Prop} (h : p := by
 unfold mkA floA; simp only [if_neg k1, if_neg k2, if_neg k3, if_neg k4, if_neg k5, if_neg k6, if_neg k7, if_neg k8, if_neg k9]) : p := h
theorem iMakeA_is (A0 A1 A2 A3 A4 : Option Addr) (c0 c1 c2 c3 c4 : Nat) (rs : List Rul) (qs : List Que) (tu se sp : Int) (ws : List Int) (sh : List Sha) (os : List Out) (Z : MeeIn A0 A1 A2 A3 A4 c0 c1 c2 c3 c4 rs qs ws sh os) (kind mem val yes no abst : Int) (h : MeeOk ⟨rs, qs, tu, se, sp, ws, sh, os⟩) (w : World) (R : MeR w A0 A1 A2 A3 A4 rs qs ws sh os) :
 Calls Tryz.prog 46 #[.agg #[.slice A0 rs.length c0, .slice A1 qs.length c1, .int .i64 tu, .int .i64 se, .int .i64 sp, .slice A2 ws.length c2, .slice A3 sh.length c3, .slice A4 os.length c4], .agg #[.int .i64 kind, .int .i64 mem, .int .i64 val, .int .i64 yes, .int .i64 no, .int .i64 abst]] w (ARes (mkA ⟨rs, qs, tu, se, sp, ws, sh, os⟩ ⟨kind, mem, val, yes, no, abst⟩) w) := by
 have hp : pendB rs qs = true := h.pd
 by_cases k1 : kind = 1
 ·subst k1
  refine iMk1_is A0 A1 A2 A3 A4 c0 c1 c2 c3 c4 rs qs tu se sp ws sh os Z mem val yes no abst _ w R fun W hb => ?_
  have R' := R.below hb
  unfold mkA; rw [if_pos rfl]; dsimp only
  cases hs : (sp != 0)
  ·rw [if_pos (z_of hs)]
   cases hv : mvQ rs qs val mem with
   | none => exact iChP1F_is A0 A1 A2 A3 A4 c0 c1 c2 c3 c4 rs qs tu se sp ws sh os Z mem val yes no abst hv hs W R'
   | some ps => exact iChP1T_is A0 A1 A2 A3 A4 c0 c1 c2 c3 c4 rs qs tu se sp ws sh os Z mem val yes no abst ps hv hs W R'
  ·rw [if_neg (by rw [nz_of hs]; decide)]
   exact iChPS_is A0 A1 A2 A3 A4 c0 c1 c2 c3 c4 rs qs tu se sp ws sh os Z 1 mem val yes no abst hs W R'
 by_cases k2 : kind = 2
 ·subst k2
  have R' := R
  generalize hW : w = W at *
  unfold mkA; rw [if_neg (by decide : ¬ (2 : Int) = 1)]; rw [if_pos rfl]; dsimp only
  cases hv : sdQ rs qs mem with
  | none => exact iMk2F_is A0 A1 A2 A3 A4 c0 c1 c2 c3 c4 rs qs tu se sp ws sh os Z mem val yes no abst hv W R'
  | some ps => exact iMk2T_is A0 A1 A2 A3 A4 c0 c1 c2 c3 c4 rs qs tu se sp ws sh os Z mem val yes no abst ps hv W R'
 by_cases k7 : kind = 7
 ·subst k7
  refine iMk7_is A0 A1 A2 A3 A4 c0 c1 c2 c3 c4 rs qs tu se sp ws sh os Z mem val yes no abst _ w R fun W hb => ?_
  have R' := R.below hb
  unfold mkA; rw [if_neg (by decide : ¬ (7 : Int) = 1)]; rw [if_neg (by decide : ¬ (7 : Int) = 2)]; rw [if_pos rfl]; dsimp only
  cases hs : (sp != 0)
  ·rw [if_pos (z_of hs)]
   cases hv : votA ⟨rs, qs, tu, se, sp, ws, sh, os⟩ ⟨7, mem, val, yes, no, abst⟩ with
   | none => exact iChP7F_is A0 A1 A2 A3 A4 c0 c1 c2 c3 c4 rs qs tu se sp ws sh os Z mem val yes no abst hs hv W R'
   | some n => exact iChP7T_is A0 A1 A2 A3 A4 c0 c1 c2 c3 c4 rs qs tu se sp ws sh os Z mem val yes no abst hs n hv hp h.ol W R'
  ·rw [if_neg (by rw [nz_of hs]; decide)]
   exact iChPS_is A0 A1 A2 A3 A4 c0 c1 c2 c3 c4 rs qs tu se sp ws sh os Z 7 mem val yes no abst hs W R'
 by_cases k8 : kind = 8
 ·subst k8
  refine iMk8_is A0 A1 A2 A3 A4 c0 c1 c2 c3 c4 rs qs tu se sp ws sh os Z mem val yes no abst _ w R fun W hb => ?_
  have R' := R.below hb
  unfold mkA; rw [if_neg (by decide : ¬ (8 : Int) = 1)]; rw [if_neg (by decide : ¬ (8 : Int) = 2)]; rw [if_neg (by decide : ¬ (8 : Int) = 7)]; rw [if_pos rfl]; dsimp only
  cases hs : (sp != 0)
  ·rw [if_pos (z_of hs)]
   cases hv : wdQ rs qs mem with
   | none => exact iChP8F_is A0 A1 A2 A3 A4 c0 c1 c2 c3 c4 rs qs tu se sp ws sh os Z mem val yes no abst hv hs W R'
   | some ps => exact iChP8T_is A0 A1 A2 A3 A4 c0 c1 c2 c3 c4 rs qs tu se sp ws sh os Z mem val yes no abst ps hv hs W R'
  ·rw [if_neg (by rw [nz_of hs]; decide)]
   exact iChPS_is A0 A1 A2 A3 A4 c0 c1 c2 c3 c4 rs qs tu se sp ws sh os Z 8 mem val yes no abst hs W R'
 by_cases k9 : kind = 9
 ·subst k9
  refine iMk9_is A0 A1 A2 A3 A4 c0 c1 c2 c3 c4 rs qs tu se sp ws sh os Z mem val yes no abst _ w R fun W hb => ?_
  have R' := R.below hb
  unfold mkA; rw [if_neg (by decide : ¬ (9 : Int) = 1)]; rw [if_neg (by decide : ¬ (9 : Int) = 2)]; rw [if_neg (by decide : ¬ (9 : Int) = 7)]; rw [if_neg (by decide : ¬ (9 : Int) = 8)]; rw [if_pos rfl]; dsimp only
  cases hs : (sp != 0)
  ·cases hl : lstB rs qs
   ·rw [if_neg (by simp)]
    exact iChP9F_is A0 A1 A2 A3 A4 c0 c1 c2 c3 c4 rs qs tu se sp ws sh os Z mem val yes no abst _ (dpQ_some hp) hs (dpL_eq hl) W R'
   ·rw [if_pos (by rw [z_of hs, hp]; rfl)]
    exact iChP9T_is A0 A1 A2 A3 A4 c0 c1 c2 c3 c4 rs qs tu se sp ws sh os Z mem val yes no abst _ (dpQ_some hp) hs (dpL_lt hl) W R'
  ·rw [if_neg (by rw [nz_of hs]; simp)]
   exact iChPS_is A0 A1 A2 A3 A4 c0 c1 c2 c3 c4 rs qs tu se sp ws sh os Z 9 mem val yes no abst hs W R'
 by_cases k3 : kind = 3
 ·subst k3
  refine iMk3_is A0 A1 A2 A3 A4 c0 c1 c2 c3 c4 rs qs tu se sp ws sh os Z mem val yes no abst _ w R fun W hb => ?_
  have R' := R.below hb
  unfold mkA; rw [if_neg (by decide : ¬ (3 : Int) = 1)]; rw [if_neg (by decide : ¬ (3 : Int) = 2)]; rw [if_neg (by decide : ¬ (3 : Int) = 7)]; rw [if_neg (by decide : ¬ (3 : Int) = 8)]; rw [if_neg (by decide : ¬ (3 : Int) = 9)]; unfold floA; rw [if_pos rfl]; dsimp only
  cases hv : akB ⟨tu, se, sp, ws, sh⟩ mem
  ·rw [if_neg (by simp only [Mee.fl, hv, Bool.false_and]; decide)]
   exact iFlo3F_is A0 A1 A2 A3 A4 c0 c1 c2 c3 c4 rs qs tu se sp ws sh os Z mem val yes no abst hv hp W R'
  ·cases hd : debB rs qs
   ·rw [if_neg (by simp only [hd, Bool.and_false]; decide)]
    exact iFlo3D_is A0 A1 A2 A3 A4 c0 c1 c2 c3 c4 rs qs tu se sp ws sh os Z mem val yes no abst hv hd hp W R'
   ·rw [if_pos (by simp only [Mee.fl, hv, hd, Bool.and_self])]
    exact iFlo3T_is A0 A1 A2 A3 A4 c0 c1 c2 c3 c4 rs qs tu se sp ws sh os Z mem val yes no abst _ _ _ hv rfl hp hd W R'
 by_cases k4 : kind = 4
 ·subst k4
  refine iMk4_is A0 A1 A2 A3 A4 c0 c1 c2 c3 c4 rs qs tu se sp ws sh os Z mem val yes no abst _ w R fun W hb => ?_
  have R' := R.below hb
  unfold mkA; rw [if_neg (by decide : ¬ (4 : Int) = 1)]; rw [if_neg (by decide : ¬ (4 : Int) = 2)]; rw [if_neg (by decide : ¬ (4 : Int) = 7)]; rw [if_neg (by decide : ¬ (4 : Int) = 8)]; rw [if_neg (by decide : ¬ (4 : Int) = 9)]; unfold floA; rw [if_neg (by decide : ¬ (4 : Int) = 3)]; rw [if_pos rfl]; dsimp only
  cases hv : nxB ⟨tu, se, sp, ws, sh⟩
  ·rw [if_neg (by simp only [Mee.fl, hv, Bool.false_and]; decide)]
   exact iFlo4F_is A0 A1 A2 A3 A4 c0 c1 c2 c3 c4 rs qs tu se sp ws sh os Z mem val yes no abst hv hp W R'
  ·cases hd : debB rs qs
   ·rw [if_neg (by simp only [hd, Bool.and_false]; decide)]
    exact iFlo4D_is A0 A1 A2 A3 A4 c0 c1 c2 c3 c4 rs qs tu se sp ws sh os Z mem val yes no abst hv hd hp W R'
   ·rw [if_pos (by simp only [Mee.fl, hv, hd, Bool.and_self])]
    cases hq : nxM ⟨tu, se, sp, ws, sh⟩ with
    | none => exact absurd (nxM_some (f := ⟨tu, se, sp, ws, sh⟩) (by simp only [nxB, Bool.and_eq_true, decide_eq_true_eq] at hv; exact hv.2.2)) (by rw [hq]; simp)
    | some q =>
     simp only [Mee.fl, hq, Option.map_some]
     exact iFlo4T_is A0 A1 A2 A3 A4 c0 c1 c2 c3 c4 rs qs tu se sp ws sh os Z mem val yes no abst q hq _ _ _ hv rfl hp hd W R'
 by_cases k5 : kind = 5
 ·subst k5
  refine iMk5_is A0 A1 A2 A3 A4 c0 c1 c2 c3 c4 rs qs tu se sp ws sh os Z mem val yes no abst _ w R fun W hb => ?_
  have R' := R.below hb
  unfold mkA; rw [if_neg (by decide : ¬ (5 : Int) = 1)]; rw [if_neg (by decide : ¬ (5 : Int) = 2)]; rw [if_neg (by decide : ¬ (5 : Int) = 7)]; rw [if_neg (by decide : ¬ (5 : Int) = 8)]; rw [if_neg (by decide : ¬ (5 : Int) = 9)]; unfold floA; rw [if_neg (by decide : ¬ (5 : Int) = 3)]; rw [if_neg (by decide : ¬ (5 : Int) = 4)]; rw [if_pos rfl]; dsimp only
  cases hv : spB ⟨tu, se, sp, ws, sh⟩ val
  ·rw [if_neg (by simp only [Mee.fl, hv, Bool.false_and]; decide)]
   exact iFlo5F_is A0 A1 A2 A3 A4 c0 c1 c2 c3 c4 rs qs tu se sp ws sh os Z mem val yes no abst hv hp W R'
  ·cases hd : debB rs qs
   ·rw [if_neg (by simp only [hd, Bool.and_false]; decide)]
    exact iFlo5D_is A0 A1 A2 A3 A4 c0 c1 c2 c3 c4 rs qs tu se sp ws sh os Z mem val yes no abst hv hd hp W R'
   ·rw [if_pos (by simp only [Mee.fl, hv, hd, Bool.and_self])]
    obtain ⟨p', ws', sh', he⟩ := spF_form tu se sp ws sh val
    simp only [Mee.fl, he]
    exact iFlo5T_is A0 A1 A2 A3 A4 c0 c1 c2 c3 c4 rs qs tu se sp ws sh os Z mem val yes no abst p' ws' sh' hv he hp hd W R'
 by_cases k6 : kind = 6
 ·subst k6
  refine iMk6_is A0 A1 A2 A3 A4 c0 c1 c2 c3 c4 rs qs tu se sp ws sh os Z mem val yes no abst _ w R fun W hb => ?_
  have R' := R.below hb
  unfold mkA; rw [if_neg (by decide : ¬ (6 : Int) = 1)]; rw [if_neg (by decide : ¬ (6 : Int) = 2)]; rw [if_neg (by decide : ¬ (6 : Int) = 7)]; rw [if_neg (by decide : ¬ (6 : Int) = 8)]; rw [if_neg (by decide : ¬ (6 : Int) = 9)]; unfold floA; rw [if_neg (by decide : ¬ (6 : Int) = 3)]; rw [if_neg (by decide : ¬ (6 : Int) = 4)]; rw [if_neg (by decide : ¬ (6 : Int) = 5)]; rw [if_pos rfl]; dsimp only
  cases hv : yldB ⟨tu, se, sp, ws, sh⟩
  ·rw [if_neg (by simp only [Mee.fl, hv, Bool.false_and]; decide)]
   exact iFlo6F_is A0 A1 A2 A3 A4 c0 c1 c2 c3 c4 rs qs tu se sp ws sh os Z mem val yes no abst hv hp W R'
  ·cases hd : debB rs qs
   ·rw [if_neg (by simp only [hd, Bool.and_false]; decide)]
    exact iFlo6D_is A0 A1 A2 A3 A4 c0 c1 c2 c3 c4 rs qs tu se sp ws sh os Z mem val yes no abst hv hd hp W R'
   ·rw [if_pos (by simp only [Mee.fl, hv, hd, Bool.and_self])]
    exact iFlo6T_is A0 A1 A2 A3 A4 c0 c1 c2 c3 c4 rs qs tu se sp ws sh os Z mem val yes no abst _ _ _ hv rfl hp hd W R'
 have e : mkA ⟨rs, qs, tu, se, sp, ws, sh, os⟩ ⟨kind, mem, val, yes, no, abst⟩ = none := by
  exact zb129
 rw [e]
 exact iMkN_is A0 A1 A2 A3 A4 c0 c1 c2 c3 c4 rs qs tu se sp ws sh os Z kind mem val yes no abst (beq_eq_false_iff_ne.2 k1) (beq_eq_false_iff_ne.2 k2) (beq_eq_false_iff_ne.2 k3) (beq_eq_false_iff_ne.2 k4) (beq_eq_false_iff_ne.2 k5) (beq_eq_false_iff_ne.2 k6) (beq_eq_false_iff_ne.2 k7) (beq_eq_false_iff_ne.2 k8) (beq_eq_false_iff_ne.2 k9) w R
theorem zb145 {p : Prop} (h : p := by
 exact sFlo3D_is A0 A1 A2 A3 A4 c0 c1 c2 c3 c4 rs qs tu se sp ws sh os Z mem val yes no abst hd hp W R') : p := h
theorem sMakeA_is (A0 A1 A2 A3 A4 : Option Addr) (c0 c1 c2 c3 c4 : Nat) (rs : List Rul) (qs : List Que) (tu se sp : Int) (ws : List Int) (sh : List Sha) (os : List Out) (Z : MeeIn A0 A1 A2 A3 A4 c0 c1 c2 c3 c4 rs qs ws sh os) (kind mem val yes no abst : Int) (h : MeeOk ⟨rs, qs, tu, se, sp, ws, sh, os⟩) (w : World) (R : MeR w A0 A1 A2 A3 A4 rs qs ws sh os) :
 Calls Tryz.prog 48 #[.agg #[.slice A0 rs.length c0, .slice A1 qs.length c1, .int .i64 tu, .int .i64 se, .int .i64 sp, .slice A2 ws.length c2, .slice A3 sh.length c3, .slice A4 os.length c4], .agg #[.int .i64 kind, .int .i64 mem, .int .i64 val, .int .i64 yes, .int .i64 no, .int .i64 abst]] w (ARes (mkA ⟨rs, qs, tu, se, sp, ws, sh, os⟩ ⟨kind, mem, val, yes, no, abst⟩) w) := by
 have hp : pendB rs qs = true := h.pd
 by_cases k1 : kind = 1
 ·subst k1
  have R' := R
  generalize hW : w = W at *
  unfold mkA; rw [if_pos rfl]; dsimp only
  cases hs : (sp != 0)
  ·rw [if_pos (z_of hs)]
   cases hv : mvQ rs qs val mem with
   | none => exact sMk1F_is A0 A1 A2 A3 A4 c0 c1 c2 c3 c4 rs qs tu se sp ws sh os Z mem val yes no abst hv W R'
   | some ps => exact sMk1T_is A0 A1 A2 A3 A4 c0 c1 c2 c3 c4 rs qs tu se sp ws sh os Z mem val yes no abst ps hv (z_of hs) W R'
  ·rw [if_neg (by rw [nz_of hs]; decide)]
   cases hv : mvQ rs qs val mem with
   | none => exact sMk1F_is A0 A1 A2 A3 A4 c0 c1 c2 c3 c4 rs qs tu se sp ws sh os Z mem val yes no abst hv W R'
   | some ps => exact sMk1S_is A0 A1 A2 A3 A4 c0 c1 c2 c3 c4 rs qs tu se sp ws sh os Z mem val yes no abst ps hv (nz_of hs) W R'
 by_cases k2 : kind = 2
 ·subst k2
  have R' := R
  generalize hW : w = W at *
  unfold mkA; rw [if_neg (by decide : ¬ (2 : Int) = 1)]; rw [if_pos rfl]; dsimp only
  cases hv : sdQ rs qs mem with
  | none => exact sMk2F_is A0 A1 A2 A3 A4 c0 c1 c2 c3 c4 rs qs tu se sp ws sh os Z mem val yes no abst hv W R'
  | some ps => exact sMk2T_is A0 A1 A2 A3 A4 c0 c1 c2 c3 c4 rs qs tu se sp ws sh os Z mem val yes no abst ps hv W R'
 by_cases k7 : kind = 7
 ·subst k7
  have R' := R
  generalize hW : w = W at *
  unfold mkA; rw [if_neg (by decide : ¬ (7 : Int) = 1)]; rw [if_neg (by decide : ¬ (7 : Int) = 2)]; rw [if_pos rfl]; dsimp only
  cases hs : (sp != 0)
  ·rw [if_pos (z_of hs)]
   cases hv : votA ⟨rs, qs, tu, se, sp, ws, sh, os⟩ ⟨7, mem, val, yes, no, abst⟩ with
   | none => exact sMk7F_is A0 A1 A2 A3 A4 c0 c1 c2 c3 c4 rs qs tu se sp ws sh os Z mem val yes no abst (Or.inr hv) W R'
   | some n => exact sMk7T_is A0 A1 A2 A3 A4 c0 c1 c2 c3 c4 rs qs tu se sp ws sh os Z mem val yes no abst hs n hv hp h.ol W R'
  ·rw [if_neg (by rw [nz_of hs]; decide)]
   exact sMk7F_is A0 A1 A2 A3 A4 c0 c1 c2 c3 c4 rs qs tu se sp ws sh os Z mem val yes no abst (Or.inl (by simpa using hs)) W R'
 by_cases k8 : kind = 8
 ·subst k8
  have R' := R
  generalize hW : w = W at *
  unfold mkA; rw [if_neg (by decide : ¬ (8 : Int) = 1)]; rw [if_neg (by decide : ¬ (8 : Int) = 2)]; rw [if_neg (by decide : ¬ (8 : Int) = 7)]; rw [if_pos rfl]; dsimp only
  cases hs : (sp != 0)
  ·rw [if_pos (z_of hs)]
   cases hv : wdQ rs qs mem with
   | none => exact sMk8F_is A0 A1 A2 A3 A4 c0 c1 c2 c3 c4 rs qs tu se sp ws sh os Z mem val yes no abst hv W R'
   | some ps => exact sMk8T_is A0 A1 A2 A3 A4 c0 c1 c2 c3 c4 rs qs tu se sp ws sh os Z mem val yes no abst ps hv (z_of hs) W R'
  ·rw [if_neg (by rw [nz_of hs]; decide)]
   cases hv : wdQ rs qs mem with
   | none => exact sMk8F_is A0 A1 A2 A3 A4 c0 c1 c2 c3 c4 rs qs tu se sp ws sh os Z mem val yes no abst hv W R'
   | some ps => exact sMk8S_is A0 A1 A2 A3 A4 c0 c1 c2 c3 c4 rs qs tu se sp ws sh os Z mem val yes no abst ps hv (nz_of hs) W R'
 by_cases k9 : kind = 9
 ·subst k9
  have R' := R
  generalize hW : w = W at *
  unfold mkA; rw [if_neg (by decide : ¬ (9 : Int) = 1)]; rw [if_neg (by decide : ¬ (9 : Int) = 2)]; rw [if_neg (by decide : ¬ (9 : Int) = 7)]; rw [if_neg (by decide : ¬ (9 : Int) = 8)]; rw [if_pos rfl]; dsimp only
  cases hl : lstB rs qs
  ·rw [if_neg (by simp)]
   exact sMk9F_is A0 A1 A2 A3 A4 c0 c1 c2 c3 c4 rs qs tu se sp ws sh os Z mem val yes no abst _ (dpQ_some hp) (dpL_eq hl) W R'
  ·have h0 : sp = 0 := spk_of_lst h hl
   rw [if_pos (by rw [h0, hp]; rfl)]
   exact sMk9T_is A0 A1 A2 A3 A4 c0 c1 c2 c3 c4 rs qs tu se sp ws sh os Z mem val yes no abst _ (dpQ_some hp) (dpL_lt hl) W R'
 by_cases k3 : kind = 3
 ·subst k3
  refine sMkF_is A0 A1 A2 A3 A4 c0 c1 c2 c3 c4 rs qs tu se sp ws sh os Z 3 mem val yes no abst (by decide) (by decide) (by decide) (by decide) (by decide) _ w R fun W hb => ?_
  have R' := R.below hb
  unfold mkA; rw [if_neg (by decide : ¬ (3 : Int) = 1)]; rw [if_neg (by decide : ¬ (3 : Int) = 2)]; rw [if_neg (by decide : ¬ (3 : Int) = 7)]; rw [if_neg (by decide : ¬ (3 : Int) = 8)]; rw [if_neg (by decide : ¬ (3 : Int) = 9)]; unfold floA; rw [if_pos rfl]; dsimp only
  cases hv : akB ⟨tu, se, sp, ws, sh⟩ mem
  ·rw [if_neg (by simp only [Mee.fl, hv, Bool.false_and]; decide)]
   cases hd : debB rs qs
   ·exact zb145
   ·exact sFlo3F_is A0 A1 A2 A3 A4 c0 c1 c2 c3 c4 rs qs tu se sp ws sh os Z mem val yes no abst hv hd hp W R'
  ·cases hd : debB rs qs
   ·rw [if_neg (by simp only [hd, Bool.and_false]; decide)]
    exact zb145
   ·rw [if_pos (by simp only [Mee.fl, hv, hd, Bool.and_self])]
    exact sFlo3T_is A0 A1 A2 A3 A4 c0 c1 c2 c3 c4 rs qs tu se sp ws sh os Z mem val yes no abst _ _ _ hv rfl hp hd W R'
 by_cases k4 : kind = 4
 ·subst k4
  refine sMkF_is A0 A1 A2 A3 A4 c0 c1 c2 c3 c4 rs qs tu se sp ws sh os Z 4 mem val yes no abst (by decide) (by decide) (by decide) (by decide) (by decide) _ w R fun W hb => ?_
  have R' := R.below hb
  unfold mkA; rw [if_neg (by decide : ¬ (4 : Int) = 1)]; rw [if_neg (by decide : ¬ (4 : Int) = 2)]; rw [if_neg (by decide : ¬ (4 : Int) = 7)]; rw [if_neg (by decide : ¬ (4 : Int) = 8)]; rw [if_neg (by decide : ¬ (4 : Int) = 9)]; unfold floA; rw [if_neg (by decide : ¬ (4 : Int) = 3)]; rw [if_pos rfl]; dsimp only
  cases hv : nxB ⟨tu, se, sp, ws, sh⟩
  ·rw [if_neg (by simp only [Mee.fl, hv, Bool.false_and]; decide)]
   exact sFlo4F_is A0 A1 A2 A3 A4 c0 c1 c2 c3 c4 rs qs tu se sp ws sh os Z mem val yes no abst hv hp W R'
  ·cases hd : debB rs qs
   ·rw [if_neg (by simp only [hd, Bool.and_false]; decide)]
    exact absurd (deb_of_wait h (by simp only [nxB, Bool.and_eq_true, decide_eq_true_eq] at hv; exact hv.2.2)) (by show ¬ debB rs qs = true; rw [hd]; decide)
   ·rw [if_pos (by simp only [Mee.fl, hv, hd, Bool.and_self])]
    cases hq : nxM ⟨tu, se, sp, ws, sh⟩ with
    | none => exact absurd (nxM_some (f := ⟨tu, se, sp, ws, sh⟩) (by simp only [nxB, Bool.and_eq_true, decide_eq_true_eq] at hv; exact hv.2.2)) (by rw [hq]; simp)
    | some q =>
     simp only [Mee.fl, hq, Option.map_some]
     exact sFlo4T_is A0 A1 A2 A3 A4 c0 c1 c2 c3 c4 rs qs tu se sp ws sh os Z mem val yes no abst q hq _ _ _ hv rfl hp hd W R'
 by_cases k5 : kind = 5
 ·subst k5
  refine sMkF_is A0 A1 A2 A3 A4 c0 c1 c2 c3 c4 rs qs tu se sp ws sh os Z 5 mem val yes no abst (by decide) (by decide) (by decide) (by decide) (by decide) _ w R fun W hb => ?_
  have R' := R.below hb
  unfold mkA; rw [if_neg (by decide : ¬ (5 : Int) = 1)]; rw [if_neg (by decide : ¬ (5 : Int) = 2)]; rw [if_neg (by decide : ¬ (5 : Int) = 7)]; rw [if_neg (by decide : ¬ (5 : Int) = 8)]; rw [if_neg (by decide : ¬ (5 : Int) = 9)]; unfold floA; rw [if_neg (by decide : ¬ (5 : Int) = 3)]; rw [if_neg (by decide : ¬ (5 : Int) = 4)]; rw [if_pos rfl]; dsimp only
  cases hv : spB ⟨tu, se, sp, ws, sh⟩ val
  ·rw [if_neg (by simp only [Mee.fl, hv, Bool.false_and]; decide)]
   exact sFlo5F_is A0 A1 A2 A3 A4 c0 c1 c2 c3 c4 rs qs tu se sp ws sh os Z mem val yes no abst hv hp W R'
  ·cases hd : debB rs qs
   ·rw [if_neg (by simp only [hd, Bool.and_false]; decide)]
    exact absurd (deb_of_spk h (spB_parts hv).2.1) (by show ¬ debB rs qs = true; rw [hd]; decide)
   ·rw [if_pos (by simp only [Mee.fl, hv, hd, Bool.and_self])]
    obtain ⟨p', ws', sh', he⟩ := spF_form tu se sp ws sh val
    simp only [Mee.fl, he]
    exact sFlo5T_is A0 A1 A2 A3 A4 c0 c1 c2 c3 c4 rs qs tu se sp ws sh os Z mem val yes no abst p' ws' sh' hv he hp hd W R'
 by_cases k6 : kind = 6
 ·subst k6
  refine sMkF_is A0 A1 A2 A3 A4 c0 c1 c2 c3 c4 rs qs tu se sp ws sh os Z 6 mem val yes no abst (by decide) (by decide) (by decide) (by decide) (by decide) _ w R fun W hb => ?_
  have R' := R.below hb
  unfold mkA; rw [if_neg (by decide : ¬ (6 : Int) = 1)]; rw [if_neg (by decide : ¬ (6 : Int) = 2)]; rw [if_neg (by decide : ¬ (6 : Int) = 7)]; rw [if_neg (by decide : ¬ (6 : Int) = 8)]; rw [if_neg (by decide : ¬ (6 : Int) = 9)]; unfold floA; rw [if_neg (by decide : ¬ (6 : Int) = 3)]; rw [if_neg (by decide : ¬ (6 : Int) = 4)]; rw [if_neg (by decide : ¬ (6 : Int) = 5)]; rw [if_pos rfl]; dsimp only
  cases hv : yldB ⟨tu, se, sp, ws, sh⟩
  ·rw [if_neg (by simp only [Mee.fl, hv, Bool.false_and]; decide)]
   exact sFlo6F_is A0 A1 A2 A3 A4 c0 c1 c2 c3 c4 rs qs tu se sp ws sh os Z mem val yes no abst hv hp W R'
  ·cases hd : debB rs qs
   ·rw [if_neg (by simp only [hd, Bool.and_false]; decide)]
    exact absurd (deb_of_spk h (by simp only [yldB, Bool.and_eq_true, Bool.not_eq_true', beq_eq_false_iff_ne] at hv; exact hv.2)) (by show ¬ debB rs qs = true; rw [hd]; decide)
   ·rw [if_pos (by simp only [Mee.fl, hv, hd, Bool.and_self])]
    exact sFlo6T_is A0 A1 A2 A3 A4 c0 c1 c2 c3 c4 rs qs tu se sp ws sh os Z mem val yes no abst _ _ _ hv rfl hp hd W R'
 have e : mkA ⟨rs, qs, tu, se, sp, ws, sh, os⟩ ⟨kind, mem, val, yes, no, abst⟩ = none := by
  exact zb129
 rw [e]
 refine sMkF_is A0 A1 A2 A3 A4 c0 c1 c2 c3 c4 rs qs tu se sp ws sh os Z kind mem val yes no abst (beq_eq_false_iff_ne.2 k1) (beq_eq_false_iff_ne.2 k2) (beq_eq_false_iff_ne.2 k7) (beq_eq_false_iff_ne.2 k8) (beq_eq_false_iff_ne.2 k9) none w R fun W hb => ?_
 exact sFloK_is A0 A1 A2 A3 A4 c0 c1 c2 c3 c4 rs qs tu se sp ws sh os Z kind mem val yes no abst (beq_eq_false_iff_ne.2 k3) (beq_eq_false_iff_ne.2 k4) (beq_eq_false_iff_ne.2 k5) (beq_eq_false_iff_ne.2 k6) hp W (R.below hb)
open Go.RowKit Go.G9
theorem zb45 {p : Prop} (h : p := by
 clear z'; have z' := hZ.cs8; have fhZ' := hZ.fz8
 go_wp2
 clear z'
 refine st8 0 fun W9 tW9 => ?_
 replace HB := tW9.hc HB; replace hZ := tW9.all8 hZ; have z' := hZ.cs8
 refine bodyPost_ret (v := .tuple #[.agg #[.slice none 0 0, .slice none 0 0, .int .i64 0, .int .i64 0, .int .i64 0, .slice none 0 0, .slice none 0 0, .slice none 0 0], .bool false]) (by simp [results, Tryz.results9, go_sem, z']) rfl ?_
 exact ⟨rfl, HB⟩) : p := h
theorem iMake_is (A0 A1 A2 A3 A4 : Option Addr) (c0 c1 c2 c3 c4 : Nat) (rs : List Rul) (qs : List Que) (tu se sp : Int) (ws : List Int) (sh : List Sha) (os : List Out) (Z : MeeIn A0 A1 A2 A3 A4 c0 c1 c2 c3 c4 rs qs ws sh os) (kind mem val yes no abst : Int) (w : World) (R : MeR w A0 A1 A2 A3 A4 rs qs ws sh os) :
 Calls Tryz.prog 9 #[.agg #[.slice A0 rs.length c0, .slice A1 qs.length c1, .int .i64 tu, .int .i64 se, .int .i64 sp, .slice A2 ws.length c2, .slice A3 sh.length c3, .slice A4 os.length c4], .agg #[.int .i64 kind, .int .i64 mem, .int .i64 val, .int .i64 yes, .int .i64 no, .int .i64 abst]] w (ARes (if meetB ⟨rs, qs, tu, se, sp, ws, sh, os⟩ then mkA ⟨rs, qs, tu, se, sp, ws, sh, os⟩ ⟨kind, mem, val, yes, no, abst⟩ else none) w) := by
 have HR := lh R; have HZ := lh Z
 cases hm : meetP rs qs tu se sp ws sh os
 case false =>
  rw [if_neg (by rw [meetB]; dsimp only; rw [hm]; decide)]
  have HM := lh hm; clear R Z hm
  go_in
  go_upto_region 1 with fail
  refine lay3 fun wX hq1 hF hA hZ => ?_
  have HB := hq1; have f' := hF.cs8; have z' := hZ.cs8
  go_wp2_with fail
  refine (iMeet_is rs qs tu se sp ws sh os A0 A1 A2 A3 A4 c0 c1 c2 c3 c4 HZ.out.h0 HZ.out.h1 HZ.out.h2 HZ.out.h3 HZ.out.h4 _ HM.out _ (HR.out.r0.below (bth HB bel)) (HR.out.r1.below (bth HB bel)) (HR.out.r2.below (bth HB bel)) (HR.out.r3.below (bth HB bel)) (HR.out.r4.below (bth HB bel)) HZ.out.k0 HZ.out.k2).mono ?_
  rintro e w2 ⟨rfl, hb2⟩
  have hq2 := be wX hb2; replace HB := bth HB hq2; clear f'; replace hZ := hZ.to hq2
  exact zb45
 case true =>
  rw [if_pos (show meetB ⟨rs, qs, tu, se, sp, ws, sh, os⟩ = true from hm)]
  have hok := mee_ok.1 (show meetB ⟨rs, qs, tu, se, sp, ws, sh, os⟩ = true from hm); have HH := lh (fun W (hb : Below w.heap.size w W) => iMakeA_is A0 A1 A2 A3 A4 c0 c1 c2 c3 c4 rs qs tu se sp ws sh os Z kind mem val yes no abst hok W (R.below hb)); have HM := lh hm; clear R Z hm hok
  generalize mkA ⟨rs, qs, tu, se, sp, ws, sh, os⟩ ⟨kind, mem, val, yes, no, abst⟩ = o at *
  cases o with
  | none =>
   go_in
   go_upto_region 1 with fail
   refine lay3 fun wX hq1 hF hA hZ => ?_
   have HB := hq1; have f' := hF.cs8; have a' := hA.cs6; have z' := hZ.cs8
   go_wp2_with fail
   refine (iMeet_is rs qs tu se sp ws sh os A0 A1 A2 A3 A4 c0 c1 c2 c3 c4 HZ.out.h0 HZ.out.h1 HZ.out.h2 HZ.out.h3 HZ.out.h4 _ HM.out _ (HR.out.r0.below (bth HB bel)) (HR.out.r1.below (bth HB bel)) (HR.out.r2.below (bth HB bel)) (HR.out.r3.below (bth HB bel)) (HR.out.r4.below (bth HB bel)) HZ.out.k0 HZ.out.k2).mono ?_
   rintro e w2 ⟨rfl, hb2⟩
   have hq2 := be wX hb2; replace HB := bth HB hq2; replace hF := hF.to hq2; clear f'; have f' := hF.cs8; replace hA := hA.to hq2; clear a'; have a' := hA.cs6; replace hZ := hZ.to hq2; clear z'; have z' := hZ.cs8
   go_wp2_with fail
   refine (HH.out _ (bth HB bel)).mono ?_
   rintro e w3 ⟨rfl, hb3⟩
   have hq3 := be w2 hb3; replace HB := bth HB hq3; clear f'; clear a'; replace hZ := hZ.to hq3
   exact zb45
  | some n =>
   go_in
   go_upto_region 1 with fail
   refine lay3 fun wX hq1 hF hA hZ => ?_
   have HB := hq1; have f' := hF.cs8; have a' := hA.cs6; have z' := hZ.cs8; have hz0' := hZ.lt
   go_wp2_with fail
   refine (iMeet_is rs qs tu se sp ws sh os A0 A1 A2 A3 A4 c0 c1 c2 c3 c4 HZ.out.h0 HZ.out.h1 HZ.out.h2 HZ.out.h3 HZ.out.h4 _ HM.out _ (HR.out.r0.below (bth HB bel)) (HR.out.r1.below (bth HB bel)) (HR.out.r2.below (bth HB bel)) (HR.out.r3.below (bth HB bel)) (HR.out.r4.below (bth HB bel)) HZ.out.k0 HZ.out.k2).mono ?_
   rintro e w2 ⟨rfl, hb2⟩
   have hq2 := be wX hb2; replace HB := bth HB hq2; replace hF := hF.to hq2; clear f'; have f' := hF.cs8; replace hA := hA.to hq2; clear a'; have a' := hA.cs6; replace hZ := hZ.to hq2; clear z'; have z' := hZ.cs8; have szq9 := hq2.size
   go_wp2_with fail
   refine (HH.out _ (bth HB bel)).mono ?_
   rintro e w3 ⟨D0, d0, D1, d1, D2, d2, D3, d3, D4, d4, rfl, OO, hb3⟩
   have hq3 := be w2 hb3; replace HB := bth HB hq3; clear f'; clear a'; replace hZ := hZ.to hq3; clear z'; have z' := hZ.cs8; have O0 := OO.o0; have O1 := OO.o1; have O2 := OO.o2; have O3 := OO.o3; have O4 := OO.o4; clear OO; have neO0 := O0.nb hZ; have neO1 := O1.nb hZ; have neO2 := O2.nb hZ; have neO3 := O3.nb hZ; have neO4 := O4.nb hZ; have fhZ' := hZ.fz8
   go_wp2
   clear z'
   refine st8 0 fun W9 tW9 => ?_
   replace HB := tW9.hc HB; replace hZ := tW9.all8 hZ; replace O0 := O0.keptS tW9 neO0; replace O1 := O1.keptS tW9 neO1; replace O2 := O2.keptS tW9 neO2; replace O3 := O3.keptS tW9 neO3; replace O4 := O4.keptS tW9 neO4; have z' := hZ.cs8
   refine bodyPost_ret (v := .tuple #[.agg #[.slice D0 n.rules.length d0, .slice D1 n.pend.length d1, .int .i64 n.turns, .int .i64 n.secs, .int .i64 n.spk, .slice D2 n.wait.length d2, .slice D3 n.shares.length d3, .slice D4 n.outs.length d4], .bool true]) (by simp [results, Tryz.results9, go_sem, z']) rfl ?_
   exact zb108
open Go.RowKit Go.G9
def zMee : Mee := ⟨[], [], 0, 0, 0, [], [], []⟩
theorem zMee_len : zMee.rules.length ≤ 8 ∧ zMee.pend.length ≤ 6 ∧ zMee.wait.length ≤ 10 ∧ zMee.shares.length ≤ 99 ∧ zMee.outs.length ≤ 12 := by simp [zMee]
end Go.Proofs.YtjimibkgocieoaaGreat
