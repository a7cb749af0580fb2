/- Texts of the proof: walks of the functions, and what they compute. -/
import Derived.Test.YtjimibkgocieoaaGreatRb19
import Derived.Test.YtjimibkgocieoaaGreatRb0
import Derived.Test.YtjimibkgocieoaaGreatRb17
set_option maxHeartbeats 16000000
set_option maxRecDepth 100000
namespace Go.Proofs.YtjimibkgocieoaaGreat
open Go.RowKit Go.G9
theorem zb50 {p : Prop} (h : p := by
 have fhZ' := hZ.fz8
 go_wp2
 clear f' z'
 refine st8 0 fun W9 tW9 => ?_
 replace HB := tW9.hc HB; replace hZ := tW9.all8 hZ; have z' := hZ.cs8
 refine bodyPost_ret (v := .tuple #[.agg #[.slice none 0 0, .slice none 0 0, .int .i64 0, .int .i64 0, .int .i64 0, .slice none 0 0, .slice none 0 0, .slice none 0 0], .bool false]) (by simp [results, Tryz.results106, go_sem, z']) rfl ?_
 exact ⟨rfl, HB⟩) : p := h
theorem iChPS_is (A0 A1 A2 A3 A4 : Option Addr) (c0 c1 c2 c3 c4 : Nat) (rs : List Rul) (qs : List Que) (tu se sp : Int) (ws : List Int) (sh : List Sha) (os : List Out) (Z : MeeIn A0 A1 A2 A3 A4 c0 c1 c2 c3 c4 rs qs ws sh os) (kind mem val yes no abst : Int) (hs : (sp != 0) = true) (w : World) (R : MeR w A0 A1 A2 A3 A4 rs qs ws sh os) :
 Calls Tryz.prog 106 #[.agg #[.slice A0 rs.length c0, .slice A1 qs.length c1, .int .i64 tu, .int .i64 se, .int .i64 sp, .slice A2 ws.length c2, .slice A3 sh.length c3, .slice A4 os.length c4], .agg #[.int .i64 kind, .int .i64 mem, .int .i64 val, .int .i64 yes, .int .i64 no, .int .i64 abst]] w (ARes none w) := by
 clear R Z
 go_in
 go_upto_region 1 with fail
 refine lay3 fun wX hq1 hF hA hZ => ?_
 have HB := hq1; have f' := hF.cs8; have z' := hZ.cs8
 exact zb50
theorem zb11 {p : Prop} (h : p := by
 rintro e w2 ⟨QA, qc, rfl, OQ, hb2⟩
 have hq2 := be wX hb2; replace HB := bth HB hq2; replace hF := hF.to hq2; clear f'; have f' := hF.cs8; clear a'; replace hZ := hZ.to hq2; clear z'; have z' := hZ.cs8; have szh := HB.size
 go_wp2_with fail
 refine (withPending_is A0 A1 A2 A3 A4 c0 c1 c2 c3 c4 rs qs tu se sp ws sh os HZ.out QA ps.length qc _ (HR.out.below (bth HB bel))).mono ?_
 rintro e w3 ⟨D0, d0, D4, d4, rfl, O0, O4, hb3⟩
 have hq3 := be w2 hb3; replace HB := bth HB hq3; replace OQ := OQ.later hq3; clear f'; replace hZ := hZ.to hq3; clear z'; have z' := hZ.cs8; have neO0 := O0.nb hZ; have neOQ := OQ.nb hZ; have neO4 := O4.nb hZ; have fhZ' := hZ.fz8
 go_wp2
 clear z'
 refine st8 0 fun W9 tW9 => ?_
 replace HB := tW9.hc HB; replace hZ := tW9.all8 hZ; replace OQ := OQ.keptS tW9 neOQ; replace O0 := O0.keptS tW9 neO0; replace O4 := O4.keptS tW9 neO4; have z' := hZ.cs8
 refine bodyPost_ret (v := .tuple #[.agg #[.slice D0 rs.length d0, .slice QA ps.length qc, .int .i64 tu, .int .i64 se, .int .i64 0, .slice none 0 0, .slice none 0 0, .slice D4 os.length d4], .bool true]) (by simp [results, Tryz.results106, go_sem, z']) rfl ?_
 exact ⟨D0, d0, QA, qc, none, 0, none, 0, D4, d4, rfl, ⟨O0.base (by omega), OQ.base (by omega), OwnV.nil, OwnV.nil, O4.base (by omega)⟩, HB⟩) : p := h
theorem iChP1T_is (A0 A1 A2 A3 A4 : Option Addr) (c0 c1 c2 c3 c4 : Nat) (rs : List Rul) (qs : List Que) (tu se sp : Int) (ws : List Int) (sh : List Sha) (os : List Out) (Z : MeeIn A0 A1 A2 A3 A4 c0 c1 c2 c3 c4 rs qs ws sh os) (mem val yes no abst : Int) (ps : List Que) (hv : mvQ rs qs val mem = some ps) (hs : (sp != 0) = false) (w : World) (R : MeR w A0 A1 A2 A3 A4 rs qs ws sh os) :
 Calls Tryz.prog 106 #[.agg #[.slice A0 rs.length c0, .slice A1 qs.length c1, .int .i64 tu, .int .i64 se, .int .i64 sp, .slice A2 ws.length c2, .slice A3 sh.length c3, .slice A4 os.length c4], .agg #[.int .i64 1, .int .i64 mem, .int .i64 val, .int .i64 yes, .int .i64 no, .int .i64 abst]] w (ARes (some ⟨rs, ps, tu, se, 0, [], [], os⟩) w) := by
 have HR := lh R; have HZ := lh Z; clear R Z; have HV := lh hv; clear hv
 go_in
 go_upto_region 1 with fail
 refine lay3 fun wX hq1 hF hA hZ => ?_
 have HB := hq1; have f' := hF.cs8; have a' := hA.cs6; have z' := hZ.cs8; have hz0' := hZ.lt
 go_wp2_with fail
 refine (iMoveQY_is A0 c0 rs HZ.out.h0 HZ.out.k0 A1 c1 qs HZ.out.h1 HZ.out.n1 val mem ps HV.out _ (HR.out.r0.below (bth HB bel)) (HR.out.r1.below (bth HB bel))).mono ?_
 exact zb11
theorem zb34 {p : Prop} (h : p := by
 rintro e w2 ⟨QA, qc, rfl, hb2⟩
 have hq2 := be wX hb2; replace HB := bth HB hq2; clear f'; clear a'; replace hZ := hZ.to hq2; clear z'; have z' := hZ.cs8; have fhZ' := hZ.fz8
 go_wp2
 clear z'
 refine st8 0 fun W9 tW9 => ?_
 replace HB := tW9.hc HB; replace hZ := tW9.all8 hZ; have z' := hZ.cs8
 refine bodyPost_ret (v := .tuple #[.agg #[.slice none 0 0, .slice none 0 0, .int .i64 0, .int .i64 0, .int .i64 0, .slice none 0 0, .slice none 0 0, .slice none 0 0], .bool false]) (by simp [results, Tryz.results106, go_sem, z']) rfl ?_
 exact ⟨rfl, HB⟩) : p := h
theorem iChP1F_is (A0 A1 A2 A3 A4 : Option Addr) (c0 c1 c2 c3 c4 : Nat) (rs : List Rul) (qs : List Que) (tu se sp : Int) (ws : List Int) (sh : List Sha) (os : List Out) (Z : MeeIn A0 A1 A2 A3 A4 c0 c1 c2 c3 c4 rs qs ws sh os) (mem val yes no abst : Int) (hv : mvQ rs qs val mem = none) (hs : (sp != 0) = false) (w : World) (R : MeR w A0 A1 A2 A3 A4 rs qs ws sh os) :
 Calls Tryz.prog 106 #[.agg #[.slice A0 rs.length c0, .slice A1 qs.length c1, .int .i64 tu, .int .i64 se, .int .i64 sp, .slice A2 ws.length c2, .slice A3 sh.length c3, .slice A4 os.length c4], .agg #[.int .i64 1, .int .i64 mem, .int .i64 val, .int .i64 yes, .int .i64 no, .int .i64 abst]] w (ARes none w) := by
 have HR := lh R; have HZ := lh Z; clear R Z; have HV := lh hv; clear hv
 go_in
 go_upto_region 1 with fail
 refine lay3 fun wX hq1 hF hA hZ => ?_
 have HB := hq1; have f' := hF.cs8; have a' := hA.cs6; have z' := hZ.cs8
 go_wp2_with fail
 refine (iMoveQN_is A0 c0 rs HZ.out.h0 HZ.out.k0 A1 c1 qs HZ.out.h1 HZ.out.n1 val mem HV.out _ (HR.out.r0.below (bth HB bel)) (HR.out.r1.below (bth HB bel))).mono ?_
 exact zb34
theorem iChP8T_is (A0 A1 A2 A3 A4 : Option Addr) (c0 c1 c2 c3 c4 : Nat) (rs : List Rul) (qs : List Que) (tu se sp : Int) (ws : List Int) (sh : List Sha) (os : List Out) (Z : MeeIn A0 A1 A2 A3 A4 c0 c1 c2 c3 c4 rs qs ws sh os) (mem val yes no abst : Int) (ps : List Que) (hv : wdQ rs qs mem = some ps) (hs : (sp != 0) = false) (w : World) (R : MeR w A0 A1 A2 A3 A4 rs qs ws sh os) :
 Calls Tryz.prog 106 #[.agg #[.slice A0 rs.length c0, .slice A1 qs.length c1, .int .i64 tu, .int .i64 se, .int .i64 sp, .slice A2 ws.length c2, .slice A3 sh.length c3, .slice A4 os.length c4], .agg #[.int .i64 8, .int .i64 mem, .int .i64 val, .int .i64 yes, .int .i64 no, .int .i64 abst]] w (ARes (some ⟨rs, ps, tu, se, 0, [], [], os⟩) w) := by
 have HR := lh R; have HZ := lh Z; clear R Z; have HV := lh hv; clear hv
 go_in
 go_upto_region 1 with fail
 refine lay3 fun wX hq1 hF hA hZ => ?_
 have HB := hq1; have f' := hF.cs8; have a' := hA.cs6; have z' := hZ.cs8; have hz0' := hZ.lt
 go_wp2_with fail
 refine (iWithdrawQY_is A0 c0 rs HZ.out.h0 HZ.out.k0 A1 c1 qs HZ.out.h1 HZ.out.k1 mem ps HV.out _ (HR.out.r0.below (bth HB bel)) (HR.out.r1.below (bth HB bel))).mono ?_
 exact zb11
theorem iChP8F_is (A0 A1 A2 A3 A4 : Option Addr) (c0 c1 c2 c3 c4 : Nat) (rs : List Rul) (qs : List Que) (tu se sp : Int) (ws : List Int) (sh : List Sha) (os : List Out) (Z : MeeIn A0 A1 A2 A3 A4 c0 c1 c2 c3 c4 rs qs ws sh os) (mem val yes no abst : Int) (hv : wdQ rs qs mem = none) (hs : (sp != 0) = false) (w : World) (R : MeR w A0 A1 A2 A3 A4 rs qs ws sh os) :
 Calls Tryz.prog 106 #[.agg #[.slice A0 rs.length c0, .slice A1 qs.length c1, .int .i64 tu, .int .i64 se, .int .i64 sp, .slice A2 ws.length c2, .slice A3 sh.length c3, .slice A4 os.length c4], .agg #[.int .i64 8, .int .i64 mem, .int .i64 val, .int .i64 yes, .int .i64 no, .int .i64 abst]] w (ARes none w) := by
 have HR := lh R; have HZ := lh Z; clear R Z; have HV := lh hv; clear hv
 go_in
 go_upto_region 1 with fail
 refine lay3 fun wX hq1 hF hA hZ => ?_
 have HB := hq1; have f' := hF.cs8; have a' := hA.cs6; have z' := hZ.cs8
 go_wp2_with fail
 refine (iWithdrawQN_is A0 c0 rs HZ.out.h0 HZ.out.k0 A1 c1 qs HZ.out.h1 HZ.out.k1 mem HV.out _ (HR.out.r0.below (bth HB bel)) (HR.out.r1.below (bth HB bel))).mono ?_
 exact zb34
theorem iChP9T_is (A0 A1 A2 A3 A4 : Option Addr) (c0 c1 c2 c3 c4 : Nat) (rs : List Rul) (qs : List Que) (tu se sp : Int) (ws : List Int) (sh : List Sha) (os : List Out) (Z : MeeIn A0 A1 A2 A3 A4 c0 c1 c2 c3 c4 rs qs ws sh os) (mem val yes no abst : Int) (ps : List Que) (hv : dpQ rs qs = some ps) (hs : (sp != 0) = false) (hl : ps.length < qs.length) (w : World) (R : MeR w A0 A1 A2 A3 A4 rs qs ws sh os) :
 Calls Tryz.prog 106 #[.agg #[.slice A0 rs.length c0, .slice A1 qs.length c1, .int .i64 tu, .int .i64 se, .int .i64 sp, .slice A2 ws.length c2, .slice A3 sh.length c3, .slice A4 os.length c4], .agg #[.int .i64 9, .int .i64 mem, .int .i64 val, .int .i64 yes, .int .i64 no, .int .i64 abst]] w (ARes (some ⟨rs, ps, tu, se, 0, [], [], os⟩) w) := by
 have HR := lh R; have HZ := lh Z; clear R Z; have HV := lh hv; clear hv
 go_in
 go_upto_region 1 with fail
 refine lay3 fun wX hq1 hF hA hZ => ?_
 have HB := hq1; have f' := hF.cs8; have a' := hA.cs6; have z' := hZ.cs8; have hz0' := hZ.lt
 go_wp2_with fail
 refine (iDropQY_is A0 c0 rs HZ.out.h0 HZ.out.k0 A1 c1 qs HZ.out.h1 HZ.out.n1 ps HV.out _ (HR.out.r0.below (bth HB bel)) (HR.out.r1.below (bth HB bel))).mono ?_
 exact zb11
theorem iChP9F_is (A0 A1 A2 A3 A4 : Option Addr) (c0 c1 c2 c3 c4 : Nat) (rs : List Rul) (qs : List Que) (tu se sp : Int) (ws : List Int) (sh : List Sha) (os : List Out) (Z : MeeIn A0 A1 A2 A3 A4 c0 c1 c2 c3 c4 rs qs ws sh os) (mem val yes no abst : Int) (ps : List Que) (hv : dpQ rs qs = some ps) (hs : (sp != 0) = false) (hl : ¬ ps.length < qs.length) (w : World) (R : MeR w A0 A1 A2 A3 A4 rs qs ws sh os) :
 Calls Tryz.prog 106 #[.agg #[.slice A0 rs.length c0, .slice A1 qs.length c1, .int .i64 tu, .int .i64 se, .int .i64 sp, .slice A2 ws.length c2, .slice A3 sh.length c3, .slice A4 os.length c4], .agg #[.int .i64 9, .int .i64 mem, .int .i64 val, .int .i64 yes, .int .i64 no, .int .i64 abst]] w (ARes none w) := by
 have HR := lh R; have HZ := lh Z; clear R Z; have HV := lh hv; clear hv
 go_in
 go_upto_region 1 with fail
 refine lay3 fun wX hq1 hF hA hZ => ?_
 have HB := hq1; have f' := hF.cs8; have a' := hA.cs6; have z' := hZ.cs8
 go_wp2_with fail
 refine (iDropQY_is A0 c0 rs HZ.out.h0 HZ.out.k0 A1 c1 qs HZ.out.h1 HZ.out.n1 ps HV.out _ (HR.out.r0.below (bth HB bel)) (HR.out.r1.below (bth HB bel))).mono ?_
 rintro e w2 ⟨QA, qc, rfl, OQ, hb2⟩
 have hq2 := be wX hb2; replace HB := bth HB hq2; replace hF := hF.to hq2; clear f'; have f' := hF.cs8; clear a'; replace hZ := hZ.to hq2; clear z'; have z' := hZ.cs8; clear OQ
 exact zb50
theorem zb108 {p : Prop} (h : p := by
 exact ⟨D0, d0, D1, d1, D2, d2, D3, d3, D4, d4, rfl, ⟨O0.base (by omega), O1.base (by omega), O2.base (by omega), O3.base (by omega), O4.base (by omega)⟩, HB⟩) : p := h
theorem iChP7T_is (A0 A1 A2 A3 A4 : Option Addr) (c0 c1 c2 c3 c4 : Nat) (rs : List Rul) (qs : List Que) (tu se sp : Int) (ws : List Int) (sh : List Sha) (os : List Out) (Z : MeeIn A0 A1 A2 A3 A4 c0 c1 c2 c3 c4 rs qs ws sh os) (mem val yes no abst : Int) (hs : (sp != 0) = false) (n : Mee) (hv : votA ⟨rs, qs, tu, se, sp, ws, sh, os⟩ ⟨7, mem, val, yes, no, abst⟩ = some n) (hp : pendB rs qs = true) (ho : os.length ≤ 12) (w : World) (R : MeR w A0 A1 A2 A3 A4 rs qs ws sh os) :
 Calls Tryz.prog 106 #[.agg #[.slice A0 rs.length c0, .slice A1 qs.length c1, .int .i64 tu, .int .i64 se, .int .i64 sp, .slice A2 ws.length c2, .slice A3 sh.length c3, .slice A4 os.length c4], .agg #[.int .i64 7, .int .i64 mem, .int .i64 val, .int .i64 yes, .int .i64 no, .int .i64 abst]] w (ARes (some n) w) := by
 have HR := lh R; have HZ := lh Z; clear R Z; have HV := lh hv; clear hv
 go_in
 go_upto_region 1 with fail
 refine lay3 fun wX hq1 hF hA hZ => ?_
 have HB := hq1; have f' := hF.cs8; have a' := hA.cs6; have z' := hZ.cs8; have hz0' := hZ.lt
 go_wp2_with fail
 refine (iVoteY_is A0 A1 A2 A3 A4 c0 c1 c2 c3 c4 rs qs tu se sp ws sh os HZ.out mem val yes no abst n HV.out hp ho _ (HR.out.below (bth HB bel))).mono ?_
 rintro e w2 ⟨D0, d0, D1, d1, D2, d2, D3, d3, D4, d4, rfl, OO, hb2⟩
 have hq2 := be wX hb2; replace HB := bth HB hq2; clear f'; clear a'; replace hZ := hZ.to hq2; clear z'; have z' := hZ.cs8; have O0 := OO.o0; have O1 := OO.o1; have O2 := OO.o2; have O3 := OO.o3; have O4 := OO.o4; clear OO; have neO0 := O0.nb hZ; have neO1 := O1.nb hZ; have neO2 := O2.nb hZ; have neO3 := O3.nb hZ; have neO4 := O4.nb hZ; have fhZ' := hZ.fz8
 go_wp2
 clear z'
 refine st8 0 fun W9 tW9 => ?_
 replace HB := tW9.hc HB; replace hZ := tW9.all8 hZ; replace O0 := O0.keptS tW9 neO0; replace O1 := O1.keptS tW9 neO1; replace O2 := O2.keptS tW9 neO2; replace O3 := O3.keptS tW9 neO3; replace O4 := O4.keptS tW9 neO4; have z' := hZ.cs8
 refine bodyPost_ret (v := .tuple #[.agg #[.slice D0 n.rules.length d0, .slice D1 n.pend.length d1, .int .i64 n.turns, .int .i64 n.secs, .int .i64 n.spk, .slice D2 n.wait.length d2, .slice D3 n.shares.length d3, .slice D4 n.outs.length d4], .bool true]) (by simp [results, Tryz.results106, go_sem, z']) rfl ?_
 exact zb108
theorem iChP7F_is (A0 A1 A2 A3 A4 : Option Addr) (c0 c1 c2 c3 c4 : Nat) (rs : List Rul) (qs : List Que) (tu se sp : Int) (ws : List Int) (sh : List Sha) (os : List Out) (Z : MeeIn A0 A1 A2 A3 A4 c0 c1 c2 c3 c4 rs qs ws sh os) (mem val yes no abst : Int) (hs : (sp != 0) = false) (hv : votA ⟨rs, qs, tu, se, sp, ws, sh, os⟩ ⟨7, mem, val, yes, no, abst⟩ = none) (w : World) (R : MeR w A0 A1 A2 A3 A4 rs qs ws sh os) :
 Calls Tryz.prog 106 #[.agg #[.slice A0 rs.length c0, .slice A1 qs.length c1, .int .i64 tu, .int .i64 se, .int .i64 sp, .slice A2 ws.length c2, .slice A3 sh.length c3, .slice A4 os.length c4], .agg #[.int .i64 7, .int .i64 mem, .int .i64 val, .int .i64 yes, .int .i64 no, .int .i64 abst]] w (ARes none w) := by
 have HR := lh R; have HZ := lh Z; clear R Z; have HV := lh hv; clear hv
 go_in
 go_upto_region 1 with fail
 refine lay3 fun wX hq1 hF hA hZ => ?_
 have HB := hq1; have f' := hF.cs8; have a' := hA.cs6; have z' := hZ.cs8
 go_wp2_with fail
 refine (iVoteF_is A0 A1 A2 A3 A4 c0 c1 c2 c3 c4 rs qs tu se sp ws sh os HZ.out mem val yes no abst HV.out _ (HR.out.below (bth HB bel))).mono ?_
 rintro e w2 ⟨rfl, hb2⟩
 have hq2 := be wX hb2; replace HB := bth HB hq2; clear f'; clear a'; replace hZ := hZ.to hq2; clear z'; have z' := hZ.cs8; have fhZ' := hZ.fz8
 go_wp2
 clear z'
 refine st8 0 fun W9 tW9 => ?_
 replace HB := tW9.hc HB; replace hZ := tW9.all8 hZ; have z' := hZ.cs8
 refine bodyPost_ret (v := .tuple #[.agg #[.slice none 0 0, .slice none 0 0, .int .i64 0, .int .i64 0, .int .i64 0, .slice none 0 0, .slice none 0 0, .slice none 0 0], .bool false]) (by simp [results, Tryz.results106, go_sem, z']) rfl ?_
 exact ⟨rfl, HB⟩
open Go.RowKit Go.G9
theorem zb4 {p : Prop} (h : p := by
 clear H R Z
 cases o with
 | none =>
  go_in
  go_upto_region 1 with fail
  refine lay3 fun wX hq1 hF hA hZ => ?_
  have HB := hq1; have f' := hF.cs8; have a' := hA.cs6; have z' := hZ.cs8
  go_wp2_with fail
  refine (HH.out _ (bth HB bel)).mono ?_
  rintro e w2 ⟨rfl, hb2⟩
  have hq2 := be wX hb2; replace HB := bth HB hq2; clear f'; clear a'; replace hZ := hZ.to hq2; clear z'; have z' := hZ.cs8; have fhZ' := hZ.fz8
  go_wp2
  clear z'
  refine st8 0 fun W9 tW9 => ?_
  replace HB := tW9.hc HB; replace hZ := tW9.all8 hZ; have z' := hZ.cs8
  refine bodyPost_ret (v := .tuple #[.agg #[.slice none 0 0, .slice none 0 0, .int .i64 0, .int .i64 0, .int .i64 0, .slice none 0 0, .slice none 0 0, .slice none 0 0], .bool false]) (by simp [results, Tryz.results46, go_sem, z']) rfl ?_
  exact ⟨rfl, HB⟩
 | some n =>
  go_in
  go_upto_region 1 with fail
  refine lay3 fun wX hq1 hF hA hZ => ?_
  have HB := hq1; have f' := hF.cs8; have a' := hA.cs6; have z' := hZ.cs8; have hz0' := hZ.lt
  go_wp2_with fail
  refine (HH.out _ (bth HB bel)).mono ?_
  rintro e w2 ⟨D0, d0, D1, d1, D2, d2, D3, d3, D4, d4, rfl, OO, hb2⟩
  have hq2 := be wX hb2; replace HB := bth HB hq2; clear f'; clear a'; replace hZ := hZ.to hq2; clear z'; have z' := hZ.cs8; have O0 := OO.o0; have O1 := OO.o1; have O2 := OO.o2; have O3 := OO.o3; have O4 := OO.o4; clear OO; have neO0 := O0.nb hZ; have neO1 := O1.nb hZ; have neO2 := O2.nb hZ; have neO3 := O3.nb hZ; have neO4 := O4.nb hZ; have fhZ' := hZ.fz8
  go_wp2
  clear z'
  refine st8 0 fun W9 tW9 => ?_
  replace HB := tW9.hc HB; replace hZ := tW9.all8 hZ; replace O0 := O0.keptS tW9 neO0; replace O1 := O1.keptS tW9 neO1; replace O2 := O2.keptS tW9 neO2; replace O3 := O3.keptS tW9 neO3; replace O4 := O4.keptS tW9 neO4; have z' := hZ.cs8
  refine bodyPost_ret (v := .tuple #[.agg #[.slice D0 n.rules.length d0, .slice D1 n.pend.length d1, .int .i64 n.turns, .int .i64 n.secs, .int .i64 n.spk, .slice D2 n.wait.length d2, .slice D3 n.shares.length d3, .slice D4 n.outs.length d4], .bool true]) (by simp [results, Tryz.results46, go_sem, z']) rfl ?_
  exact ⟨D0, d0, D1, d1, D2, d2, D3, d3, D4, d4, rfl, ⟨O0.base (by omega), O1.base (by omega), O2.base (by omega), O3.base (by omega), O4.base (by omega)⟩, HB⟩) : p := h
theorem iMk1_is (A0 A1 A2 A3 A4 : Option Addr) (c0 c1 c2 c3 c4 : Nat) (rs : List Rul) (qs : List Que) (tu se sp : Int) (ws : List Int) (sh : List Sha) (os : List Out) (Z : MeeIn A0 A1 A2 A3 A4 c0 c1 c2 c3 c4 rs qs ws sh os) (mem val yes no abst : Int) (o : Option Mee) (w : World) (R : MeR w A0 A1 A2 A3 A4 rs qs ws sh os) (H : ∀ W, Below w.heap.size w W → Calls Tryz.prog 106 #[.agg #[.slice A0 rs.length c0, .slice A1 qs.length c1, .int .i64 tu, .int .i64 se, .int .i64 sp, .slice A2 ws.length c2, .slice A3 sh.length c3, .slice A4 os.length c4], .agg #[.int .i64 1, .int .i64 mem, .int .i64 val, .int .i64 yes, .int .i64 no, .int .i64 abst]] W (ARes o W)) :
 Calls Tryz.prog 46 #[.agg #[.slice A0 rs.length c0, .slice A1 qs.length c1, .int .i64 tu, .int .i64 se, .int .i64 sp, .slice A2 ws.length c2, .slice A3 sh.length c3, .slice A4 os.length c4], .agg #[.int .i64 1, .int .i64 mem, .int .i64 val, .int .i64 yes, .int .i64 no, .int .i64 abst]] w (ARes o w) := by
 have HH := lh H
 exact zb4
theorem iMk7_is (A0 A1 A2 A3 A4 : Option Addr) (c0 c1 c2 c3 c4 : Nat) (rs : List Rul) (qs : List Que) (tu se sp : Int) (ws : List Int) (sh : List Sha) (os : List Out) (Z : MeeIn A0 A1 A2 A3 A4 c0 c1 c2 c3 c4 rs qs ws sh os) (mem val yes no abst : Int) (o : Option Mee) (w : World) (R : MeR w A0 A1 A2 A3 A4 rs qs ws sh os) (H : ∀ W, Below w.heap.size w W → Calls Tryz.prog 106 #[.agg #[.slice A0 rs.length c0, .slice A1 qs.length c1, .int .i64 tu, .int .i64 se, .int .i64 sp, .slice A2 ws.length c2, .slice A3 sh.length c3, .slice A4 os.length c4], .agg #[.int .i64 7, .int .i64 mem, .int .i64 val, .int .i64 yes, .int .i64 no, .int .i64 abst]] W (ARes o W)) :
 Calls Tryz.prog 46 #[.agg #[.slice A0 rs.length c0, .slice A1 qs.length c1, .int .i64 tu, .int .i64 se, .int .i64 sp, .slice A2 ws.length c2, .slice A3 sh.length c3, .slice A4 os.length c4], .agg #[.int .i64 7, .int .i64 mem, .int .i64 val, .int .i64 yes, .int .i64 no, .int .i64 abst]] w (ARes o w) := by
 have HH := lh H
 exact zb4
theorem iMk8_is (A0 A1 A2 A3 A4 : Option Addr) (c0 c1 c2 c3 c4 : Nat) (rs : List Rul) (qs : List Que) (tu se sp : Int) (ws : List Int) (sh : List Sha) (os : List Out) (Z : MeeIn A0 A1 A2 A3 A4 c0 c1 c2 c3 c4 rs qs ws sh os) (mem val yes no abst : Int) (o : Option Mee) (w : World) (R : MeR w A0 A1 A2 A3 A4 rs qs ws sh os) (H : ∀ W, Below w.heap.size w W → Calls Tryz.prog 106 #[.agg #[.slice A0 rs.length c0, .slice A1 qs.length c1, .int .i64 tu, .int .i64 se, .int .i64 sp, .slice A2 ws.length c2, .slice A3 sh.length c3, .slice A4 os.length c4], .agg #[.int .i64 8, .int .i64 mem, .int .i64 val, .int .i64 yes, .int .i64 no, .int .i64 abst]] W (ARes o W)) :
 Calls Tryz.prog 46 #[.agg #[.slice A0 rs.length c0, .slice A1 qs.length c1, .int .i64 tu, .int .i64 se, .int .i64 sp, .slice A2 ws.length c2, .slice A3 sh.length c3, .slice A4 os.length c4], .agg #[.int .i64 8, .int .i64 mem, .int .i64 val, .int .i64 yes, .int .i64 no, .int .i64 abst]] w (ARes o w) := by
 have HH := lh H
 exact zb4
theorem iMk9_is (A0 A1 A2 A3 A4 : Option Addr) (c0 c1 c2 c3 c4 : Nat) (rs : List Rul) (qs : List Que) (tu se sp : Int) (ws : List Int) (sh : List Sha) (os : List Out) (Z : MeeIn A0 A1 A2 A3 A4 c0 c1 c2 c3 c4 rs qs ws sh os) (mem val yes no abst : Int) (o : Option Mee) (w : World) (R : MeR w A0 A1 A2 A3 A4 rs qs ws sh os) (H : ∀ W, Below w.heap.size w W → Calls Tryz.prog 106 #[.agg #[.slice A0 rs.length c0, .slice A1 qs.length c1, .int .i64 tu, .int .i64 se, .int .i64 sp, .slice A2 ws.length c2, .slice A3 sh.length c3, .slice A4 os.length c4], .agg #[.int .i64 9, .int .i64 mem, .int .i64 val, .int .i64 yes, .int .i64 no, .int .i64 abst]] W (ARes o W)) :
 Calls Tryz.prog 46 #[.agg #[.slice A0 rs.length c0, .slice A1 qs.length c1, .int .i64 tu, .int .i64 se, .int .i64 sp, .slice A2 ws.length c2, .slice A3 sh.length c3, .slice A4 os.length c4], .agg #[.int .i64 9, .int .i64 mem, .int .i64 val, .int .i64 yes, .int .i64 no, .int .i64 abst]] w (ARes o w) := by
 have HH := lh H
 exact zb4
theorem iMk3_is (A0 A1 A2 A3 A4 : Option Addr) (c0 c1 c2 c3 c4 : Nat) (rs : List Rul) (qs : List Que) (tu se sp : Int) (ws : List Int) (sh : List Sha) (os : List Out) (Z : MeeIn A0 A1 A2 A3 A4 c0 c1 c2 c3 c4 rs qs ws sh os) (mem val yes no abst : Int) (o : Option Mee) (w : World) (R : MeR w A0 A1 A2 A3 A4 rs qs ws sh os) (H : ∀ W, Below w.heap.size w W → Calls Tryz.prog 107 #[.agg #[.slice A0 rs.length c0, .slice A1 qs.length c1, .int .i64 tu, .int .i64 se, .int .i64 sp, .slice A2 ws.length c2, .slice A3 sh.length c3, .slice A4 os.length c4], .agg #[.int .i64 3, .int .i64 mem, .int .i64 val, .int .i64 yes, .int .i64 no, .int .i64 abst]] W (ARes o W)) :
 Calls Tryz.prog 46 #[.agg #[.slice A0 rs.length c0, .slice A1 qs.length c1, .int .i64 tu, .int .i64 se, .int .i64 sp, .slice A2 ws.length c2, .slice A3 sh.length c3, .slice A4 os.length c4], .agg #[.int .i64 3, .int .i64 mem, .int .i64 val, .int .i64 yes, .int .i64 no, .int .i64 abst]] w (ARes o w) := by
 have HH := lh H
 exact zb4
theorem iMk4_is (A0 A1 A2 A3 A4 : Option Addr) (c0 c1 c2 c3 c4 : Nat) (rs : List Rul) (qs : List Que) (tu se sp : Int) (ws : List Int) (sh : List Sha) (os : List Out) (Z : MeeIn A0 A1 A2 A3 A4 c0 c1 c2 c3 c4 rs qs ws sh os) (mem val yes no abst : Int) (o : Option Mee) (w : World) (R : MeR w A0 A1 A2 A3 A4 rs qs ws sh os) (H : ∀ W, Below w.heap.size w W → Calls Tryz.prog 107 #[.agg #[.slice A0 rs.length c0, .slice A1 qs.length c1, .int .i64 tu, .int .i64 se, .int .i64 sp, .slice A2 ws.length c2, .slice A3 sh.length c3, .slice A4 os.length c4], .agg #[.int .i64 4, .int .i64 mem, .int .i64 val, .int .i64 yes, .int .i64 no, .int .i64 abst]] W (ARes o W)) :
 Calls Tryz.prog 46 #[.agg #[.slice A0 rs.length c0, .slice A1 qs.length c1, .int .i64 tu, .int .i64 se, .int .i64 sp, .slice A2 ws.length c2, .slice A3 sh.length c3, .slice A4 os.length c4], .agg #[.int .i64 4, .int .i64 mem, .int .i64 val, .int .i64 yes, .int .i64 no, .int .i64 abst]] w (ARes o w) := by
 have HH := lh H
 exact zb4
theorem iMk5_is (A0 A1 A2 A3 A4 : Option Addr) (c0 c1 c2 c3 c4 : Nat) (rs : List Rul) (qs : List Que) (tu se sp : Int) (ws : List Int) (sh : List Sha) (os : List Out) (Z : MeeIn A0 A1 A2 A3 A4 c0 c1 c2 c3 c4 rs qs ws sh os) (mem val yes no abst : Int) (o : Option Mee) (w : World) (R : MeR w A0 A1 A2 A3 A4 rs qs ws sh os) (H : ∀ W, Below w.heap.size w W → Calls Tryz.prog 107 #[.agg #[.slice A0 rs.length c0, .slice A1 qs.length c1, .int .i64 tu, .int .i64 se, .int .i64 sp, .slice A2 ws.length c2, .slice A3 sh.length c3, .slice A4 os.length c4], .agg #[.int .i64 5, .int .i64 mem, .int .i64 val, .int .i64 yes, .int .i64 no, .int .i64 abst]] W (ARes o W)) :
 Calls Tryz.prog 46 #[.agg #[.slice A0 rs.length c0, .slice A1 qs.length c1, .int .i64 tu, .int .i64 se, .int .i64 sp, .slice A2 ws.length c2, .slice A3 sh.length c3, .slice A4 os.length c4], .agg #[.int .i64 5, .int .i64 mem, .int .i64 val, .int .i64 yes, .int .i64 no, .int .i64 abst]] w (ARes o w) := by
 have HH := lh H
 exact zb4
theorem iMk6_is (A0 A1 A2 A3 A4 : Option Addr) (c0 c1 c2 c3 c4 : Nat) (rs : List Rul) (qs : List Que) (tu se sp : Int) (ws : List Int) (sh : List Sha) (os : List Out) (Z : MeeIn A0 A1 A2 A3 A4 c0 c1 c2 c3 c4 rs qs ws sh os) (mem val yes no abst : Int) (o : Option Mee) (w : World) (R : MeR w A0 A1 A2 A3 A4 rs qs ws sh os) (H : ∀ W, Below w.heap.size w W → Calls Tryz.prog 107 #[.agg #[.slice A0 rs.length c0, .slice A1 qs.length c1, .int .i64 tu, .int .i64 se, .int .i64 sp, .slice A2 ws.length c2, .slice A3 sh.length c3, .slice A4 os.length c4], .agg #[.int .i64 6, .int .i64 mem, .int .i64 val, .int .i64 yes, .int .i64 no, .int .i64 abst]] W (ARes o W)) :
 Calls Tryz.prog 46 #[.agg #[.slice A0 rs.length c0, .slice A1 qs.length c1, .int .i64 tu, .int .i64 se, .int .i64 sp, .slice A2 ws.length c2, .slice A3 sh.length c3, .slice A4 os.length c4], .agg #[.int .i64 6, .int .i64 mem, .int .i64 val, .int .i64 yes, .int .i64 no, .int .i64 abst]] w (ARes o w) := by
 have HH := lh H
 exact zb4
theorem zb109 {p : Prop} (h : p := by
 exact ⟨E0, e0, QA, qc, E2, e2, E3, e3, E4, e4, rfl, ⟨O0.base (by omega), OQ.base (by omega), O2.base (by omega), O3.base (by omega), O4.base (by omega)⟩, HB⟩) : p := h
theorem iMk2T_is (A0 A1 A2 A3 A4 : Option Addr) (c0 c1 c2 c3 c4 : Nat) (rs : List Rul) (qs : List Que) (tu se sp : Int) (ws : List Int) (sh : List Sha) (os : List Out) (Z : MeeIn A0 A1 A2 A3 A4 c0 c1 c2 c3 c4 rs qs ws sh os) (mem val yes no abst : Int) (ps : List Que) (hv : sdQ rs qs mem = some ps) (w : World) (R : MeR w A0 A1 A2 A3 A4 rs qs ws sh os) :
 Calls Tryz.prog 46 #[.agg #[.slice A0 rs.length c0, .slice A1 qs.length c1, .int .i64 tu, .int .i64 se, .int .i64 sp, .slice A2 ws.length c2, .slice A3 sh.length c3, .slice A4 os.length c4], .agg #[.int .i64 2, .int .i64 mem, .int .i64 val, .int .i64 yes, .int .i64 no, .int .i64 abst]] w (ARes (some ⟨rs, ps, tu, se, sp, ws, sh, os⟩) w) := by
 have HR := lh R; have HZ := lh Z; clear R Z; have HV := lh hv; clear hv
 go_in
 go_upto_region 1 with fail
 refine lay3 fun wX hq1 hF hA hZ => ?_
 have HB := hq1; have f' := hF.cs8; have a' := hA.cs6; have z' := hZ.cs8; have hz0' := hZ.lt
 go_wp2_with fail
 refine (iSecondQY_is A0 c0 rs HZ.out.h0 HZ.out.k0 A1 c1 qs HZ.out.h1 HZ.out.n1 mem ps HV.out _ (HR.out.r0.below (bth HB bel)) (HR.out.r1.below (bth HB bel))).mono ?_
 rintro e w2 ⟨QA, qc, rfl, OQ, hb2⟩
 have hq2 := be wX hb2; replace HB := bth HB hq2; replace hF := hF.to hq2; clear f'; have f' := hF.cs8; clear a'; replace hZ := hZ.to hq2; clear z'; have z' := hZ.cs8; have sz2 := hq2.size; have szh := HB.size
 go_wp2_with fail
 refine (newMee_is A0 A1 A2 A3 A4 c0 c1 c2 c3 c4 rs qs tu se sp ws sh os HZ.out _ (HR.out.below (bth HB bel))).mono ?_
 rintro e w3 ⟨E0, e0, E1, e1, E2, e2, E3, e3, E4, e4, rfl, OO, hb3⟩
 have hq3 := be w2 hb3; replace HB := bth HB hq3; replace OQ := OQ.later hq3; clear f'; replace hZ := hZ.to hq3; clear z'; have z' := hZ.cs8; have sz3 := hq3.size; have szh2 := HB.size
 go_upto_region 17 with fail
 have OP := OO.later (bl1 w3 (.cells #[.slice E0 rs.length e0, .slice E1 qs.length e1, .int .i64 tu, .int .i64 se, .int .i64 sp, .slice E2 ws.length e2, .slice E3 sh.length e3, .slice E4 os.length e4] 32)); clear OO; have hq4 : Below w3.heap.size w3 (World.alloc w3 (.cells #[.slice E0 rs.length e0, .slice E1 qs.length e1, .int .i64 tu, .int .i64 se, .int .i64 sp, .slice E2 ws.length e2, .slice E3 sh.length e3, .slice E4 os.length e4] 32)) := bl1 w3 _
 have hX : Blk (World.alloc w3 (.cells #[.slice E0 rs.length e0, .slice E1 qs.length e1, .int .i64 tu, .int .i64 se, .int .i64 sp, .slice E2 ws.length e2, .slice E3 sh.length e3, .slice E4 os.length e4] 32)) (w3.heap.size) 32 #[.slice E0 rs.length e0, .slice E1 qs.length e1, .int .i64 tu, .int .i64 se, .int .i64 sp, .slice E2 ws.length e2, .slice E3 sh.length e3, .slice E4 os.length e4] := by repeat (first | exact Blk.new _ _ _ | exact Blk.new2 _ _ _ _ | exact Blk.new3 _ _ _ _ _ | exact Blk.new4 _ _ _ _ _ _ | refine Blk.alloc ?_ _)
 replace OQ := OQ.later hq4
 generalize World.alloc w3 (.cells #[.slice E0 rs.length e0, .slice E1 qs.length e1, .int .i64 tu, .int .i64 se, .int .i64 sp, .slice E2 ws.length e2, .slice E3 sh.length e3, .slice E4 os.length e4] 32) = wM at *
 replace HB := bth HB hq4; have x' := hX.cs8; clear z'; replace hZ := hZ.to hq4; have z' := hZ.cs8; have O0 := OP.o0; have O2 := OP.o2; have O3 := OP.o3; have O4 := OP.o4; clear OP; have fhX1 := hX.frozen 1; have neO0 := O0.nb hX; have neOQ := OQ.nb hX; have neO2 := O2.nb hX; have neO3 := O3.nb hX; have neO4 := O4.nb hX
 go_upto_region 18 with fail
 clear z' x'
 refine st1 1 fun W6 tW6 => ?_
 replace HB := tW6.hc HB; replace hZ := tW6.fa hZ; replace hX : Blk W6 (w3.heap.size) 32 #[.slice E0 rs.length e0, .slice QA ps.length qc, .int .i64 tu, .int .i64 se, .int .i64 sp, .slice E2 ws.length e2, .slice E3 sh.length e3, .slice E4 os.length e4] := tW6.own hX; replace OQ := OQ.keptS tW6 neOQ; replace O0 := O0.keptS tW6 neO0; replace O2 := O2.keptS tW6 neO2; replace O3 := O3.keptS tW6 neO3; replace O4 := O4.keptS tW6 neO4
 have z' := hZ.cs8; have x' := hX.cs8; clear neO0 neOQ neO2 neO3 neO4 fhX1; have neO0 := O0.nb hZ; have neOQ := OQ.nb hZ; have neO2 := O2.nb hZ; have neO3 := O3.nb hZ; have neO4 := O4.nb hZ; have fhZ' := hZ.fz8
 go_wp2
 clear z' x'
 refine st8 0 fun W9 tW9 => ?_
 replace HB := tW9.hc HB; replace hZ := tW9.all8 hZ; replace OQ := OQ.keptS tW9 neOQ; replace O0 := O0.keptS tW9 neO0; replace O2 := O2.keptS tW9 neO2; replace O3 := O3.keptS tW9 neO3; replace O4 := O4.keptS tW9 neO4; have z' := hZ.cs8
 refine bodyPost_ret (v := .tuple #[.agg #[.slice E0 rs.length e0, .slice QA ps.length qc, .int .i64 tu, .int .i64 se, .int .i64 sp, .slice E2 ws.length e2, .slice E3 sh.length e3, .slice E4 os.length e4], .bool true]) (by simp [results, Tryz.results46, go_sem, z']) rfl ?_
 exact zb109
theorem zb58 {p : Prop} (h : p := by
 refine st8 0 fun W9 tW9 => ?_
 replace HB := tW9.hc HB; replace hZ := tW9.all8 hZ; have z' := hZ.cs8
 refine bodyPost_ret (v := .tuple #[.agg #[.slice none 0 0, .slice none 0 0, .int .i64 0, .int .i64 0, .int .i64 0, .slice none 0 0, .slice none 0 0, .slice none 0 0], .bool false]) (by simp [results, Tryz.results46, go_sem, z']) rfl ?_
 exact ⟨rfl, HB⟩) : p := h
theorem iMk2F_is (A0 A1 A2 A3 A4 : Option Addr) (c0 c1 c2 c3 c4 : Nat) (rs : List Rul) (qs : List Que) (tu se sp : Int) (ws : List Int) (sh : List Sha) (os : List Out) (Z : MeeIn A0 A1 A2 A3 A4 c0 c1 c2 c3 c4 rs qs ws sh os) (mem val yes no abst : Int) (hv : sdQ rs qs mem = none)  (w : World) (R : MeR w A0 A1 A2 A3 A4 rs qs ws sh os) :
 Calls Tryz.prog 46 #[.agg #[.slice A0 rs.length c0, .slice A1 qs.length c1, .int .i64 tu, .int .i64 se, .int .i64 sp, .slice A2 ws.length c2, .slice A3 sh.length c3, .slice A4 os.length c4], .agg #[.int .i64 2, .int .i64 mem, .int .i64 val, .int .i64 yes, .int .i64 no, .int .i64 abst]] w (ARes none w) := by
 have HR := lh R; have HZ := lh Z; clear R Z; have HV := lh hv; clear hv
 go_in
 go_upto_region 1 with fail
 refine lay3 fun wX hq1 hF hA hZ => ?_
 have HB := hq1; have f' := hF.cs8; have a' := hA.cs6; have z' := hZ.cs8
 go_wp2_with fail
 refine (iSecondQN_is A0 c0 rs HZ.out.h0 HZ.out.k0 A1 c1 qs HZ.out.h1 HZ.out.n1 mem HV.out _ (HR.out.r0.below (bth HB bel)) (HR.out.r1.below (bth HB bel))).mono ?_
 rintro e w2 ⟨QA, qc, rfl, hb2⟩
 have hq2 := be wX hb2; replace HB := bth HB hq2; clear f'; clear a'; replace hZ := hZ.to hq2; clear z'; have z' := hZ.cs8; have fhZ' := hZ.fz8
 go_wp2
 clear z'
 exact zb58
theorem iMkN_is (A0 A1 A2 A3 A4 : Option Addr) (c0 c1 c2 c3 c4 : Nat) (rs : List Rul) (qs : List Que) (tu se sp : Int) (ws : List Int) (sh : List Sha) (os : List Out) (Z : MeeIn A0 A1 A2 A3 A4 c0 c1 c2 c3 c4 rs qs ws sh os) (kind mem val yes no abst : Int) (g1 : (kind == 1) = false) (g2 : (kind == 2) = false) (g3 : (kind == 3) = false) (g4 : (kind == 4) = false) (g5 : (kind == 5) = false) (g6 : (kind == 6) = false) (g7 : (kind == 7) = false) (g8 : (kind == 8) = false) (g9 : (kind == 9) = false)  (w : World) (R : MeR w A0 A1 A2 A3 A4 rs qs ws sh os) :
 Calls Tryz.prog 46 #[.agg #[.slice A0 rs.length c0, .slice A1 qs.length c1, .int .i64 tu, .int .i64 se, .int .i64 sp, .slice A2 ws.length c2, .slice A3 sh.length c3, .slice A4 os.length c4], .agg #[.int .i64 kind, .int .i64 mem, .int .i64 val, .int .i64 yes, .int .i64 no, .int .i64 abst]] w (ARes none w) := by
 clear R Z
 go_in
 go_upto_region 1 with fail
 refine lay3 fun wX hq1 hF hA hZ => ?_
 have HB := hq1; have a' := hA.cs6; have z' := hZ.cs8; have fhZ' := hZ.fz8
 go_wp2
 clear a' z'
 exact zb58
end Go.Proofs.YtjimibkgocieoaaGreat
