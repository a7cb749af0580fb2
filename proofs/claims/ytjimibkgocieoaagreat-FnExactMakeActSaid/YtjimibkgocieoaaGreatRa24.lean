/- Texts of the proof: walks of the functions, and what they compute. -/
import Derived.Deep.Cut
import Derived.Test.YtjimibkgocieoaaGreatRa10
import Derived.Test.YtjimibkgocieoaaGreatRa23
import Derived.Test.YtjimibkgocieoaaGreatRa0
import Derived.Test.YtjimibkgocieoaaGreatRa17
import Derived.Test.YtjimibkgocieoaaGreatRa9
set_option maxHeartbeats 16000000
set_option maxRecDepth 100000
namespace Go.Proofs.YtjimibkgocieoaaGreat
open Go.RowKit Go.G9
theorem zb33 {p : Prop} (h : p := by
 clear z'; have z' := hZ.cs8; have fhZ' := hZ.fz8; have yhF := hF.lt; have yhA := hA.lt; have yhZ := hZ.lt
 go_wp2
 clear f' a' z'
 refine st8 0 fun W9 tW9 => ?_
 replace HB := tW9.hb HB (by omega); replace hF := tW9.far hF (by omega); replace hA := tW9.far hA (by omega); replace hZ := tW9.all8 hZ; have szW9 := tW9.sz; have f' := hF.cs8; have a' := hA.cs6; have z' := hZ.cs8
 refine bodyPost_ret (v := .tuple #[.agg #[.slice none 0 0, .slice none 0 0, .int .i64 0, .int .i64 0, .int .i64 0, .slice none 0 0, .slice none 0 0, .slice none 0 0], .bool false]) (by simp [results, Tryz.results9, go_sem, z']) rfl ?_
 exact ⟨rfl, HB⟩) : p := h
theorem iMake_is (A0 A1 A2 A3 A4 : Option Addr) (c0 c1 c2 c3 c4 : Nat) (rs : List Rul) (qs : List Que) (tu se sp : Int) (ws : List Int) (sh : List Sha) (os : List Out) (Z : MeeIn A0 A1 A2 A3 A4 c0 c1 c2 c3 c4 rs qs ws sh os) (kind mem val yes no abst : Int) (w : World) (R : MeR w A0 A1 A2 A3 A4 rs qs ws sh os) :
 Calls Tryz.prog 9 #[.agg #[.slice A0 rs.length c0, .slice A1 qs.length c1, .int .i64 tu, .int .i64 se, .int .i64 sp, .slice A2 ws.length c2, .slice A3 sh.length c3, .slice A4 os.length c4], .agg #[.int .i64 kind, .int .i64 mem, .int .i64 val, .int .i64 yes, .int .i64 no, .int .i64 abst]] w (ARes (if meetB ⟨rs, qs, tu, se, sp, ws, sh, os⟩ then mkA ⟨rs, qs, tu, se, sp, ws, sh, os⟩ ⟨kind, mem, val, yes, no, abst⟩ else none) w) := by
 have HR := lh R; have HZ := lh Z
 cases hm : meetP rs qs tu se sp ws sh os
 case false =>
  rw [if_neg (by rw [meetB]; dsimp only; rw [hm]; decide)]
  have HM := lh hm; clear R Z hm
  go_enter Tryz.func9, Tryz.ntmps9
  go_upto_region 1 with fail
  refine lay3 fun wX hq1 hF hA hZ => ?_
  have HB := hq1; have f' := hF.cs8; have a' := hA.cs6; have z' := hZ.cs8; have hf0 := hF.lt; have ha0 := hA.lt; have hz0' := hZ.lt
  go_wp2_with fail
  refine (iMeet_is rs qs tu se sp ws sh os A0 A1 A2 A3 A4 c0 c1 c2 c3 c4 HZ.out.h0 HZ.out.h1 HZ.out.h2 HZ.out.h3 HZ.out.h4 _ HM.out _ (HR.out.r0.below (bth HB bel)) (HR.out.r1.below (bth HB bel)) (HR.out.r2.below (bth HB bel)) (HR.out.r3.below (bth HB bel)) (HR.out.r4.below (bth HB bel)) HZ.out.k0 HZ.out.k2).mono ?_
  rintro e w2 ⟨rfl, hb2⟩
  have hq2 : Below wX.heap.size wX w2 := bth bel hb2; replace HB := bth HB hq2; replace hF := hF.to hq2; clear f'; have f' := hF.cs8; replace hA := hA.to hq2; clear a'; have a' := hA.cs6; replace hZ := hZ.to hq2
  exact zb33
 case true =>
  rw [if_pos (show meetB ⟨rs, qs, tu, se, sp, ws, sh, os⟩ = true from hm)]
  have hok := mee_ok.1 (show meetB ⟨rs, qs, tu, se, sp, ws, sh, os⟩ = true from hm); have HH := lh (fun W (hb : Below w.heap.size w W) => iMakeA_is A0 A1 A2 A3 A4 c0 c1 c2 c3 c4 rs qs tu se sp ws sh os Z kind mem val yes no abst hok W (R.below hb)); have HM := lh hm; clear R Z hm hok
  generalize mkA ⟨rs, qs, tu, se, sp, ws, sh, os⟩ ⟨kind, mem, val, yes, no, abst⟩ = o at *
  cases o with
  | none =>
   go_enter Tryz.func9, Tryz.ntmps9
   go_upto_region 1 with fail
   refine lay3 fun wX hq1 hF hA hZ => ?_
   have HB := hq1; have f' := hF.cs8; have a' := hA.cs6; have z' := hZ.cs8; have hf0 := hF.lt; have ha0 := hA.lt; have hz0' := hZ.lt
   go_wp2_with fail
   refine (iMeet_is rs qs tu se sp ws sh os A0 A1 A2 A3 A4 c0 c1 c2 c3 c4 HZ.out.h0 HZ.out.h1 HZ.out.h2 HZ.out.h3 HZ.out.h4 _ HM.out _ (HR.out.r0.below (bth HB bel)) (HR.out.r1.below (bth HB bel)) (HR.out.r2.below (bth HB bel)) (HR.out.r3.below (bth HB bel)) (HR.out.r4.below (bth HB bel)) HZ.out.k0 HZ.out.k2).mono ?_
   rintro e w2 ⟨rfl, hb2⟩
   have hq2 : Below wX.heap.size wX w2 := bth bel hb2; replace HB := bth HB hq2; replace hF := hF.to hq2; clear f'; have f' := hF.cs8; replace hA := hA.to hq2; clear a'; have a' := hA.cs6; replace hZ := hZ.to hq2; clear z'; have z' := hZ.cs8
   go_wp2_with fail
   refine (HH.out _ (bth HB bel)).mono ?_
   rintro e w3 ⟨rfl, hb3⟩
   have hq3 : Below w2.heap.size w2 w3 := bth bel hb3; replace HB := bth HB hq3; replace hF := hF.to hq3; clear f'; have f' := hF.cs8; replace hA := hA.to hq3; clear a'; have a' := hA.cs6; replace hZ := hZ.to hq3
   exact zb33
  | some n =>
   go_enter Tryz.func9, Tryz.ntmps9
   go_upto_region 1 with fail
   refine lay3 fun wX hq1 hF hA hZ => ?_
   have HB := hq1; have f' := hF.cs8; have a' := hA.cs6; have z' := hZ.cs8; have hf0 := hF.lt; have ha0 := hA.lt; have hz0' := hZ.lt
   go_wp2_with fail
   refine (iMeet_is rs qs tu se sp ws sh os A0 A1 A2 A3 A4 c0 c1 c2 c3 c4 HZ.out.h0 HZ.out.h1 HZ.out.h2 HZ.out.h3 HZ.out.h4 _ HM.out _ (HR.out.r0.below (bth HB bel)) (HR.out.r1.below (bth HB bel)) (HR.out.r2.below (bth HB bel)) (HR.out.r3.below (bth HB bel)) (HR.out.r4.below (bth HB bel)) HZ.out.k0 HZ.out.k2).mono ?_
   rintro e w2 ⟨rfl, hb2⟩
   have hq2 : Below wX.heap.size wX w2 := bth bel hb2; replace HB := bth HB hq2; replace hF := hF.to hq2; clear f'; have f' := hF.cs8; replace hA := hA.to hq2; clear a'; have a' := hA.cs6; replace hZ := hZ.to hq2; clear z'; have z' := hZ.cs8; have szq9 := hq2.size
   go_wp2_with fail
   refine (HH.out _ (bth HB bel)).mono ?_
   rintro e w3 ⟨D0, d0, D1, d1, D2, d2, D3, d3, D4, d4, rfl, OO, hb3⟩
   have hq3 : Below w2.heap.size w2 w3 := bth bel hb3; replace HB := bth HB hq3; replace hF := hF.to hq3; clear f'; have f' := hF.cs8; replace hA := hA.to hq3; clear a'; have a' := hA.cs6; replace hZ := hZ.to hq3; clear z'; have z' := hZ.cs8; have szp := HB.size; have szq := hq2.size; have O0 := OO.o0; have O1 := OO.o1; have O2 := OO.o2; have O3 := OO.o3; have O4 := OO.o4; clear OO; have neO0 := O0.notBlkV hZ (by decide)
   have neO1 := O1.notBlkV hZ (by decide); have neO2 := O2.notBlkV hZ (by decide); have neO3 := O3.notBlkV hZ (by decide); have neO4 := O4.notBlkV hZ (by decide); have fhZ' := hZ.fz8; have yhF := hF.lt; have yhA := hA.lt; have yhZ := hZ.lt
   go_wp2
   clear f' a' z'
   refine st8 0 fun W9 tW9 => ?_
   replace HB := tW9.hb HB (by omega); replace hF := tW9.far hF (by omega); replace hA := tW9.far hA (by omega); replace hZ := tW9.all8 hZ; have gRW9 := tW9.gr; have szW9 := tW9.sz; replace O0 := O0.keptS tW9 neO0; replace O1 := O1.keptS tW9 neO1; replace O2 := O2.keptS tW9 neO2; replace O3 := O3.keptS tW9 neO3; replace O4 := O4.keptS tW9 neO4; have f' := hF.cs8; have a' := hA.cs6; have z' := hZ.cs8
   refine bodyPost_ret (v := .tuple #[.agg #[.slice D0 n.rules.length d0, .slice D1 n.pend.length d1, .int .i64 n.turns, .int .i64 n.secs, .int .i64 n.spk, .slice D2 n.wait.length d2, .slice D3 n.shares.length d3, .slice D4 n.outs.length d4], .bool true]) (by simp [results, Tryz.results9, go_sem, z']) rfl ?_
   exact zb116
theorem zb32 {p : Prop} (h : p := by
 clear z'; have z' := hZ.cs8; have fhZ' := hZ.fz8; have yhF := hF.lt; have yhA := hA.lt; have yhZ := hZ.lt
 go_wp2
 clear f' a' z'
 refine st8 0 fun W9 tW9 => ?_
 replace HB := tW9.hb HB (by omega); replace hF := tW9.far hF (by omega); replace hA := tW9.far hA (by omega); replace hZ := tW9.all8 hZ; have szW9 := tW9.sz; have f' := hF.cs8; have a' := hA.cs6; have z' := hZ.cs8
 refine bodyPost_ret (v := .tuple #[.agg #[.slice none 0 0, .slice none 0 0, .int .i64 0, .int .i64 0, .int .i64 0, .slice none 0 0, .slice none 0 0, .slice none 0 0], .bool false]) (by simp [results, Tryz.results10, go_sem, z']) rfl ?_
 exact ⟨rfl, HB⟩) : p := h
theorem sMake_is (A0 A1 A2 A3 A4 : Option Addr) (c0 c1 c2 c3 c4 : Nat) (rs : List Rul) (qs : List Que) (tu se sp : Int) (ws : List Int) (sh : List Sha) (os : List Out) (Z : MeeIn A0 A1 A2 A3 A4 c0 c1 c2 c3 c4 rs qs ws sh os) (kind mem val yes no abst : Int) (w : World) (R : MeR w A0 A1 A2 A3 A4 rs qs ws sh os) :
 Calls Tryz.prog 10 #[.agg #[.slice A0 rs.length c0, .slice A1 qs.length c1, .int .i64 tu, .int .i64 se, .int .i64 sp, .slice A2 ws.length c2, .slice A3 sh.length c3, .slice A4 os.length c4], .agg #[.int .i64 kind, .int .i64 mem, .int .i64 val, .int .i64 yes, .int .i64 no, .int .i64 abst]] w (ARes (if meetB ⟨rs, qs, tu, se, sp, ws, sh, os⟩ then mkA ⟨rs, qs, tu, se, sp, ws, sh, os⟩ ⟨kind, mem, val, yes, no, abst⟩ else none) w) := by
 have HR := lh R; have HZ := lh Z
 cases hm : meetP rs qs tu se sp ws sh os
 case false =>
  rw [if_neg (by rw [meetB]; dsimp only; rw [hm]; decide)]
  have HM := lh hm; clear R Z hm
  go_enter Tryz.func10, Tryz.ntmps10
  go_upto_region 1 with fail
  refine lay3 fun wX hq1 hF hA hZ => ?_
  have HB := hq1; have f' := hF.cs8; have a' := hA.cs6; have z' := hZ.cs8; have hf0 := hF.lt; have ha0 := hA.lt; have hz0' := hZ.lt
  go_wp2_with fail
  refine (sMeet_is rs qs tu se sp ws sh os A0 A1 A2 A3 A4 c0 c1 c2 c3 c4 HZ.out.h0 HZ.out.h1 HZ.out.h2 HZ.out.h3 HZ.out.h4 _ HM.out _ (HR.out.r0.below (bth HB bel)) (HR.out.r1.below (bth HB bel)) (HR.out.r2.below (bth HB bel)) (HR.out.r3.below (bth HB bel)) (HR.out.r4.below (bth HB bel)) HZ.out.k0 HZ.out.k2).mono ?_
  rintro e w2 ⟨rfl, hb2⟩
  have hq2 : Below wX.heap.size wX w2 := bth bel hb2; replace HB := bth HB hq2; replace hF := hF.to hq2; clear f'; have f' := hF.cs8; replace hA := hA.to hq2; clear a'; have a' := hA.cs6; replace hZ := hZ.to hq2
  exact zb32
 case true =>
  rw [if_pos (show meetB ⟨rs, qs, tu, se, sp, ws, sh, os⟩ = true from hm)]
  have hok := mee_ok.1 (show meetB ⟨rs, qs, tu, se, sp, ws, sh, os⟩ = true from hm); have HH := lh (fun W (hb : Below w.heap.size w W) => sMakeA_is A0 A1 A2 A3 A4 c0 c1 c2 c3 c4 rs qs tu se sp ws sh os Z kind mem val yes no abst hok W (R.below hb)); have HM := lh hm; clear R Z hm hok
  generalize mkA ⟨rs, qs, tu, se, sp, ws, sh, os⟩ ⟨kind, mem, val, yes, no, abst⟩ = o at *
  cases o with
  | none =>
   go_enter Tryz.func10, Tryz.ntmps10
   go_upto_region 1 with fail
   refine lay3 fun wX hq1 hF hA hZ => ?_
   have HB := hq1; have f' := hF.cs8; have a' := hA.cs6; have z' := hZ.cs8; have hf0 := hF.lt; have ha0 := hA.lt; have hz0' := hZ.lt
   go_wp2_with fail
   refine (sMeet_is rs qs tu se sp ws sh os A0 A1 A2 A3 A4 c0 c1 c2 c3 c4 HZ.out.h0 HZ.out.h1 HZ.out.h2 HZ.out.h3 HZ.out.h4 _ HM.out _ (HR.out.r0.below (bth HB bel)) (HR.out.r1.below (bth HB bel)) (HR.out.r2.below (bth HB bel)) (HR.out.r3.below (bth HB bel)) (HR.out.r4.below (bth HB bel)) HZ.out.k0 HZ.out.k2).mono ?_
   rintro e w2 ⟨rfl, hb2⟩
   have hq2 : Below wX.heap.size wX w2 := bth bel hb2; replace HB := bth HB hq2; replace hF := hF.to hq2; clear f'; have f' := hF.cs8; replace hA := hA.to hq2; clear a'; have a' := hA.cs6; replace hZ := hZ.to hq2; clear z'; have z' := hZ.cs8
   go_wp2_with fail
   refine (HH.out _ (bth HB bel)).mono ?_
   rintro e w3 ⟨rfl, hb3⟩
   have hq3 : Below w2.heap.size w2 w3 := bth bel hb3; replace HB := bth HB hq3; replace hF := hF.to hq3; clear f'; have f' := hF.cs8; replace hA := hA.to hq3; clear a'; have a' := hA.cs6; replace hZ := hZ.to hq3
   exact zb32
  | some n =>
   go_enter Tryz.func10, Tryz.ntmps10
   go_upto_region 1 with fail
   refine lay3 fun wX hq1 hF hA hZ => ?_
   have HB := hq1; have f' := hF.cs8; have a' := hA.cs6; have z' := hZ.cs8; have hf0 := hF.lt; have ha0 := hA.lt; have hz0' := hZ.lt
   go_wp2_with fail
   refine (sMeet_is rs qs tu se sp ws sh os A0 A1 A2 A3 A4 c0 c1 c2 c3 c4 HZ.out.h0 HZ.out.h1 HZ.out.h2 HZ.out.h3 HZ.out.h4 _ HM.out _ (HR.out.r0.below (bth HB bel)) (HR.out.r1.below (bth HB bel)) (HR.out.r2.below (bth HB bel)) (HR.out.r3.below (bth HB bel)) (HR.out.r4.below (bth HB bel)) HZ.out.k0 HZ.out.k2).mono ?_
   rintro e w2 ⟨rfl, hb2⟩
   have hq2 : Below wX.heap.size wX w2 := bth bel hb2; replace HB := bth HB hq2; replace hF := hF.to hq2; clear f'; have f' := hF.cs8; replace hA := hA.to hq2; clear a'; have a' := hA.cs6; replace hZ := hZ.to hq2; clear z'; have z' := hZ.cs8; have szq9 := hq2.size
   go_wp2_with fail
   refine (HH.out _ (bth HB bel)).mono ?_
   rintro e w3 ⟨D0, d0, D1, d1, D2, d2, D3, d3, D4, d4, rfl, OO, hb3⟩
   have hq3 : Below w2.heap.size w2 w3 := bth bel hb3; replace HB := bth HB hq3; replace hF := hF.to hq3; clear f'; have f' := hF.cs8; replace hA := hA.to hq3; clear a'; have a' := hA.cs6; replace hZ := hZ.to hq3; clear z'; have z' := hZ.cs8; have szp := HB.size; have szq := hq2.size; have O0 := OO.o0; have O1 := OO.o1; have O2 := OO.o2; have O3 := OO.o3; have O4 := OO.o4; clear OO; have neO0 := O0.notBlkV hZ (by decide)
   have neO1 := O1.notBlkV hZ (by decide); have neO2 := O2.notBlkV hZ (by decide); have neO3 := O3.notBlkV hZ (by decide); have neO4 := O4.notBlkV hZ (by decide); have fhZ' := hZ.fz8; have yhF := hF.lt; have yhA := hA.lt; have yhZ := hZ.lt
   go_wp2
   clear f' a' z'
   refine st8 0 fun W9 tW9 => ?_
   replace HB := tW9.hb HB (by omega); replace hF := tW9.far hF (by omega); replace hA := tW9.far hA (by omega); replace hZ := tW9.all8 hZ; have gRW9 := tW9.gr; have szW9 := tW9.sz; replace O0 := O0.keptS tW9 neO0; replace O1 := O1.keptS tW9 neO1; replace O2 := O2.keptS tW9 neO2; replace O3 := O3.keptS tW9 neO3; replace O4 := O4.keptS tW9 neO4; have f' := hF.cs8; have a' := hA.cs6; have z' := hZ.cs8
   refine bodyPost_ret (v := .tuple #[.agg #[.slice D0 n.rules.length d0, .slice D1 n.pend.length d1, .int .i64 n.turns, .int .i64 n.secs, .int .i64 n.spk, .slice D2 n.wait.length d2, .slice D3 n.shares.length d3, .slice D4 n.outs.length d4], .bool true]) (by simp [results, Tryz.results10, go_sem, z']) rfl ?_
   exact zb116
open Go.RowKit Go.G9
def zMee : Mee := ⟨[], [], 0, 0, 0, [], [], []⟩
def actO (m : Mee) (a : Ac) : Option Mee := if meetB m then mkA m a else none
def oMee (o : Option Mee) : Mee := o.getD zMee
theorem actO_ok {m n : Mee} {a : Ac} (h : actO m a = some n) : MeeOk n := by
 unfold actO at h; split at h
 ·rename_i hm; exact mkA_ok (mee_ok.1 hm) h
 ·cases h
theorem zMee_len : zMee.rules.length ≤ 8 ∧ zMee.pend.length ≤ 6 ∧ zMee.wait.length ≤ 10 ∧ zMee.shares.length ≤ 99 ∧ zMee.outs.length ≤ 12 := by simp [zMee]
theorem actO_len (m : Mee) (a : Ac) : (oMee (actO m a)).rules.length ≤ 8 ∧ (oMee (actO m a)).pend.length ≤ 6 ∧ (oMee (actO m a)).wait.length ≤ 10 ∧ (oMee (actO m a)).shares.length ≤ 99 ∧ (oMee (actO m a)).outs.length ≤ 12 := by
 cases h : actO m a with
 | none => exact zMee_len
 | some n => exact mee_len (actO_ok h)
theorem acL0 (m : Mee) (a : Ac) : (oMee (actO m a)).rules.length ≤ 1048576 := by have := (actO_len m a).1; omega
theorem acL1 (m : Mee) (a : Ac) : (oMee (actO m a)).pend.length ≤ 1048576 := by have := (actO_len m a).2.1; omega
theorem acL2 (m : Mee) (a : Ac) : (oMee (actO m a)).wait.length ≤ 1048576 := by have := (actO_len m a).2.2.1; omega
theorem acL3 (m : Mee) (a : Ac) : (oMee (actO m a)).shares.length ≤ 1048576 := by have := (actO_len m a).2.2.2.1; omega
theorem acL4 (m : Mee) (a : Ac) : (oMee (actO m a)).outs.length ≤ 1048576 := by have := (actO_len m a).2.2.2.2; omega
theorem zb46 {p : Prop} (h : p := by
 change Calls _ _ _ _ (ARes (actO m a) w) at H
 cases h : actO m a with
 | none =>
  rw [h] at H
  refine H.mono ?_
  rintro e w' ⟨rfl, hb⟩
  exact ⟨none, 0, none, 0, none, 0, none, 0, none, 0, rfl, OwnV.nil, OwnV.nil, OwnV.nil, OwnV.nil, OwnV.nil, (meO_nil (B := w.heap.size) (w := w')).apart, hb⟩
 | some n =>
  rw [h] at H
  refine H.mono ?_
  rintro e w' ⟨D0, d0, D1, d1, D2, d2, D3, d3, D4, d4, rfl, O, hb⟩
  exact ⟨D0, d0, D1, d1, D2, d2, D3, d3, D4, d4, rfl, O.o0, O.o1, O.o2, O.o3, O.o4, O.apart, hb⟩) : p := h
theorem iMakeAct_is (m : Mee) (A0 A1 A2 A3 A4 : Option Addr) (c0 c1 c2 c3 c4 : Nat) (h0 : m.rules.length ≤ 1048576) (h1 : m.pend.length ≤ 1048576) (h2 : m.wait.length ≤ 1048576) (h3 : m.shares.length ≤ 1048576) (h4 : m.outs.length ≤ 1048576) (a : Ac) (w : World) (R0 : Rds 7 Rul.cells w A0 m.rules) (R1 : Rds 3 Que.cells w A1 m.pend) (R2 : Rds 1 intC w A2 m.wait) (R3 : Rds 3 Sha.cells w A3 m.shares) (R4 : Rds 3 Out.cells w A4 m.outs) (n0 : A0 = none → m.rules = [] ∧ c0 = 0) (n1 : A1 = none → m.pend = [] ∧ c1 = 0) (n2 : A2 = none → m.wait = [] ∧ c2 = 0) (n3 : A3 = none → m.shares = [] ∧ c3 = 0) (n4 : A4 = none → m.outs = [] ∧ c4 = 0) (k0 : m.rules.length ≤ c0) (k1 : m.pend.length ≤ c1) (k2 : m.wait.length ≤ c2) (k3 : m.shares.length ≤ c3) (k4 : m.outs.length ≤ c4) :
 Calls Tryz.prog 9 #[.agg #[.slice A0 m.rules.length c0, .slice A1 m.pend.length c1, .int .i64 m.turns, .int .i64 m.secs, .int .i64 m.spk, .slice A2 m.wait.length c2, .slice A3 m.shares.length c3, .slice A4 m.outs.length c4], .agg #[.int .i64 a.kind, .int .i64 a.mem, .int .i64 a.val, .int .i64 a.yes, .int .i64 a.no, .int .i64 a.abst]] w fun e w' => ∃ D0 d0 D1 d1 D2 d2 D3 d3 D4 d4, e = .returned (.tuple #[.agg #[.slice D0 (oMee (actO m a)).rules.length d0, .slice D1 (oMee (actO m a)).pend.length d1, .int .i64 (oMee (actO m a)).turns, .int .i64 (oMee (actO m a)).secs, .int .i64 (oMee (actO m a)).spk, .slice D2 (oMee (actO m a)).wait.length d2, .slice D3 (oMee (actO m a)).shares.length d3, .slice D4 (oMee (actO m a)).outs.length d4], .bool (actO m a).isSome]) ∧ OwnV w.heap.size 48 7 Rul.cells w' (.slice D0 (oMee (actO m a)).rules.length d0) (oMee (actO m a)).rules ∧ OwnV w.heap.size 46 3 Que.cells w' (.slice D1 (oMee (actO m a)).pend.length d1) (oMee (actO m a)).pend ∧ OwnV w.heap.size 3 1 intC w' (.slice D2 (oMee (actO m a)).wait.length d2) (oMee (actO m a)).wait ∧ OwnV w.heap.size 144 3 Sha.cells w' (.slice D3 (oMee (actO m a)).shares.length d3) (oMee (actO m a)).shares ∧ OwnV w.heap.size 44 3 Out.cells w' (.slice D4 (oMee (actO m a)).outs.length d4) (oMee (actO m a)).outs ∧ Apart [.slice D0 (oMee (actO m a)).rules.length d0, .slice D1 (oMee (actO m a)).pend.length d1, .slice D2 (oMee (actO m a)).wait.length d2, .slice D3 (oMee (actO m a)).shares.length d3, .slice D4 (oMee (actO m a)).outs.length d4] ∧ Below w.heap.size w w' := by
 have H := iMake_is A0 A1 A2 A3 A4 c0 c1 c2 c3 c4 m.rules m.pend m.turns m.secs m.spk m.wait m.shares m.outs ⟨h0, h1, h2, h3, h4, n0, n1, n2, n3, n4, k0, k1, k2, k3, k4⟩ a.kind a.mem a.val a.yes a.no a.abst w ⟨R0, R1, R2, R3, R4⟩
 exact zb46
theorem sMakeAct_is (m : Mee) (A0 A1 A2 A3 A4 : Option Addr) (c0 c1 c2 c3 c4 : Nat) (h0 : m.rules.length ≤ 1048576) (h1 : m.pend.length ≤ 1048576) (h2 : m.wait.length ≤ 1048576) (h3 : m.shares.length ≤ 1048576) (h4 : m.outs.length ≤ 1048576) (a : Ac) (w : World) (R0 : Rds 7 Rul.cells w A0 m.rules) (R1 : Rds 3 Que.cells w A1 m.pend) (R2 : Rds 1 intC w A2 m.wait) (R3 : Rds 3 Sha.cells w A3 m.shares) (R4 : Rds 3 Out.cells w A4 m.outs) (n0 : A0 = none → m.rules = [] ∧ c0 = 0) (n1 : A1 = none → m.pend = [] ∧ c1 = 0) (n2 : A2 = none → m.wait = [] ∧ c2 = 0) (n3 : A3 = none → m.shares = [] ∧ c3 = 0) (n4 : A4 = none → m.outs = [] ∧ c4 = 0) (k0 : m.rules.length ≤ c0) (k1 : m.pend.length ≤ c1) (k2 : m.wait.length ≤ c2) (k3 : m.shares.length ≤ c3) (k4 : m.outs.length ≤ c4) :
 Calls Tryz.prog 10 #[.agg #[.slice A0 m.rules.length c0, .slice A1 m.pend.length c1, .int .i64 m.turns, .int .i64 m.secs, .int .i64 m.spk, .slice A2 m.wait.length c2, .slice A3 m.shares.length c3, .slice A4 m.outs.length c4], .agg #[.int .i64 a.kind, .int .i64 a.mem, .int .i64 a.val, .int .i64 a.yes, .int .i64 a.no, .int .i64 a.abst]] w fun e w' => ∃ D0 d0 D1 d1 D2 d2 D3 d3 D4 d4, e = .returned (.tuple #[.agg #[.slice D0 (oMee (actO m a)).rules.length d0, .slice D1 (oMee (actO m a)).pend.length d1, .int .i64 (oMee (actO m a)).turns, .int .i64 (oMee (actO m a)).secs, .int .i64 (oMee (actO m a)).spk, .slice D2 (oMee (actO m a)).wait.length d2, .slice D3 (oMee (actO m a)).shares.length d3, .slice D4 (oMee (actO m a)).outs.length d4], .bool (actO m a).isSome]) ∧ OwnV w.heap.size 48 7 Rul.cells w' (.slice D0 (oMee (actO m a)).rules.length d0) (oMee (actO m a)).rules ∧ OwnV w.heap.size 46 3 Que.cells w' (.slice D1 (oMee (actO m a)).pend.length d1) (oMee (actO m a)).pend ∧ OwnV w.heap.size 3 1 intC w' (.slice D2 (oMee (actO m a)).wait.length d2) (oMee (actO m a)).wait ∧ OwnV w.heap.size 144 3 Sha.cells w' (.slice D3 (oMee (actO m a)).shares.length d3) (oMee (actO m a)).shares ∧ OwnV w.heap.size 44 3 Out.cells w' (.slice D4 (oMee (actO m a)).outs.length d4) (oMee (actO m a)).outs ∧ Apart [.slice D0 (oMee (actO m a)).rules.length d0, .slice D1 (oMee (actO m a)).pend.length d1, .slice D2 (oMee (actO m a)).wait.length d2, .slice D3 (oMee (actO m a)).shares.length d3, .slice D4 (oMee (actO m a)).outs.length d4] ∧ Below w.heap.size w w' := by
 have H := sMake_is A0 A1 A2 A3 A4 c0 c1 c2 c3 c4 m.rules m.pend m.turns m.secs m.spk m.wait m.shares m.outs ⟨h0, h1, h2, h3, h4, n0, n1, n2, n3, n4, k0, k1, k2, k3, k4⟩ a.kind a.mem a.val a.yes a.no a.abst w ⟨R0, R1, R2, R3, R4⟩
 exact zb46
open Go.RowKit Go.G9
def runB (m : Mee) (al : List Ac) : Bool := meetB m && decide (al.length ≤ 20)
def runM (m : Mee) (al : List Ac) : Mee := if runB m al then (runN m al al.length).1 else zMee
def runC (m : Mee) (al : List Ac) : Int := if runB m al then ((runN m al al.length).2 : Int) else 0
theorem runM_yes {m : Mee} {al : List Ac} (h : runB m al = true) : runM m al = (runN m al al.length).1 := if_pos h
theorem runM_no {m : Mee} {al : List Ac} (h : runB m al = false) : runM m al = zMee := by rw [runM, h]; rfl
theorem runC_yes {m : Mee} {al : List Ac} (h : runB m al = true) : runC m al = ((runN m al al.length).2 : Int) := if_pos h
theorem runC_no {m : Mee} {al : List Ac} (h : runB m al = false) : runC m al = 0 := by rw [runC, h]; rfl
theorem runM_len (m : Mee) (al : List Ac) : (runM m al).rules.length ≤ 8 ∧ (runM m al).pend.length ≤ 6 ∧ (runM m al).wait.length ≤ 10 ∧ (runM m al).shares.length ≤ 99 ∧ (runM m al).outs.length ≤ 12 := by
 cases h : runB m al with
 | false => rw [runM_no h]; exact zMee_len
 | true =>
  rw [runM_yes h]
  simp only [runB, Bool.and_eq_true] at h
  exact mee_len (runN_ok (mee_ok.1 h.1) al _).1
theorem MeO.inL {w : World} {B : Nat} {n : Mee} {D0 D1 D2 D3 D4 : Option Addr} {d0 d1 d2 d3 d4 : Nat} (h : MeO B w D0 d0 D1 d1 D2 d2 D3 d3 D4 d4 n.rules n.pend n.wait n.shares n.outs) (hk : MeeOk n) : MeeIn D0 D1 D2 D3 D4 d0 d1 d2 d3 d4 n.rules n.pend n.wait n.shares n.outs := by
 obtain ⟨l0, l1, l2, l3, l4⟩ := mee_len hk
 exact h.inp (by omega) (by omega) (by omega) (by omega) (by omega)
theorem MeO.notBlk {w : World} {B p : Nat} {n : Mee} {D0 D1 D2 D3 D4 : Option Addr} {d0 d1 d2 d3 d4 : Nat} {cs : Array Value} (h : MeO B w D0 d0 D1 d1 D2 d2 D3 d3 D4 d4 n.rules n.pend n.wait n.shares n.outs) (hb : Blk w p 32 cs) {w' : World} (hg : w.grownBy w' (some p)) : MeO B w' D0 d0 D1 d1 D2 d2 D3 d3 D4 d4 n.rules n.pend n.wait n.shares n.outs :=
 ⟨h.o0.kept hg (fun k hk e => h.o0.notBlkV hb (by decide) k hk (Option.some.inj e)), h.o1.kept hg (fun k hk e => h.o1.notBlkV hb (by decide) k hk (Option.some.inj e)), h.o2.kept hg (fun k hk e => h.o2.notBlkV hb (by decide) k hk (Option.some.inj e)), h.o3.kept hg (fun k hk e => h.o3.notBlkV hb (by decide) k hk (Option.some.inj e)), h.o4.kept hg (fun k hk e => h.o4.notBlkV hb (by decide) k hk (Option.some.inj e))⟩
theorem zb11 {p : Prop} (h : p := by
 clear hm hb
 go_enter Tryz.func25, Tryz.ntmps25
 go_upto_region 1 with fail
 refine lay2 fun wX hq1 hF hZ => ?_
 have HB := hq1
 obtain ⟨f0, f1, f2, f3, f4, f5, f6, f7⟩ := hF.cs8
 have z' := hZ.cs8; have hf0 := hF.lt; have hz0' := hZ.lt
 go_wp2_with fail
 refine (iMeet_is rs qs tu se sp ws sh os A0 A1 A2 A3 A4 c0 c1 c2 c3 c4 HZ.out.h0 HZ.out.h1 HZ.out.h2 HZ.out.h3 HZ.out.h4 _ HM.out _ (HR.out.r0.below (bth HB bel)) (HR.out.r1.below (bth HB bel)) (HR.out.r2.below (bth HB bel)) (HR.out.r3.below (bth HB bel)) (HR.out.r4.below (bth HB bel)) HZ.out.k0 HZ.out.k2).mono ?_
 rintro e w2 ⟨rfl, hb2⟩
 have hq2 : Below wX.heap.size wX w2 := bth bel hb2; replace HB := bth HB hq2; replace hF := hF.to hq2; clear f0 f1 f2 f3 f4 f5 f6 f7
 obtain ⟨f0, f1, f2, f3, f4, f5, f6, f7⟩ := hF.cs8
 replace hZ := hZ.to hq2; clear z'; have z' := hZ.cs8; have fhZ' := hZ.fz8; have yhF := hF.lt; have yhZ := hZ.lt
 go_wp2
 clear f0 f1 f2 f3 f4 f5 f6 f7 z'
 refine st8 0 fun W9 tW9 => ?_
 replace HB := tW9.hb HB (by omega); replace hF := tW9.far hF (by omega); replace hZ := tW9.all8 hZ; have szW9 := tW9.sz
 obtain ⟨f0, f1, f2, f3, f4, f5, f6, f7⟩ := hF.cs8
 have z' := hZ.cs8
 refine bodyPost_ret (v := .tuple #[.agg #[.slice none 0 0, .slice none 0 0, .int .i64 0, .int .i64 0, .int .i64 0, .slice none 0 0, .slice none 0 0, .slice none 0 0], .int .i64 0, .bool false]) (by simp [results, Tryz.results25, go_sem, z']) rfl ?_
 exact ⟨none, 0, none, 0, none, 0, none, 0, none, 0, rfl, meO_nil, HB⟩) : p := h
theorem zb84 {p : Prop} (h : p := by
 have HB9 := HB
 go_wp2
 go_roundw
 case rel => exact ⟨k + 1, cnt + 1, n2, F0, f0, F1, f1, F2, f2, F3, f3, F4, f4, by omega, by go_num, by go_num, by rw [runN_some HA.out (by rw [HRN.out]; exact HM2.out), HRN.out], by omega, mkA_ok HNO.out HM2.out, hX9, hZ9, OZ9, HB9⟩
 case measure => simp [intOf]; omega) : p := h
theorem zb141 {p : Prop} (h : p := by
 exact ⟨E0, e0, E1, e1, E2, e2, E3, e3, E4, e4, by rw [HRN.out], by rw [HRN.out]; exact ⟨O0, O1, O2, O3, O4⟩, HB⟩) : p := h
theorem iRun_is (A0 A1 A2 A3 A4 : Option Addr) (c0 c1 c2 c3 c4 : Nat) (rs : List Rul) (qs : List Que) (tu se sp : Int) (ws : List Int) (sh : List Sha) (os : List Out) (Z : MeeIn A0 A1 A2 A3 A4 c0 c1 c2 c3 c4 rs qs ws sh os) (B : Option Addr) (bc : Nat) (al : List Ac) (hal : al.length ≤ 1048576) (w : World) (R : MeR w A0 A1 A2 A3 A4 rs qs ws sh os) (RA : Rds 6 Ac.cells w B al) :
 Calls Tryz.prog 25 #[.agg #[.slice A0 rs.length c0, .slice A1 qs.length c1, .int .i64 tu, .int .i64 se, .int .i64 sp, .slice A2 ws.length c2, .slice A3 sh.length c3, .slice A4 os.length c4], .slice B al.length bc] w fun e w' => ∃ D0 d0 D1 d1 D2 d2 D3 d3 D4 d4, e = .returned (.tuple #[.agg #[.slice D0 (runM ⟨rs, qs, tu, se, sp, ws, sh, os⟩ al).rules.length d0, .slice D1 (runM ⟨rs, qs, tu, se, sp, ws, sh, os⟩ al).pend.length d1, .int .i64 (runM ⟨rs, qs, tu, se, sp, ws, sh, os⟩ al).turns, .int .i64 (runM ⟨rs, qs, tu, se, sp, ws, sh, os⟩ al).secs, .int .i64 (runM ⟨rs, qs, tu, se, sp, ws, sh, os⟩ al).spk, .slice D2 (runM ⟨rs, qs, tu, se, sp, ws, sh, os⟩ al).wait.length d2, .slice D3 (runM ⟨rs, qs, tu, se, sp, ws, sh, os⟩ al).shares.length d3, .slice D4 (runM ⟨rs, qs, tu, se, sp, ws, sh, os⟩ al).outs.length d4], .int .i64 (runC ⟨rs, qs, tu, se, sp, ws, sh, os⟩ al), .bool (runB ⟨rs, qs, tu, se, sp, ws, sh, os⟩ al)]) ∧ MeO w.heap.size w' D0 d0 D1 d1 D2 d2 D3 d3 D4 d4 (runM ⟨rs, qs, tu, se, sp, ws, sh, os⟩ al).rules (runM ⟨rs, qs, tu, se, sp, ws, sh, os⟩ al).pend (runM ⟨rs, qs, tu, se, sp, ws, sh, os⟩ al).wait (runM ⟨rs, qs, tu, se, sp, ws, sh, os⟩ al).shares (runM ⟨rs, qs, tu, se, sp, ws, sh, os⟩ al).outs ∧ Below w.heap.size w w' := by
 have HR := lh R; have HZ := lh Z; have HRA := lh RA; clear R Z RA
 cases hm : meetP rs qs tu se sp ws sh os
 case false =>
  have hb : runB ⟨rs, qs, tu, se, sp, ws, sh, os⟩ al = false := by rw [runB, show meetB ⟨rs, qs, tu, se, sp, ws, sh, os⟩ = false from hm]; rfl
  rw [runM_no hb, runC_no hb, hb]
  have HM := lh hm
  exact zb11
 case true =>
  have HM := lh hm; have hok := lh (mee_ok.1 (show meetB ⟨rs, qs, tu, se, sp, ws, sh, os⟩ = true from hm))
  by_cases h20 : 20 < al.length
  ·have hb : runB ⟨rs, qs, tu, se, sp, ws, sh, os⟩ al = false := by rw [runB, decide_eq_false (by omega), Bool.and_false]
   rw [runM_no hb, runC_no hb, hb]
   have hgt : (20 : Int) < (al.length : Int) := by omega
   exact zb11
  ·have hb : runB ⟨rs, qs, tu, se, sp, ws, sh, os⟩ al = true := by rw [runB, show meetB ⟨rs, qs, tu, se, sp, ws, sh, os⟩ = true from hm, decide_eq_true (by omega)]; rfl
   rw [runM_yes hb, runC_yes hb, hb]
   have hle : ¬ (20 : Int) < (al.length : Int) := by omega
   clear hm hb
   obtain ⟨m, hme⟩ : ∃ m : Mee, m = ⟨rs, qs, tu, se, sp, ws, sh, os⟩ := ⟨_, rfl⟩
   rw [← hme] at hok ⊢
   have HME := lh hme; clear hme
   go_enter Tryz.func25, Tryz.ntmps25
   go_upto_region 1 with fail
   refine lay2 fun wX hq1 hF hZ => ?_
   have HB := hq1
   obtain ⟨f0, f1, f2, f3, f4, f5, f6, f7⟩ := hF.cs8
   have z' := hZ.cs8; have hf0 := hF.lt; have hz0' := hZ.lt
   go_wp2_with fail
   refine (iMeet_is rs qs tu se sp ws sh os A0 A1 A2 A3 A4 c0 c1 c2 c3 c4 HZ.out.h0 HZ.out.h1 HZ.out.h2 HZ.out.h3 HZ.out.h4 _ HM.out _ (HR.out.r0.below (bth HB bel)) (HR.out.r1.below (bth HB bel)) (HR.out.r2.below (bth HB bel)) (HR.out.r3.below (bth HB bel)) (HR.out.r4.below (bth HB bel)) HZ.out.k0 HZ.out.k2).mono ?_
   rintro e w2 ⟨rfl, hb2⟩
   have hq2 : Below wX.heap.size wX w2 := bth bel hb2; replace HB := bth HB hq2; replace hF := hF.to hq2; clear f0 f1 f2 f3 f4 f5 f6 f7
   obtain ⟨f0, f1, f2, f3, f4, f5, f6, f7⟩ := hF.cs8
   replace hZ := hZ.to hq2; clear z'; have z' := hZ.cs8
   go_wp2_with fail
   refine (newMee_is A0 A1 A2 A3 A4 c0 c1 c2 c3 c4 rs qs tu se sp ws sh os HZ.out _ (HR.out.below (bth HB bel))).mono ?_
   rintro e w3 ⟨D0, d0, D1, d1, D2, d2, D3, d3, D4, d4, rfl, OO, hb3⟩
   have hq3 : Below w2.heap.size w2 w3 := bth bel hb3; replace HB := bth HB hq3; replace hF := hF.to hq3; clear f0 f1 f2 f3 f4 f5 f6 f7
   obtain ⟨f0, f1, f2, f3, f4, f5, f6, f7⟩ := hF.cs8
   replace hZ := hZ.to hq3; clear z'; have z' := hZ.cs8; have szp := hq2.size; have szq := hq3.size
   go_upto_region 4 with fail
   refine lay1 fun wU hq4 hX => ?_
   replace HB := bth HB hq4; have x' := hX.cs8; clear f0 f1 f2 f3 f4 f5 f6 f7; replace hF := hF.to hq4
   obtain ⟨f0, f1, f2, f3, f4, f5, f6, f7⟩ := hF.cs8
   clear z'; replace hZ := hZ.to hq4; have z' := hZ.cs8; replace OO := (OO.later hq4).base (B' := w.heap.size) (by have := HB.size; omega)
   obtain ⟨xb, hxb⟩ : ∃ b, b = w3.heap.size := ⟨_, rfl⟩
   rw [← hxb] at hX
   rw [← hxb]
   have hxw : w.heap.size + 1 < xb := by omega
   obtain ⟨zb, hzb⟩ : ∃ b, b = w.heap.size + 1 := ⟨_, rfl⟩
   rw [← hzb] at hZ
   have hzx : zb ≠ xb := by omega
   have hzw : w.heap.size ≤ zb := by omega
   rw [← hzb]
   have HX0 : Hid (Blk wU xb 32 #[.slice D0 m.rules.length d0, .slice D1 m.pend.length d1, .int .i64 m.turns, .int .i64 m.secs, .int .i64 m.spk, .slice D2 m.wait.length d2, .slice D3 m.shares.length d3, .slice D4 m.outs.length d4]) := lh (by rw [HME.out]; exact hX); have HO0 : Hid (MeO w.heap.size wU D0 d0 D1 d1 D2 d2 D3 d3 D4 d4 m.rules m.pend m.wait m.shares m.outs) := lh (by rw [HME.out]; exact OO)
   have HZ0 := lh hZ; have HB0 := lh HB; clear hX hZ hF OO HB x' z' f0 f1 f2 f3 f4 f5 f6 f7 hxb hzb
   go_wp2
   go_loopw [8, 26] (fun cv v wr => ∃ (k cnt : Nat) (n : Mee) (D0 : Option Addr) (d0 : Nat) (D1 : Option Addr) (d1 : Nat) (D2 : Option Addr) (d2 : Nat) (D3 : Option Addr) (d3 : Nat) (D4 : Option Addr) (d4 : Nat), k ≤ al.length ∧ v = .int .i64 k ∧ cv = .int .i64 cnt ∧ runN m al k = (n, cnt) ∧ cnt ≤ k ∧ MeeOk n ∧ Blk wr xb 32 #[.slice D0 n.rules.length d0, .slice D1 n.pend.length d1, .int .i64 n.turns, .int .i64 n.secs, .int .i64 n.spk, .slice D2 n.wait.length d2, .slice D3 n.shares.length d3, .slice D4 n.outs.length d4] ∧ Blk wr zb 32 #[.slice none 0 0, .slice none 0 0, .int .i64 0, .int .i64 0, .int .i64 0, .slice none 0 0, .slice none 0 0, .slice none 0 0] ∧ MeO w.heap.size wr D0 d0 D1 d1 D2 d2 D3 d3 D4 d4 n.rules n.pend n.wait n.shares n.outs ∧ Below w.heap.size w wr) (fun _ v _ => al.length - (intOf v).toNat)
   case atStart => exact ⟨0, 0, m, D0, d0, D1, d1, D2, d2, D3, d3, D4, d4, Nat.zero_le _, rfl, rfl, rfl, Nat.le_refl _, hok.out, HX0.out, HZ0.out, HO0.out, HB0.out⟩
   case round =>
    clear HX0 HO0 HZ0 HB0
    obtain ⟨k, cnt, n, E0, e0, E1, e1, E2, e2, E3, e3, E4, e4, hk, rfl, rfl, hrn, hck, hno, hX, hZ, OO, HB⟩ := hrel
    have HRN := lh hrn; clear hrn; have hxr := hX.lt; have hzr := hZ.lt; have HNO := lh hno; clear hno
    by_cases hlt : k < al.length
    ·obtain ⟨b, off, a, rfl, hbl, ha, hca⟩ := HRA.out.at_ HB hlt
     obtain ⟨ak, am, av, ay, an, aa⟩ := a
     have p0 := hca 0 _ rfl; have p1 := hca 1 _ rfl; have p2 := hca 2 _ rfl; have p3 := hca 3 _ rfl; have p4 := hca 4 _ rfl; have p5 := hca 5 _ rfl
     simp only [Nat.add_zero] at p0
     have g0 := p0 (Kin.self _); have g1 := p1 (Kin.self _); have g2 := p2 (Kin.self _); have g3 := p3 (Kin.self _); have g4 := p4 (Kin.self _); have g5 := p5 (Kin.self _)
     simp only [Kin.self] at g0
     simp only [Kin.self] at g1
     simp only [Kin.self] at g2
     simp only [Kin.self] at g3
     simp only [Kin.self] at g4
     simp only [Kin.self] at g5
     have HA := lh ha; clear ha hca p0 p1 p2 p3 p4 p5; have x' := hX.cs8; have z' := hZ.cs8
     go_upto_region 7 with fail
     refine lay1 fun wV hq5 hA => ?_
     replace HB := bth HB hq5; have a' := hA.cs6; clear x'; replace hX := hX.to hq5; have x' := hX.cs8; clear z'; replace hZ := hZ.to hq5; have z' := hZ.cs8; clear g0 g1 g2 g3 g4 g5; have OO6 := OO.later hq5; have szv := hq5.size; have HH := lh (fun W (hb : Below wV.heap.size wV W) => iMakeA_is E0 E1 E2 E3 E4 e0 e1 e2 e3 e4 n.rules n.pend n.turns n.secs n.spk n.wait n.shares n.outs (OO6.inL HNO.out) ak am av ay an aa HNO.out W (OO6.rd.below hb))
     have HOO := lh OO6; clear OO OO6
     generalize ho : mkA ⟨n.rules, n.pend, n.turns, n.secs, n.spk, n.wait, n.shares, n.outs⟩ ⟨ak, am, av, ay, an, aa⟩ = o at HH
     have HM2 : Hid (mkA n ⟨ak, am, av, ay, an, aa⟩ = o) := lh ho; clear ho
     cases o with
     | none =>
      go_wp2_with fail
      refine (HH.out _ (Below.refl _ _)).mono ?_
      rintro e w6 ⟨rfl, hb6⟩
      have hq6 : Below wV.heap.size wV w6 := bth bel hb6; replace HB := bth HB hq6; replace hX := hX.to hq6; clear x'; have x' := hX.cs8; replace hZ := hZ.to hq6; clear z'; have z' := hZ.cs8; replace hA := hA.to hq6; clear a'; have a' := hA.cs6; have hX7 := hX; have hZ7 := hZ; have HB7 := HB; have OO7 := HOO.out.later hq6; clear HH hq6 hb6
      go_wp2
      go_roundw
      case rel => exact ⟨k + 1, cnt, n, E0, e0, E1, e1, E2, e2, E3, e3, E4, e4, by omega, by go_num, rfl, by rw [runN_none HA.out (by rw [HRN.out]; exact HM2.out), HRN.out], by omega, HNO.out, hX7.alloc _, hZ7.alloc _, OO7.later (bl1 _ _), bth HB7 (bl1 _ _)⟩
      case measure => simp [intOf]; omega
     | some n2 =>
      have szb := HB.size
      go_wp2_with fail
      refine (HH.out _ (Below.refl _ _)).mono ?_
      rintro e w6 ⟨F0, f0, F1, f1, F2, f2, F3, f3, F4, f4, rfl, ON, hb6⟩
      have hq6 : Below wV.heap.size wV w6 := bth bel hb6; replace HB := bth HB hq6; replace hX := hX.to hq6; clear x'; have x' := hX.cs8; replace hZ := hZ.to hq6; clear z'; have z' := hZ.cs8; replace hA := hA.to hq6; clear a'; have a' := hA.cs6; clear HH; have sz6 := hq6.size
      go_upto_region 8 with fail
      refine lay1 fun wY hq7 hY => ?_
      replace HB := bth HB hq7; have y' := hY.cs8; clear x'; replace hX := hX.to hq7; have x' := hX.cs8; clear z'; replace hZ := hZ.to hq7; have z' := hZ.cs8; clear a'; replace hA := hA.to hq7; have a' := hA.cs6; have hyl := hY.lt; have hxl := hX.lt; replace ON := (ON.later hq7).base (B' := w.heap.size) (by omega); have O0 := ON.o0; have O1 := ON.o1; have O2 := ON.o2; have O3 := ON.o3; have O4 := ON.o4
      clear ON; have neO0 := O0.notBlkV hX (by decide); have neO1 := O1.notBlkV hX (by decide); have neO2 := O2.notBlkV hX (by decide); have neO3 := O3.notBlkV hX (by decide); have neO4 := O4.notBlkV hX (by decide); have fhX' := hX.fz8; have yhX := hX.lt; have yhZ := hZ.lt; have yhA := hA.lt; have yhY := hY.lt
      go_upto_region 10 with fail
      clear x' z' a' y'
      refine st8 0 fun W9 tW9 => ?_
      replace HB := tW9.hb HB (by omega); replace hX := tW9.all8 hX; replace hZ := tW9.far hZ (by omega); replace hA := tW9.far hA (by omega); replace hY := tW9.far hY (by omega); have gRW9 := tW9.gr; have szW9 := tW9.sz; replace O0 := O0.keptS tW9 neO0; replace O1 := O1.keptS tW9 neO1; replace O2 := O2.keptS tW9 neO2; replace O3 := O3.keptS tW9 neO3; replace O4 := O4.keptS tW9 neO4; have x' := hX.cs8
      have z' := hZ.cs8; have a' := hA.cs6; have y' := hY.cs8; have OZ9 : MeO w.heap.size W9 F0 f0 F1 f1 F2 f2 F3 f3 F4 f4 n2.rules n2.pend n2.wait n2.shares n2.outs := ⟨O0, O1, O2, O3, O4⟩; have hX9 := hX; have hZ9 := hZ
      exact zb84
    ·obtain rfl : k = al.length := by omega
     have x' := hX.cs8; have z' := hZ.cs8; have O0 := OO.o0; have O1 := OO.o1; have O2 := OO.o2; have O3 := OO.o3; have O4 := OO.o4; clear OO; have neO0 := O0.notBlkV hZ (by decide); have neO1 := O1.notBlkV hZ (by decide); have neO2 := O2.notBlkV hZ (by decide); have neO3 := O3.notBlkV hZ (by decide); have neO4 := O4.notBlkV hZ (by decide); have fhZ' := hZ.fz8; have yhX := hX.lt; have yhZ := hZ.lt
     go_wp2
     clear x' z'
     refine st8 0 fun W9 tW9 => ?_
     replace HB := tW9.hb HB (by omega); replace hX := tW9.far hX (by omega); replace hZ := tW9.all8 hZ; have gRW9 := tW9.gr; have szW9 := tW9.sz; replace O0 := O0.keptS tW9 neO0; replace O1 := O1.keptS tW9 neO1; replace O2 := O2.keptS tW9 neO2; replace O3 := O3.keptS tW9 neO3; replace O4 := O4.keptS tW9 neO4; have x' := hX.cs8; have z' := hZ.cs8
     refine bodyPost_ret (v := .tuple #[.agg #[.slice E0 n.rules.length e0, .slice E1 n.pend.length e1, .int .i64 n.turns, .int .i64 n.secs, .int .i64 n.spk, .slice E2 n.wait.length e2, .slice E3 n.shares.length e3, .slice E4 n.outs.length e4], .int .i64 cnt, .bool true]) (by simp [results, Tryz.results25, go_sem, z']) rfl ?_
     exact zb141
end Go.Proofs.YtjimibkgocieoaaGreat
