/- Texts of the proof: walks of the functions, and what they compute. -/
import Derived.Deep.Cut
import Derived.Deep.CutRange
import Derived.Deep.DeepCutAuto
import Derived.Test.YtjimibkgocieoaaGreatRb9
import Derived.Test.YtjimibkgocieoaaGreatRb1
import Derived.Test.YtjimibkgocieoaaGreatRb30
import Derived.Test.YtjimibkgocieoaaGreatRb21
import Derived.Test.YtjimibkgocieoaaGreatRb22
import Derived.Test.YtjimibkgocieoaaGreatRb0
import Derived.Test.YtjimibkgocieoaaGreatRb23
import Derived.Test.YtjimibkgocieoaaGreatRb3
import Derived.Test.YtjimibkgocieoaaGreatRows
set_option maxHeartbeats 16000000
set_option maxRecDepth 100000
namespace Go.Proofs.YtjimibkgocieoaaGreat
open Go.RowKit Go.G9
theorem iActD_is (A0 A1 A2 A3 A4 : Option Addr) (c0 c1 c2 c3 c4 : Nat) (rs : List Rul) (qs : List Que) (tu se sp : Int) (ws : List Int) (sh : List Sha) (os : List Out) (Z : MeeIn A0 A1 A2 A3 A4 c0 c1 c2 c3 c4 rs qs ws sh os) (kind mem val yes no abst : Int) (h : MeeOk ⟨rs, qs, tu, se, sp, ws, sh, os⟩) (w : World) (R : MeR w A0 A1 A2 A3 A4 rs qs ws sh os) :
 Calls Tryz.prog 9 #[.agg #[.slice A0 rs.length c0, .slice A1 qs.length c1, .int .i64 tu, .int .i64 se, .int .i64 sp, .slice A2 ws.length c2, .slice A3 sh.length c3, .slice A4 os.length c4], .agg #[.int .i64 kind, .int .i64 mem, .int .i64 val, .int .i64 yes, .int .i64 no, .int .i64 abst]] w fun e w' => ∃ (rs' : List Rul) (qs' : List Que) (tu' se' sp' : Int) (ws' : List Int) (sh' : List Sha) (os' : List Out) (E0 : Option Addr) (e0 : Nat) (E1 : Option Addr) (e1 : Nat) (E2 : Option Addr) (e2 : Nat) (E3 : Option Addr) (e3 : Nat) (E4 : Option Addr) (e4 : Nat) (b : Bool), e = .returned (.tuple #[.agg #[.slice E0 rs'.length e0, .slice E1 qs'.length e1, .int .i64 tu', .int .i64 se', .int .i64 sp', .slice E2 ws'.length e2, .slice E3 sh'.length e3, .slice E4 os'.length e4], .bool b]) ∧ Hid (mkA ⟨rs, qs, tu, se, sp, ws, sh, os⟩ ⟨kind, mem, val, yes, no, abst⟩ = if b = true then some ⟨rs', qs', tu', se', sp', ws', sh', os'⟩ else none) ∧ MeO w.heap.size w' E0 e0 E1 e1 E2 e2 E3 e3 E4 e4 rs' qs' ws' sh' os' ∧ Below w.heap.size w w' := by
 have H := iMake_is A0 A1 A2 A3 A4 c0 c1 c2 c3 c4 rs qs tu se sp ws sh os Z kind mem val yes no abst w R
 rw [if_pos (mee_ok.2 h)] at H
 cases hm : mkA ⟨rs, qs, tu, se, sp, ws, sh, os⟩ ⟨kind, mem, val, yes, no, abst⟩ with
 | none =>
  rw [hm] at H
  exact H.mono fun e w' ⟨he, hb⟩ => ⟨[], [], 0, 0, 0, [], [], [], none, 0, none, 0, none, 0, none, 0, none, 0, false, he, lh (by simp), meO_nil, hb⟩
 | some n =>
  rw [hm] at H
  obtain ⟨rs', qs', tu', se', sp', ws', sh', os'⟩ := n
  exact H.mono fun e w' ⟨D0, d0, D1, d1, D2, d2, D3, d3, D4, d4, he, hO, hb⟩ => ⟨rs', qs', tu', se', sp', ws', sh', os', D0, d0, D1, d1, D2, d2, D3, d3, D4, d4, true, he, lh (by simp), hO, hb⟩
structure RunF (m : Mee) (al : List Ac) (m5 : Mee) (c5 : Int) (b5 : Bool) : Prop where
 l : m5.rules.length ≤ 1048576 ∧ m5.pend.length ≤ 1048576 ∧ m5.wait.length ≤ 1048576 ∧ m5.shares.length ≤ 1048576 ∧ m5.outs.length ≤ 1048576
 yes : b5 = true → MeeOk m ∧ al.length ≤ 20 ∧ runN m al al.length = (m5, c5.toNat) ∧ c5 = (c5.toNat : Int)
theorem runF (m : Mee) (al : List Ac) : RunF m al (runM m al) (runC m al) (runB m al) := by
 have hl := runM_len m al
 refine ⟨⟨by omega, by omega, by omega, by omega, by omega⟩, fun h => ?_⟩
 have h2 := h
 simp only [runB, Bool.and_eq_true, decide_eq_true_eq] at h2
 rw [runM_yes h, runC_yes h]
 exact ⟨mee_ok.1 h2.1, h2.2, by simp, by simp⟩
theorem zb13 {p : Prop} (h : p := by
 clear v0 v1 v2 v3 v4 v5 v6 v7
 obtain ⟨v0, v1, v2, v3, v4, v5, v6, v7⟩ := hN.cs8
 have neQ0 := Q0.nb hN; have neQ1 := Q1.nb hN; have neQ2 := Q2.nb hN; have neQ3 := Q3.nb hN; have neQ4 := Q4.nb hN; have fhN' := hN.fz8; have yhN := hN.lt
 refine rest_one 10 [11] #[true, true, true, true, true, true, true, true, true, true, true, true] (by kernel_rfl) ((HCC.out _).2 HB) (fun K hK => ?_)
 change wpList _ _ _ (_ :: []) _ _
 go_wp2
 clear v0 v1 v2 v3 v4 v5 v6 v7
 refine st8 0 fun wS twS => ?_
 replace HB := twS.hc HB; replace hN := twS.all8 hN; have gRwS := twS.gr; have szwS := twS.sz; replace Q0 := Q0.keptS twS neQ0; replace Q1 := Q1.keptS twS neQ1; replace Q2 := Q2.keptS twS neQ2; replace Q3 := Q3.keptS twS neQ3; replace Q4 := Q4.keptS twS neQ4
 obtain ⟨v0, v1, v2, v3, v4, v5, v6, v7⟩ := hN.cs8
 refine ⟨rfl, (HCC.out _).2 HB, ?_⟩
 change wpQuiet _ _ _ _ (_ :: []) _
 repeat (go_big_quiet_step (fail))
 refine wpQuiet_nil ?_
 refine hK _ _ ?_
 clear hK K
 refine rest_end (by kernel_rfl) ((HCC.out _).2 HB) ?_
 go_wp2_with fail
 go_meet
 exact ⟨nb, b, rs', qs', tu', se', sp', ws', sh', os', E0, e0, E1, e1, E2, e2, E3, e3, E4, e4, rfl, rfl, hnw, HBK, hN, ⟨Q0, Q1, Q2, Q3, Q4⟩, HB⟩) : p := h
theorem law_acts (A : Option Addr) (c : Nat) (cs : List UInt8) (w : World) (hR : Rds 1 u8C w A cs) :
 Calls Tryz.prog 4 #[.slice A cs.length c] w fun e w' => e = .returned (.bool true) ∧ Below w.heap.size w w' := by
 by_cases hbig : 65536 < cs.length
 ·go_in
  go_wp2_with fail
  refine (vBig_is A c cs.length _ (decide_eq_true hbig) _).mono ?_
  rintro e w0 ⟨rfl, h0⟩
  rw [h0]
  clear h0 w0
  go_wp2
  go_ret
  exact ⟨rfl, Below.refl _ _⟩
 have hcs : cs.length ≤ 1048576 := by omega
 have HBG := lh (decide_eq_false hbig); have HR := lh hR; clear hR hbig
 go_in
 go_wp2_with fail
 refine (vBig_is A c cs.length _ HBG.out _).mono ?_
 rintro e w0 ⟨rfl, h0⟩
 rw [h0]
 clear h0 w0
 go_wp2_with fail
 refine (drawRunActs_is A c cs hcs _ HR.out).mono ?_
 rintro e w1 ⟨rs, qs, tu, se, sp, ws, sh, os, D0, d0, D1, d1, D2, d2, D3, d3, D4, d4, al, Y, y, rfl, hl0, hrn, hl1, hl2, hl3, hl4, hla, OO, OL, hb1⟩
 have hq1 := be w hb1; have HB : Below w.heap.size w w1 := hq1; clear hrn; have HZ := lh (OO.inp (by omega) (by omega) (by omega) (by omega) (by omega)); have OM := OO; have OA := OL; clear OO OL; have RM := OM.rd; have RA := OA.rds (hf := ac_len)
 have hal : al.length ≤ 1048576 := by omega
 have HI := lh (fun W (h : MeR W D0 D1 D2 D3 D4 rs qs ws sh os) (h' : Rds 6 Ac.cells W Y al) => iRun_is D0 D1 D2 D3 D4 d0 d1 d2 d3 d4 rs qs tu se sp ws sh os HZ.out Y y al hal W h h'); have HS := lh (fun W (h : MeR W D0 D1 D2 D3 D4 rs qs ws sh os) (h' : Rds 6 Ac.cells W Y al) => sRun_is D0 D1 D2 D3 D4 d0 d1 d2 d3 d4 rs qs tu se sp ws sh os HZ.out Y y al hal W h h'); have HRF := lh (runF ⟨rs, qs, tu, se, sp, ws, sh, os⟩ al)
 generalize runM ⟨rs, qs, tu, se, sp, ws, sh, os⟩ al = m5 at *
 generalize runC ⟨rs, qs, tu, se, sp, ws, sh, os⟩ al = c5 at *
 generalize runB ⟨rs, qs, tu, se, sp, ws, sh, os⟩ al = b5 at *
 obtain ⟨rs5, qs5, tu5, se5, sp5, ws5, sh5, os5⟩ := m5
 simp only at HI HS
 obtain ⟨k0, k1, k2, k3, k4⟩ := HRF.out.l
 simp only at k0 k1 k2 k3 k4
 go_upto_region 4 with fail
 refine lay1 fun wM hq2 hM => ?_
 replace RM := RM.below hq2; replace RA := RA.below hq2; replace OM := OM.later hq2; replace OA := OA.later hq2; replace HB := bth HB hq2
 obtain ⟨x0, x1, x2, x3, x4, x5, x6, x7⟩ := hM.cs8
 have szM := HB.size
 go_wp2_with fail
 refine (HI.out _ (RM.below bel) (RA.below bel)).mono ?_
 rintro e w3 ⟨I0, i0, I1, i1, I2, i2, I3, i3, I4, i4, rfl, OE, hb3⟩
 have hq3 := be wM hb3; replace HB := bth HB hq3; replace RM := RM.below hq3; replace RA := RA.below hq3; replace OM := OM.later hq3; replace OA := OA.later hq3; replace hM := hM.to hq3; clear x0 x1 x2 x3 x4 x5 x6 x7
 obtain ⟨x0, x1, x2, x3, x4, x5, x6, x7⟩ := hM.cs8
 have szi := HB.size; replace OE := OE.base (B' := w.heap.size) (by omega); have RE := OE.rd
 go_upto_region 5 with fail
 obtain ⟨m5b, hm5⟩ : ∃ b, b = w3.heap.size := ⟨_, rfl⟩
 refine lay1 fun wN hq4 hN => ?_
 replace RM := RM.below hq4; replace RA := RA.below hq4; replace OM := OM.later hq4; replace OA := OA.later hq4; replace RE := RE.below hq4; replace OE := OE.later hq4; replace HB := bth HB hq4
 obtain ⟨n0, n1, n2, n3, n4, n5, n6, n7⟩ := hN.cs8
 clear x0 x1 x2 x3 x4 x5 x6 x7; replace hM := hM.to hq4
 obtain ⟨x0, x1, x2, x3, x4, x5, x6, x7⟩ := hM.cs8
 go_wp2_with fail
 refine (HS.out _ (RM.below bel) (RA.below bel)).mono ?_
 rintro e w5 ⟨F0, f0, F1, f1, F2, f2, F3, f3, F4, f4, rfl, OF, hb5⟩
 have hq5 := be wN hb5; replace HB := bth HB hq5; replace RM := RM.below hq5; replace RA := RA.below hq5; replace OM := OM.later hq5; replace OA := OA.later hq5; replace RE := RE.below hq5; replace OE := OE.later hq5; replace hM := hM.to hq5; clear x0 x1 x2 x3 x4 x5 x6 x7
 obtain ⟨x0, x1, x2, x3, x4, x5, x6, x7⟩ := hM.cs8
 replace hN := hN.to hq5; clear n0 n1 n2 n3 n4 n5 n6 n7
 obtain ⟨n0, n1, n2, n3, n4, n5, n6, n7⟩ := hN.cs8
 have RF := OF.rd; clear OF
 go_upto_region 6 with fail
 refine lay1 fun wO hq6 hO => ?_
 replace RM := RM.below hq6; replace RA := RA.below hq6; replace OM := OM.later hq6; replace OA := OA.later hq6; replace RE := RE.below hq6; replace OE := OE.later hq6; replace RF := RF.below hq6; replace HB := bth HB hq6
 obtain ⟨o0, o1, o2, o3, o4, o5, o6, o7⟩ := hO.cs8
 clear x0 x1 x2 x3 x4 x5 x6 x7; replace hM := hM.to hq6
 obtain ⟨x0, x1, x2, x3, x4, x5, x6, x7⟩ := hM.cs8
 clear n0 n1 n2 n3 n4 n5 n6 n7; replace hN := hN.to hq6
 obtain ⟨n0, n1, n2, n3, n4, n5, n6, n7⟩ := hN.cs8
 have hbb : (!(b5 == b5)) = false := by simp
 have hcc : (!(c5 == c5)) = false := by simp
 go_wp2_with fail
 refine (vMeeting_is rs5 qs5 tu5 se5 sp5 ws5 sh5 os5 I0 I1 I2 I3 I4 i0 i1 i2 i3 i4 F0 F1 F2 F3 F4 f0 f1 f2 f3 f4 k0 k1 k2 k3 k4 _ (RE.below bel) (RF.below bel)).mono ?_
 rintro e w7 ⟨rfl, hb7⟩
 have hq7 := be wO hb7; replace HB := bth HB hq7; replace RM := RM.below hq7; replace RA := RA.below hq7; replace OM := OM.later hq7; replace OA := OA.later hq7; replace RE := RE.below hq7; replace OE := OE.later hq7; replace RF := RF.below hq7; replace hM := hM.to hq7; clear x0 x1 x2 x3 x4 x5 x6 x7
 obtain ⟨x0, x1, x2, x3, x4, x5, x6, x7⟩ := hM.cs8
 replace hN := hN.to hq7; clear n0 n1 n2 n3 n4 n5 n6 n7
 obtain ⟨n0, n1, n2, n3, n4, n5, n6, n7⟩ := hN.cs8
 replace hO := hO.to hq7; clear o0 o1 o2 o3 o4 o5 o6 o7
 obtain ⟨o0, o1, o2, o3, o4, o5, o6, o7⟩ := hO.cs8
 go_upto_if 70 with fail
 generalize w7 = wJ at *
 clear RF hO HI HS hbb hcc x0 x1 x2 x3 x4 x5 x6 x7 n0 n1 n2 n3 n4 n5 n6 n7 o0 o1 o2 o3 o4 o5 o6 o7
 rw [← hm5] at hN
 rw [← hm5]
 have hm5w : w.heap.size ≤ m5b := by omega
 clear hm5
 go_cut [] (fun W => Below w.heap.size w W)
 case first =>
  cases b5
  ·go_wp2_with fail
   go_meet
   exact HB
  obtain ⟨hok, h20, hrun, hc5⟩ := HRF.out.yes rfl
  obtain ⟨n5, hn5⟩ : ∃ n, n = c5.toNat := ⟨_, rfl⟩
  rw [← hn5] at hrun hc5
  clear hn5
  subst hc5
  have HRUN := lh hrun; have HOK0 := lh hok; clear hok hrun HRF h20; have szj := HB.size; have hnl := hN.lt
  obtain ⟨x0, x1, x2, x3, x4, x5, x6, x7⟩ := hM.cs8
  go_upto_region 10 with fail
  obtain ⟨tb, htb⟩ : ∃ b, b = wJ.heap.size := ⟨_, rfl⟩
  refine lay1 fun wT hq8 hT => ?_
  replace OM := OM.later hq8; replace OA := OA.later hq8; replace OE := OE.later hq8; replace HB := bth HB hq8
  obtain ⟨t0, t1, t2, t3, t4, t5, t6, t7⟩ := hT.cs8
  rw [← htb] at hT t0 t1 t2 t3 t4 t5 t6 t7
  rw [← htb]
  have htw : w.heap.size ≤ tb := by omega
  have htm : m5b < tb := by omega
  replace hN := hN.to hq8; clear htb hnl szj hM x0 x1 x2 x3 x4 x5 x6 x7 t0 t1 t2 t3 t4 t5 t6 t7; clear RM RA RE
  go_wp2
  go_loopw [12, 13] (fun cv v wr => ∃ (k cnt : Nat) (rs6 : List Rul) (qs6 : List Que) (tu6 se6 sp6 : Int) (ws6 : List Int) (sh6 : List Sha) (os6 : List Out) (G0 : Option Addr) (g0 : Nat) (G1 : Option Addr) (g1 : Nat) (G2 : Option Addr) (g2 : Nat) (G3 : Option Addr) (g3 : Nat) (G4 : Option Addr) (g4 : Nat), k ≤ al.length ∧ v = .int .i64 (k : Int) ∧ cv = .int .i64 (cnt : Int) ∧ Hid (runN ⟨rs, qs, tu, se, sp, ws, sh, os⟩ al k = (⟨rs6, qs6, tu6, se6, sp6, ws6, sh6, os6⟩, cnt)) ∧ cnt ≤ k ∧ Hid (MeeOk ⟨rs6, qs6, tu6, se6, sp6, ws6, sh6, os6⟩) ∧ Blk wr m5b 32 #[.slice I0 rs5.length i0, .slice I1 qs5.length i1, .int .i64 tu5, .int .i64 se5, .int .i64 sp5, .slice I2 ws5.length i2, .slice I3 sh5.length i3, .slice I4 os5.length i4] ∧ MeO w.heap.size wr I0 i0 I1 i1 I2 i2 I3 i3 I4 i4 rs5 qs5 ws5 sh5 os5 ∧ OwnV w.heap.size 36 6 Ac.cells wr (.slice Y al.length y) al ∧ Blk wr tb 32 #[.slice G0 rs6.length g0, .slice G1 qs6.length g1, .int .i64 tu6, .int .i64 se6, .int .i64 sp6, .slice G2 ws6.length g2, .slice G3 sh6.length g3, .slice G4 os6.length g4] ∧ MeO w.heap.size wr G0 g0 G1 g1 G2 g2 G3 g3 G4 g4 rs6 qs6 ws6 sh6 os6 ∧ Below w.heap.size w wr) (fun _ v _ => al.length - (intOf v).toNat)
  case atStart => exact ⟨0, 0, rs, qs, tu, se, sp, ws, sh, os, D0, d0, D1, d1, D2, d2, D3, d3, D4, d4, Nat.zero_le _, rfl, rfl, lh rfl, Nat.le_refl _, HOK0, hN, OE, OA, hT, OM, HB⟩
  case round =>
   clear hN OE OA hT OM HB
   obtain ⟨k, cnt, rs6, qs6, tu6, se6, sp6, ws6, sh6, os6, G0, g0, G1, g1, G2, g2, G3, g3, G4, g4, hk, rfl, rfl, HRN, hck, HOK, hN, OE, OA, hT, OG, HB⟩ := hrel
   obtain ⟨l0, l1, l2, l3, l4⟩ := mee_len HOK.out
   simp only at l0 l1 l2 l3 l4
   have HZG := lh (OG.inp (by omega) (by omega) (by omega) (by omega) (by omega)); have szr := HB.size; have hnl := hN.lt; have htl := hT.lt
   by_cases hlt : k < al.length
   ·have RAr := OA.rds (hf := ac_len)
    obtain ⟨ab, af, a, hYe, hbl, ha, hca⟩ := RAr.at_ (Below.refl _ _) hlt
    subst hYe
    obtain ⟨ak, am, av, ay, an, aa⟩ := a
    have HA := lh ha; clear ha hca
    go_upto_region 14 with fail
    go_cut [14, 15] from 72 to 90 (fun v14 v15 W => ∃ (nb : Nat) (b : Bool) (rs' : List Rul) (qs' : List Que) (tu' se' sp' : Int) (ws' : List Int) (sh' : List Sha) (os' : List Out) (E0 : Option Addr) (e0 : Nat) (E1 : Option Addr) (e1 : Nat) (E2 : Option Addr) (e2 : Nat) (E3 : Option Addr) (e3 : Nat) (E4 : Option Addr) (e4 : Nat), v14 = .pointer (some ⟨nb, 0, none⟩) ∧ v15 = .bool b ∧ wr.heap.size ≤ nb ∧ Hid (mkA ⟨rs6, qs6, tu6, se6, sp6, ws6, sh6, os6⟩ ⟨ak, am, av, ay, an, aa⟩ = if b = true then some ⟨rs', qs', tu', se', sp', ws', sh', os'⟩ else none) ∧ Blk W nb 32 #[.slice E0 rs'.length e0, .slice E1 qs'.length e1, .int .i64 tu', .int .i64 se', .int .i64 sp', .slice E2 ws'.length e2, .slice E3 sh'.length e3, .slice E4 os'.length e4] ∧ MeO wr.heap.size W E0 e0 E1 e1 E2 e2 E3 e3 E4 e4 rs' qs' ws' sh' os' ∧ Below wr.heap.size wr W)
    case first =>
     have RG := OG.rd; have HAC := lh (fun W (h : MeR W G0 G1 G2 G3 G4 rs6 qs6 ws6 sh6 os6) => iActD_is G0 G1 G2 G3 G4 g0 g1 g2 g3 g4 rs6 qs6 tu6 se6 sp6 ws6 sh6 os6 HZG.out ak am av ay an aa HOK.out W h); clear HB OE OA hN OG szr hnl htm htw
     generalize wr = w at *
     have HT := lh hT; have HRA := lh RAr; have HRG := lh RG; clear hT RAr
     obtain ⟨CC, hCC⟩ : ∃ X : World → Prop, ∀ V, X V ↔ Below w.heap.size w V := ⟨_, fun _ => Iff.rfl⟩
     have HCC := lh hCC; clear hCC
     haveI : Nonempty (Hld CC) := ⟨⟨w, (HCC.out _).2 (Below.refl _ _)⟩⟩
     refine wp_region_rest CC [0, 1, 2, 3, 4] #[true, true, true, true, true, false, false, false, false, false, false, false] (by kernel_rfl) (by kernel_rfl) ((HCC.out _).2 (Below.refl _ _).drew) (fun K hK => ?_)
     obtain ⟨x0, x1, x2, x3, x4, x5, x6, x7⟩ := Blk.cs8K (fun K : Hld CC => HT.out.below ((HCC.out _).1 K.holds) HT.out.lt)
     have a0 := fun K : Hld CC => rds_cellz (HRA.out.below ((HCC.out _).1 K.holds)) HA.out (i := 0) (u := .int .i64 ak) rfl
     have a1 := fun K : Hld CC => rds_cellz (HRA.out.below ((HCC.out _).1 K.holds)) HA.out (i := 1) (u := .int .i64 am) rfl
     have a2 := fun K : Hld CC => rds_cellz (HRA.out.below ((HCC.out _).1 K.holds)) HA.out (i := 2) (u := .int .i64 av) rfl
     have a3 := fun K : Hld CC => rds_cellz (HRA.out.below ((HCC.out _).1 K.holds)) HA.out (i := 3) (u := .int .i64 ay) rfl
     have a4 := fun K : Hld CC => rds_cellz (HRA.out.below ((HCC.out _).1 K.holds)) HA.out (i := 4) (u := .int .i64 an) rfl
     have a5 := fun K : Hld CC => rds_cellz (HRA.out.below ((HCC.out _).1 K.holds)) HA.out (i := 5) (u := .int .i64 aa) rfl
     simp only [Nat.add_zero] at a0
     have hlt2 : decide ((k : Int) < (al.length : Int)) = true := decide_eq_true (by omega)
     change wpQuiet _ _ _ _ (_ :: _ :: _ :: _ :: _ :: []) _
     repeat (go_big_quiet_step (fail))
     refine wpQuiet_nil ?_
     refine hK _ _ ?_
     have HB : Below w.heap.size w w.drew := (Below.refl _ _).drew; clear hK K RG hlt2 x0 x1 x2 x3 x4 x5 x6 x7 a0 a1 a2 a3 a4 a5
     generalize w.drew = wd at *
     refine rest_two 5 [6, 7, 8] #[true, true, true, true, true, true, true, true, true, false, false, false] 9 [] #[true, true, true, true, true, false, false, false, false, true, false, false] (by kernel_rfl) ((HCC.out _).2 HB) (fun K hK => ?_) (fun K hK => ?_)
     ·skip
      change wpList _ _ _ (_ :: []) _ _
      have szq := HB.size
      go_wp2_with fail
      refine (HAC.out _ (HRG.out.below (bth HB bel))).mono ?_
      rintro e w9 ⟨rs', qs', tu', se', sp', ws', sh', os', E0, e0, E1, e1, E2, e2, E3, e3, E4, e4, b, rfl, HBK, OQ, hb9⟩
      have hq9 := be wd hb9; replace HB := bth HB hq9; replace OQ := OQ.base (B' := w.heap.size) (by omega); have Q0 := OQ.o0; have Q1 := OQ.o1; have Q2 := OQ.o2; have Q3 := OQ.o3; have Q4 := OQ.o4; clear OQ szq
      go_wp2
      refine ⟨rfl, (HCC.out _).2 HB, ?_⟩
      change wpQuiet _ _ _ _ (_ :: _ :: _ :: []) _
      repeat (go_big_quiet_step (fail))
      refine wpQuiet_nil ?_
      refine hK _ _ ?_
      clear hK K
      refine rest_one 9 [] #[true, true, true, true, true, true, true, true, true, true, false, false] (by kernel_rfl) ((HCC.out _).2 HB) (fun K hK => ?_)
      change wpList _ _ _ (_ :: []) _ _
      obtain ⟨nb, hnb⟩ : ∃ b, b = w9.heap.size := ⟨_, rfl⟩
      have hnw : w.heap.size ≤ nb := by have := HB.size; omega
      go_wp2
      refine lay1 fun wA hq10 hN => ?_
      replace Q0 := Q0.later hq10; replace Q1 := Q1.later hq10; replace Q2 := Q2.later hq10; replace Q3 := Q3.later hq10; replace Q4 := Q4.later hq10; replace HB := bth HB hq10
      obtain ⟨v0, v1, v2, v3, v4, v5, v6, v7⟩ := hN.cs8
      rw [← hnb] at hN v0 v1 v2 v3 v4 v5 v6 v7
      rw [← hnb]
      clear hnb v0 v1 v2 v3 v4 v5 v6 v7
      obtain ⟨v0, v1, v2, v3, v4, v5, v6, v7⟩ := hN.cs8
      refine ⟨rfl, (HCC.out _).2 HB, ?_⟩
      change wpQuiet _ _ _ _ ([]) _
      refine wpQuiet_nil ?_
      refine hK _ _ ?_
      clear hK K
      generalize wA = wT at *
      exact zb13
     ·skip
      change wpList _ _ _ (_ :: []) _ _
      obtain ⟨nb, hnb⟩ : ∃ b, b = wd.heap.size := ⟨_, rfl⟩
      have hnw : w.heap.size ≤ nb := by have := HB.size; omega
      go_wp2
      refine lay1 fun wA hq9 hN => ?_
      replace HB := bth HB hq9
      obtain ⟨v0, v1, v2, v3, v4, v5, v6, v7⟩ := hN.cs8
      rw [← hnb] at hN v0 v1 v2 v3 v4 v5 v6 v7
      rw [← hnb]
      clear hnb v0 v1 v2 v3 v4 v5 v6 v7
      obtain ⟨v0, v1, v2, v3, v4, v5, v6, v7⟩ := hN.cs8
      refine ⟨rfl, (HCC.out _).2 HB, ?_⟩
      change wpQuiet _ _ _ _ ([]) _
      refine wpQuiet_nil ?_
      refine hK _ _ ?_
      clear hK K
      refine rest_one 5 [6, 7, 8] #[true, true, true, true, true, true, true, true, true, true, false, false] (by kernel_rfl) ((HCC.out _).2 HB) (fun K hK => ?_)
      change wpList _ _ _ (_ :: []) _ _
      have szq := HB.size
      go_wp2_with fail
      refine (HAC.out _ (HRG.out.below (bth HB bel))).mono ?_
      rintro e w10 ⟨rs', qs', tu', se', sp', ws', sh', os', E0, e0, E1, e1, E2, e2, E3, e3, E4, e4, b, rfl, HBK, OQ, hb10⟩
      have hq10 := be wA hb10; replace HB := bth HB hq10; replace hN := hN.to hq10; clear v0 v1 v2 v3 v4 v5 v6 v7
      obtain ⟨v0, v1, v2, v3, v4, v5, v6, v7⟩ := hN.cs8
      replace OQ := OQ.base (B' := w.heap.size) (by omega); have Q0 := OQ.o0; have Q1 := OQ.o1; have Q2 := OQ.o2; have Q3 := OQ.o3; have Q4 := OQ.o4; clear OQ szq
      go_wp2
      refine ⟨rfl, (HCC.out _).2 HB, ?_⟩
      change wpQuiet _ _ _ _ (_ :: _ :: _ :: []) _
      repeat (go_big_quiet_step (fail))
      refine wpQuiet_nil ?_
      refine hK _ _ ?_
      clear hK K
      generalize w10 = wT at *
      exact zb13
    case rest =>
     obtain ⟨nb, b, rs', qs', tu', se', sp', ws', sh', os', E0, e0, E1, e1, E2, e2, E3, e3, E4, e4, rfl, rfl, hnw, HBK, hB, OQ, hBr⟩ := hcut
     generalize wc = wS at *
     replace HB := bth HB hBr; replace hN := hN.to hBr; replace OE := OE.later hBr; replace OA := OA.later hBr; replace hT := hT.to hBr; replace OG := OG.later hBr
     cases b
     ·have hmk : mkA ⟨rs6, qs6, tu6, se6, sp6, ws6, sh6, os6⟩ ⟨ak, am, av, ay, an, aa⟩ = none := by simpa using HBK.out
      have HMK := lh hmk; clear hmk
      go_wp2
      go_roundw
      case rel => exact ⟨k + 1, cnt, rs6, qs6, tu6, se6, sp6, ws6, sh6, os6, G0, g0, G1, g1, G2, g2, G3, g3, G4, g4, by omega, by go_num, rfl, lh (by rw [runN_none HA.out (by rw [HRN.out]; exact HMK.out), HRN.out]), by omega, HOK, hN, OE, OA, hT, OG, HB⟩
      case measure => simp [intOf]; omega
     ·have hmk : mkA ⟨rs6, qs6, tu6, se6, sp6, ws6, sh6, os6⟩ ⟨ak, am, av, ay, an, aa⟩ = some ⟨rs', qs', tu', se', sp', ws', sh', os'⟩ := by simpa using HBK.out
      have HMK := lh hmk; clear hmk; have HTB := lh hT; have HOE := lh OE; have HOA := lh OA; have HOQ := lh (OQ.base (B' := w.heap.size) szr); have hTl := hT.lt; have hNl := hN.lt; have hBl := hB.lt; clear OE OA OQ OG
      obtain ⟨n0, n1, n2, n3, n4, n5, n6, n7⟩ := hN.cs8
      obtain ⟨t0, t1, t2, t3, t4, t5, t6, t7⟩ := hT.cs8
      obtain ⟨v0, v1, v2, v3, v4, v5, v6, v7⟩ := hB.cs8
      have fhT' := hT.fz8; have yhN := hN.lt; have yhT := hT.lt; have yhB := hB.lt
      go_upto_region 17 with fail
      clear n0 n1 n2 n3 n4 n5 n6 n7 t0 t1 t2 t3 t4 t5 t6 t7 v0 v1 v2 v3 v4 v5 v6 v7
      refine st8 0 fun WY tWY => ?_
      replace HB := tWY.hc HB; replace hN := tWY.fa hN; replace hT := tWY.all8 hT; replace hB := tWY.fa hB; have gRWY := tWY.gr; have szWY := tWY.sz
      obtain ⟨n0, n1, n2, n3, n4, n5, n6, n7⟩ := hN.cs8
      obtain ⟨t0, t1, t2, t3, t4, t5, t6, t7⟩ := hT.cs8
      obtain ⟨v0, v1, v2, v3, v4, v5, v6, v7⟩ := hB.cs8
      have OE := HOE.out.keptM HTB.out gRWY; have OQ := HOQ.out.keptM HTB.out gRWY; have OA := HOA.out.kept gRWY (fun k hk e => HOA.out.notBlkV HTB.out (by decide) k hk (Option.some.inj e))
      go_wp2
      go_roundw
      case rel => exact ⟨k + 1, cnt + 1, rs', qs', tu', se', sp', ws', sh', os', E0, e0, E1, e1, E2, e2, E3, e3, E4, e4, by omega, by go_num, by go_num, lh (by rw [runN_some HA.out (by rw [HRN.out]; exact HMK.out), HRN.out]), by omega, lh (mkA_ok HOK.out HMK.out), hN, OE, OA, hT, OQ, HB⟩
      case measure => simp [intOf]; omega
   ·have hkl : k = al.length := by omega
    have heq := HRN.out
    rw [hkl, HRUN.out] at heq
    simp only [Prod.mk.injEq, Mee.mk.injEq] at heq
    obtain ⟨⟨q1, q2, q3, q4, q5, q6, q7, q8⟩, q9⟩ := heq
    subst q1; subst q2; subst q3; subst q4; subst q5; subst q6; subst q7; subst q8; subst q9
    have RG := OG.rd; have RE := OE.rd
    have hcc : (!((n5 : Int) == (n5 : Int))) = false := by simp
    clear OG OE OA HRN HRUN hkl
    obtain ⟨n0, n1, n2, n3, n4, n5, n6, n7⟩ := hN.cs8
    obtain ⟨t0, t1, t2, t3, t4, t5, t6, t7⟩ := hT.cs8
    have hlt2 : ¬ (k : Int) < (al.length : Int) := by omega
    have hlt3 : decide ((k : Int) < (al.length : Int)) = false := decide_eq_false hlt2
    go_wp2_with fail
    refine (vMeeting_is rs5 qs5 tu5 se5 sp5 ws5 sh5 os5 G0 G1 G2 G3 G4 g0 g1 g2 g3 g4 I0 I1 I2 I3 I4 i0 i1 i2 i3 i4 k0 k1 k2 k3 k4 _ (RG.below bel) (RE.below bel)).mono ?_
    rintro e w11 ⟨rfl, hb11⟩
    have hq11 := be wr hb11; replace HB := bth HB hq11; replace RG := RG.below hq11; replace RE := RE.below hq11; replace hN := hN.to hq11; clear n0 n1 n2 n3 n4 n5 n6 n7
    obtain ⟨n0, n1, n2, n3, n4, n5, n6, n7⟩ := hN.cs8
    replace hT := hT.to hq11; clear t0 t1 t2 t3 t4 t5 t6 t7
    obtain ⟨t0, t1, t2, t3, t4, t5, t6, t7⟩ := hT.cs8
    go_wp2_with fail
    go_meet
    exact HB
 case rest =>
  clear HB hM hN RM RA RE OM OA OE HRF HZ hm5w; have HB := hcut; clear hcut
  generalize wc = wE at *
  clear hl0 hl1 hl2 hl3 hl4 hla k0 k1 k2 k3 k4 hal
  go_wp2_with fail
  refine (drawAdopted_is A c cs hcs _ (HR.out.below (bth HB bel))).mono ?_
  rintro e w12 ⟨rs, qs, tu, se, sp, ws, sh, os, D0, d0, D1, d1, D2, d2, D3, d3, D4, d4, rfl, hl0, hrn, hl1, hl2, hl3, hl4, OO, hb12⟩
  have hq12 := be wE hb12; replace HB := bth HB hq12; have RX := OO.rd; have HZ := lh (OO.inp (by omega) (by omega) (by omega) (by omega) (by omega)); clear OO hrn
  go_upto_region 21 with fail
  obtain ⟨xb, hxb⟩ : ∃ b, b = w12.heap.size := ⟨_, rfl⟩
  refine lay1 fun wX1 hq13 hX => ?_
  replace RX := RX.below hq13; replace HB := bth HB hq13
  obtain ⟨x0, x1, x2, x3, x4, x5, x6, x7⟩ := hX.cs8
  rw [← hxb] at hX x0 x1 x2 x3 x4 x5 x6 x7
  rw [← hxb]
  clear hxb x0 x1 x2 x3 x4 x5 x6 x7
  obtain ⟨x0, x1, x2, x3, x4, x5, x6, x7⟩ := hX.cs8
  have HA1 := lh (fun W (h : MeR W D0 D1 D2 D3 D4 rs qs ws sh os) => iAdoptedRules_is ⟨rs, qs, tu, se, sp, ws, sh, os⟩ D0 D1 D2 D3 D4 d0 d1 d2 d3 d4 HZ.out.h0 HZ.out.h1 HZ.out.h2 HZ.out.h3 HZ.out.h4 W h.r0 h.r1 h.r2 h.r3 h.r4 HZ.out.k0 HZ.out.k1 HZ.out.k2 HZ.out.k3 HZ.out.k4); have HA2 := lh (fun W (h : MeR W D0 D1 D2 D3 D4 rs qs ws sh os) => sAdoptedRules_is ⟨rs, qs, tu, se, sp, ws, sh, os⟩ D0 D1 D2 D3 D4 d0 d1 d2 d3 d4 HZ.out.h0 HZ.out.h1 HZ.out.h2 HZ.out.h3 HZ.out.h4 W h.r0 h.r1 h.r2 h.r3 h.r4 HZ.out.k0 HZ.out.k1 HZ.out.k2 HZ.out.k3 HZ.out.k4)
  have hal := arL_len ⟨rs, qs, tu, se, sp, ws, sh, os⟩ (by show os.length ≤ 1048576; omega); have HMV : Hid (meetB ⟨rs, qs, tu, se, sp, ws, sh, os⟩ = true → arL ⟨rs, qs, tu, se, sp, ws, sh, os⟩ = ar os os.length ∧ ∀ o, o ∈ os → memB o.mover = true) := lh (fun h => ⟨by rw [arL, if_pos h], movers_ok h⟩); have HMB := lh (fun (h : meetB ⟨rs, qs, tu, se, sp, ws, sh, os⟩ = true) => h)
  obtain ⟨bx, hbx⟩ : ∃ b, meetB ⟨rs, qs, tu, se, sp, ws, sh, os⟩ = b := ⟨_, rfl⟩
  obtain ⟨zs, hzs⟩ : ∃ l, arL ⟨rs, qs, tu, se, sp, ws, sh, os⟩ = l := ⟨_, rfl⟩
  have HBX := lh hbx
  rw [hbx] at HA1 HA2
  rw [hzs] at HA1 HA2 HMV hal
  clear hbx hzs HMB
  go_wp2_with fail
  refine (HA1.out _ (RX.below bel)).mono ?_
  rintro e w14 ⟨Z1, z1, rfl, OZ1, hb14⟩
  have hq14 := be wX1 hb14; replace HB := bth HB hq14; replace RX := RX.below hq14; replace hX := hX.to hq14; clear x0 x1 x2 x3 x4 x5 x6 x7
  obtain ⟨x0, x1, x2, x3, x4, x5, x6, x7⟩ := hX.cs8
  have R1 := OZ1.rds (hf := intC_len); clear OZ1
  go_wp2_with fail
  refine (HA2.out _ (RX.below bel)).mono ?_
  rintro e w15 ⟨Z2, z2, rfl, OZ2, hb15⟩
  have hq15 := be w14 hb15; replace HB := bth HB hq15; replace RX := RX.below hq15; replace R1 := R1.below hq15; replace hX := hX.to hq15; clear x0 x1 x2 x3 x4 x5 x6 x7
  obtain ⟨x0, x1, x2, x3, x4, x5, x6, x7⟩ := hX.cs8
  have R2 := OZ2.rds (hf := intC_len); clear OZ2
  have hbb : (!(bx == bx)) = false := by simp
  go_wp2_with fail
  refine (vInts_is Z1 Z2 z1 z2 zs hal _ (R1.below bel) (R2.below bel)).mono ?_
  rintro e w16 ⟨rfl, hb16⟩
  have hq16 := be w15 hb16; replace HB := bth HB hq16; replace RX := RX.below hq16; replace R1 := R1.below hq16; replace R2 := R2.below hq16; replace hX := hX.to hq16; clear x0 x1 x2 x3 x4 x5 x6 x7
  obtain ⟨x0, x1, x2, x3, x4, x5, x6, x7⟩ := hX.cs8
  go_upto_if 121 with fail
  clear R1 R2 hbb HA1 HA2 x0 x1 x2 x3 x4 x5 x6 x7
  generalize w16 = wJ2 at *
  go_cut [] (fun W => Below w.heap.size w W)
  case first =>
   cases bx
   ·go_wp2_with fail
    go_meet
    exact HB
   obtain ⟨hzs, hmov⟩ := HMV.out HBX.out
   have HC0 := lh (cu_zero os hmov os.length); have HC1 := lh (cu_all os hmov os.length (Nat.le_refl _)); have HZS := lh hzs; have HLE := lh (fun (j : Nat) => movd_le os (j : Int) os.length); clear hzs hmov HMV; have HMBY := lh (fun (n : Int) (h : 1 ≤ n ∧ n ≤ 99) W (h' : MeR W D0 D1 D2 D3 D4 rs qs ws sh os) => iMovedBy_is ⟨rs, qs, tu, se, sp, ws, sh, os⟩ D0 D1 D2 D3 D4 d0 d1 d2 d3 d4 HZ.out.h0 HZ.out.h1 HZ.out.h2 HZ.out.h3 HZ.out.h4 n (.tuple #[.int .i64 (movd os n os.length).1, .int .i64 (movd os n os.length).2, .bool true]) (by rw [mvOut, if_pos (by rw [HBX.out, Bool.true_and]; exact inB_iff.2 h)]) W h'.r0 h'.r1 h'.r2 h'.r3 h'.r4 HZ.out.k0 HZ.out.k1 HZ.out.k2 HZ.out.k3 HZ.out.k4)
   have HMX := lh hX; have HRX := lh RX; have HBY := lh HB; clear hX RX HB
   go_wp2
   go_loopw [21, 22, 23] (fun va vb vm wr => ∃ (j : Nat) (ca cb : Int), 1 ≤ j ∧ j ≤ 100 ∧ vm = .int .i64 (j : Int) ∧ va = .int .i64 ca ∧ vb = .int .i64 cb ∧ Hid (ca = cuA os j os.length ∧ cb = cuB os j os.length) ∧ (0 ≤ ca ∧ ca ≤ 100 * j ∧ 0 ≤ cb ∧ cb ≤ 100 * j) ∧ Below wJ2.heap.size wJ2 wr) (fun _ _ vm _ => 100 - (intOf vm).toNat)
   case atStart => exact ⟨1, 0, 0, by omega, by omega, rfl, rfl, rfl, lh ⟨HC0.out.1.symm, HC0.out.2.symm⟩, by omega, Below.refl _ _⟩
   case round =>
    obtain ⟨j, ca, cb, hj1, hj2, rfl, rfl, rfl, HCC, hcb, hb⟩ := hrel
    have hX := HMX.out.below hb HMX.out.lt; have RX := HRX.out.below hb; have HB := bth HBY.out hb; have hXl := hX.lt
    obtain ⟨x0, x1, x2, x3, x4, x5, x6, x7⟩ := hX.cs8
    by_cases hlt : j ≤ 99
    ·have hj : (j : Int) ≤ 99 := by omega
     have hj' : decide ((j : Int) ≤ 99) = true := decide_eq_true hj; have hbd := movd_bd os (j : Int) os.length; have HST := lh (cu_step os (j : Int) os.length)
     generalize hma : (movd os (j : Int) os.length).1 = ma at *
     generalize hmb : (movd os (j : Int) os.length).2 = mb at *
     have HMA := lh hma; have HMBB := lh hmb; clear hma hmb
     go_wp2_with fail
     refine (HMBY.out (j : Int) ⟨by omega, by omega⟩ _ (RX.below bel)).mono ?_
     rintro e w17 ⟨rfl, hb17⟩
     have hq17 := be wr hb17; replace HB := bth HB hq17; replace RX := RX.below hq17; replace hX := hX.to hq17; clear x0 x1 x2 x3 x4 x5 x6 x7
     obtain ⟨x0, x1, x2, x3, x4, x5, x6, x7⟩ := hX.cs8
     rw [HMA.out, HMBB.out]
     have hle := HLE.out j
     rw [HMA.out, HMBB.out] at hle
     have hgt : ¬ ma < mb := by omega
     have hgt2 : decide (ma < mb) = false := decide_eq_false hgt
     go_wp2
     go_roundw
     case rel => exact ⟨j + 1, ca + ma, cb + mb, by omega, by omega, by go_num, by go_num, by go_num, lh (by
      have h1 := HST.out; have h2 := HCC.out
      rw [show (((j + 1 : Nat) : Int)) = (j : Int) + 1 from by omega, h1.1, h1.2]
      exact ⟨by omega, by omega⟩), by omega, bth hb hq17⟩
     case measure => simp [intOf]; omega
    ·have hj100 : j = 100 := by omega
     have hj : ¬ (j : Int) ≤ 99 := by omega
     have hj' : decide ((j : Int) ≤ 99) = false := decide_eq_false hj
     have hca : ca = (os.length : Int) := by have h1 := HCC.out; have h2 := HC1.out; rw [hj100] at h1; exact h1.1.trans h2.1
     have hcb2 : cb = (zs.length : Int) := by have h1 := HCC.out; have h2 := HC1.out; rw [hj100] at h1; rw [HZS.out]; exact h1.2.trans h2.2
     have e1 : (!((os.length : Int) == (os.length : Int))) = false := by simp
     have e2 : (!((zs.length : Int) == (zs.length : Int))) = false := by simp
     subst hca hcb2
     clear hcb hj100 HCC
     go_wp2_with fail
     go_meet
     exact HB
  case rest =>
   clear HB hX RX HZ HMV HBX hal; have HB := hcut; clear hcut
   generalize wc = wF at *
   clear hl0 hl1 hl2 hl3 hl4
   go_wp2_with fail
   refine (drawMovedBy_is A c cs hcs _ (HR.out.below (bth HB bel))).mono ?_
   rintro e w18 ⟨rs, qs, tu, se, sp, ws, sh, os, D0, d0, D1, d1, D2, d2, D3, d3, D4, d4, me, rfl, hl0, hrn, hl1, hl2, hl3, hl4, OO, hb18⟩
   have hq18 := be wF hb18; replace HB := bth HB hq18; have RX := OO.rd; have HZ := lh (OO.inp (by omega) (by omega) (by omega) (by omega) (by omega)); clear OO hrn
   go_upto_region 38 with fail
   refine lay1 fun wX2 hq19 hX => ?_
   replace RX := RX.below hq19; replace HB := bth HB hq19
   obtain ⟨x0, x1, x2, x3, x4, x5, x6, x7⟩ := hX.cs8
   obtain ⟨fa, fb, fc, hf⟩ := mvOut_form ⟨rs, qs, tu, se, sp, ws, sh, os⟩ me
   have e1 : (fa == fa) = true := by simp
   have e2 : (fb == fb) = true := by simp
   have e3 : (fc == fc) = true := by simp
   go_wp2_with fail
   refine (iMovedBy_is ⟨rs, qs, tu, se, sp, ws, sh, os⟩ D0 D1 D2 D3 D4 d0 d1 d2 d3 d4 HZ.out.h0 HZ.out.h1 HZ.out.h2 HZ.out.h3 HZ.out.h4 me _ hf _ ((RX.below bel)).r0 ((RX.below bel)).r1 ((RX.below bel)).r2 ((RX.below bel)).r3 ((RX.below bel)).r4 HZ.out.k0 HZ.out.k1 HZ.out.k2 HZ.out.k3 HZ.out.k4).mono ?_
   rintro e w20 ⟨rfl, hb20⟩
   have hq20 := be wX2 hb20; replace HB := bth HB hq20; replace RX := RX.below hq20; replace hX := hX.to hq20; clear x0 x1 x2 x3 x4 x5 x6 x7
   obtain ⟨x0, x1, x2, x3, x4, x5, x6, x7⟩ := hX.cs8
   go_wp2_with fail
   refine (sMovedBy_is ⟨rs, qs, tu, se, sp, ws, sh, os⟩ D0 D1 D2 D3 D4 d0 d1 d2 d3 d4 HZ.out.h0 HZ.out.h1 HZ.out.h2 HZ.out.h3 HZ.out.h4 me _ hf _ ((RX.below bel)).r0 ((RX.below bel)).r1 ((RX.below bel)).r2 ((RX.below bel)).r3 ((RX.below bel)).r4 HZ.out.k0 HZ.out.k1 HZ.out.k2 HZ.out.k3 HZ.out.k4).mono ?_
   rintro e w21 ⟨rfl, hb21⟩
   have hq21 := be w20 hb21; replace HB := bth HB hq21; replace RX := RX.below hq21; replace hX := hX.to hq21; clear x0 x1 x2 x3 x4 x5 x6 x7
   obtain ⟨x0, x1, x2, x3, x4, x5, x6, x7⟩ := hX.cs8
   go_wp2
   go_ret
   exact ⟨rfl, (bth HB bel)⟩
open Go.ChangeShapes Go.WideShapes Go.ChangeAt Go.RowKit Go.Deep Go.G9
theorem prog_own : ownKnob Tryz.prog.godebug = none := by kernel_rfl
theorem prog_laid : laidOutB Tryz.prog = true := by kernel_rfl
section
variable {H : Type} {enc : TypeId × Value → H} {w : World} {base : Nat} {sp : Nat → Bool} {hd : Bool} {fuel : Nat} {cs : List Value} {x : DataW H × List MemPlace}
end
open Go.RowKit Go.G9 Go.ChangeShapes Go.WideShapes Go.ChangeAt
variable {H : Type} {enc : TypeId × Value → H} {w : World} {base fuel : Nat} {sp : Nat → Bool} {hd : Bool} {cs : List Value} {x : DataW H × List MemPlace}
theorem cells_u8 : Tryz.prog.cellsOf 5 = 1 := by kernel_rfl
theorem rd_u8 (h : DataW.trod enc Tryz.prog w base sp hd fuel 5 cs = some x) : ∃ y : UInt8, cs = u8C y := by
 obtain ⟨n, rfl, h1, h2⟩ := DataW.trod_int Tryz.underlying5 h
 unfold Lit.wf at h2
 rw [Bool.and_eq_true, decide_eq_true_eq, decide_eq_true_eq] at h2
 have m1 : IntKind.u8.min = 0 := by decide
 have m2 : IntKind.u8.max = 255 := by decide
 have h3 : 0 ≤ n ∧ n ≤ 255 := by
  rw [m1, m2] at h2
  omega
 refine ⟨UInt8.ofNat n.toNat, ?_⟩
 show [Value.int .u8 n] = [Value.int .u8 ((UInt8.ofNat n.toNat).toNat : Int)]
 have e : ((UInt8.ofNat n.toNat).toNat : Int) = n := by
  rw [UInt8.toNat_ofNat']
  omega
 rw [e]
end Go.Proofs.YtjimibkgocieoaaGreat
