/- Texts of the proof: walks of the functions, and what they compute. -/
import Derived.Test.YtjimibkgocieoaaGreatRb8
import Derived.Test.YtjimibkgocieoaaGreatRb21
import Derived.Test.YtjimibkgocieoaaGreatRb0
import Derived.Test.YtjimibkgocieoaaGreatRb3
import Derived.Carry
import Derived.Deep.Slices
import Derived.ProofKit
set_option maxHeartbeats 16000000
set_option maxRecDepth 100000
namespace Go.Proofs.YtjimibkgocieoaaGreat
open Go.RowKit Go.G9
def runB (m : Mee) (al : List Ac) : Bool := meetB m && decide (al.length ≤ 20)
def runM (m : Mee) (al : List Ac) : Mee := if runB m al then (runN m al al.length).1 else zMee
def runC (m : Mee) (al : List Ac) : Int := if runB m al then ((runN m al al.length).2 : Int) else 0
theorem runM_yes {m : Mee} {al : List Ac} (h : runB m al = true) : runM m al = (runN m al al.length).1 := if_pos h
theorem runM_no {m : Mee} {al : List Ac} (h : runB m al = false) : runM m al = zMee := by rw [runM, h]; rfl
theorem runC_yes {m : Mee} {al : List Ac} (h : runB m al = true) : runC m al = ((runN m al al.length).2 : Int) := if_pos h
theorem runC_no {m : Mee} {al : List Ac} (h : runB m al = false) : runC m al = 0 := by rw [runC, h]; rfl
theorem runM_len (m : Mee) (al : List Ac) : (runM m al).rules.length ≤ 8 ∧ (runM m al).pend.length ≤ 6 ∧ (runM m al).wait.length ≤ 10 ∧ (runM m al).shares.length ≤ 99 ∧ (runM m al).outs.length ≤ 12 := by
 cases h : runB m al with
 | false => rw [runM_no h]; exact zMee_len
 | true =>
  rw [runM_yes h]
  simp only [runB, Bool.and_eq_true] at h
  exact mee_len (runN_ok (mee_ok.1 h.1) al _).1
theorem MeO.inL {w : World} {B : Nat} {n : Mee} {D0 D1 D2 D3 D4 : Option Addr} {d0 d1 d2 d3 d4 : Nat} (h : MeO B w D0 d0 D1 d1 D2 d2 D3 d3 D4 d4 n.rules n.pend n.wait n.shares n.outs) (hk : MeeOk n) : MeeIn D0 D1 D2 D3 D4 d0 d1 d2 d3 d4 n.rules n.pend n.wait n.shares n.outs := by
 obtain ⟨l0, l1, l2, l3, l4⟩ := mee_len hk
 exact h.inp (by omega) (by omega) (by omega) (by omega) (by omega)
theorem MeO.notBlk {w : World} {B p : Nat} {n : Mee} {D0 D1 D2 D3 D4 : Option Addr} {d0 d1 d2 d3 d4 : Nat} {cs : Array Value} (h : MeO B w D0 d0 D1 d1 D2 d2 D3 d3 D4 d4 n.rules n.pend n.wait n.shares n.outs) (hb : Blk w p 32 cs) {w' : World} (hg : w.grownBy w' (some p)) : MeO B w' D0 d0 D1 d1 D2 d2 D3 d3 D4 d4 n.rules n.pend n.wait n.shares n.outs :=
 ⟨h.o0.kept hg (fun k hk e => h.o0.notBlkV hb (by decide) k hk (Option.some.inj e)), h.o1.kept hg (fun k hk e => h.o1.notBlkV hb (by decide) k hk (Option.some.inj e)), h.o2.kept hg (fun k hk e => h.o2.notBlkV hb (by decide) k hk (Option.some.inj e)), h.o3.kept hg (fun k hk e => h.o3.notBlkV hb (by decide) k hk (Option.some.inj e)), h.o4.kept hg (fun k hk e => h.o4.notBlkV hb (by decide) k hk (Option.some.inj e))⟩
theorem zb8 {p : Prop} (h : p := by
 clear hm hb
 go_in
 go_upto_region 1 with fail
 refine lay2 fun wX hq1 hF hZ => ?_
 have HB := hq1
 obtain ⟨f0, f1, f2, f3, f4, f5, f6, f7⟩ := hF.cs8
 have z' := hZ.cs8; have hf0 := hF.lt; have hz0' := hZ.lt
 go_wp2_with fail
 refine (iMeet_is rs qs tu se sp ws sh os A0 A1 A2 A3 A4 c0 c1 c2 c3 c4 HZ.out.h0 HZ.out.h1 HZ.out.h2 HZ.out.h3 HZ.out.h4 _ HM.out _ (HR.out.r0.below (bth HB bel)) (HR.out.r1.below (bth HB bel)) (HR.out.r2.below (bth HB bel)) (HR.out.r3.below (bth HB bel)) (HR.out.r4.below (bth HB bel)) HZ.out.k0 HZ.out.k2).mono ?_
 rintro e w2 ⟨rfl, hb2⟩
 have hq2 := be wX hb2; replace HB := bth HB hq2; replace hF := hF.to hq2; clear f0 f1 f2 f3 f4 f5 f6 f7
 obtain ⟨f0, f1, f2, f3, f4, f5, f6, f7⟩ := hF.cs8
 replace hZ := hZ.to hq2; clear z'; have z' := hZ.cs8; have fhZ' := hZ.fz8; have yhF := hF.lt; have yhZ := hZ.lt
 go_wp2
 clear f0 f1 f2 f3 f4 f5 f6 f7 z'
 refine st8 0 fun W9 tW9 => ?_
 replace HB := tW9.hc HB; replace hF := tW9.fa hF; replace hZ := tW9.all8 hZ; have szW9 := tW9.sz
 obtain ⟨f0, f1, f2, f3, f4, f5, f6, f7⟩ := hF.cs8
 have z' := hZ.cs8
 refine bodyPost_ret (v := .tuple #[.agg #[.slice none 0 0, .slice none 0 0, .int .i64 0, .int .i64 0, .int .i64 0, .slice none 0 0, .slice none 0 0, .slice none 0 0], .int .i64 0, .bool false]) (by simp [results, Tryz.results25, go_sem, z']) rfl ?_
 exact ⟨none, 0, none, 0, none, 0, none, 0, none, 0, rfl, meO_nil, HB⟩) : p := h
theorem zb67 {p : Prop} (h : p := by
 have HB9 := HB
 go_wp2
 go_roundw
 case rel => exact ⟨k + 1, cnt + 1, n2, F0, f0, F1, f1, F2, f2, F3, f3, F4, f4, by omega, by go_num, by go_num, by rw [runN_some HA.out (by rw [HRN.out]; exact HM2.out), HRN.out], by omega, mkA_ok HNO.out HM2.out, hX9, hZ9, OZ9, HB9⟩
 case measure => simp [intOf]; omega) : p := h
theorem zb130 {p : Prop} (h : p := by
 exact ⟨E0, e0, E1, e1, E2, e2, E3, e3, E4, e4, by rw [HRN.out], by rw [HRN.out]; exact ⟨O0, O1, O2, O3, O4⟩, HB⟩) : p := h
theorem iRun_is (A0 A1 A2 A3 A4 : Option Addr) (c0 c1 c2 c3 c4 : Nat) (rs : List Rul) (qs : List Que) (tu se sp : Int) (ws : List Int) (sh : List Sha) (os : List Out) (Z : MeeIn A0 A1 A2 A3 A4 c0 c1 c2 c3 c4 rs qs ws sh os) (B : Option Addr) (bc : Nat) (al : List Ac) (hal : al.length ≤ 1048576) (w : World) (R : MeR w A0 A1 A2 A3 A4 rs qs ws sh os) (RA : Rds 6 Ac.cells w B al) :
 Calls Tryz.prog 25 #[.agg #[.slice A0 rs.length c0, .slice A1 qs.length c1, .int .i64 tu, .int .i64 se, .int .i64 sp, .slice A2 ws.length c2, .slice A3 sh.length c3, .slice A4 os.length c4], .slice B al.length bc] w fun e w' => ∃ D0 d0 D1 d1 D2 d2 D3 d3 D4 d4, e = .returned (.tuple #[.agg #[.slice D0 (runM ⟨rs, qs, tu, se, sp, ws, sh, os⟩ al).rules.length d0, .slice D1 (runM ⟨rs, qs, tu, se, sp, ws, sh, os⟩ al).pend.length d1, .int .i64 (runM ⟨rs, qs, tu, se, sp, ws, sh, os⟩ al).turns, .int .i64 (runM ⟨rs, qs, tu, se, sp, ws, sh, os⟩ al).secs, .int .i64 (runM ⟨rs, qs, tu, se, sp, ws, sh, os⟩ al).spk, .slice D2 (runM ⟨rs, qs, tu, se, sp, ws, sh, os⟩ al).wait.length d2, .slice D3 (runM ⟨rs, qs, tu, se, sp, ws, sh, os⟩ al).shares.length d3, .slice D4 (runM ⟨rs, qs, tu, se, sp, ws, sh, os⟩ al).outs.length d4], .int .i64 (runC ⟨rs, qs, tu, se, sp, ws, sh, os⟩ al), .bool (runB ⟨rs, qs, tu, se, sp, ws, sh, os⟩ al)]) ∧ MeO w.heap.size w' D0 d0 D1 d1 D2 d2 D3 d3 D4 d4 (runM ⟨rs, qs, tu, se, sp, ws, sh, os⟩ al).rules (runM ⟨rs, qs, tu, se, sp, ws, sh, os⟩ al).pend (runM ⟨rs, qs, tu, se, sp, ws, sh, os⟩ al).wait (runM ⟨rs, qs, tu, se, sp, ws, sh, os⟩ al).shares (runM ⟨rs, qs, tu, se, sp, ws, sh, os⟩ al).outs ∧ Below w.heap.size w w' := by
 have HR := lh R; have HZ := lh Z; have HRA := lh RA; clear R Z RA
 cases hm : meetP rs qs tu se sp ws sh os
 case false =>
  have hb : runB ⟨rs, qs, tu, se, sp, ws, sh, os⟩ al = false := by rw [runB, show meetB ⟨rs, qs, tu, se, sp, ws, sh, os⟩ = false from hm]; rfl
  rw [runM_no hb, runC_no hb, hb]
  have HM := lh hm
  exact zb8
 case true =>
  have HM := lh hm; have hok := lh (mee_ok.1 (show meetB ⟨rs, qs, tu, se, sp, ws, sh, os⟩ = true from hm))
  by_cases h20 : 20 < al.length
  ·have hb : runB ⟨rs, qs, tu, se, sp, ws, sh, os⟩ al = false := by rw [runB, decide_eq_false (by omega), Bool.and_false]
   rw [runM_no hb, runC_no hb, hb]
   have hgt : (20 : Int) < (al.length : Int) := by omega
   exact zb8
  ·have hb : runB ⟨rs, qs, tu, se, sp, ws, sh, os⟩ al = true := by rw [runB, show meetB ⟨rs, qs, tu, se, sp, ws, sh, os⟩ = true from hm, decide_eq_true (by omega)]; rfl
   rw [runM_yes hb, runC_yes hb, hb]
   have hle : ¬ (20 : Int) < (al.length : Int) := by omega
   clear hm hb
   obtain ⟨m, hme⟩ : ∃ m : Mee, m = ⟨rs, qs, tu, se, sp, ws, sh, os⟩ := ⟨_, rfl⟩
   rw [← hme] at hok ⊢
   have HME := lh hme; clear hme
   go_in
   go_upto_region 1 with fail
   refine lay2 fun wX hq1 hF hZ => ?_
   have HB := hq1
   obtain ⟨f0, f1, f2, f3, f4, f5, f6, f7⟩ := hF.cs8
   have z' := hZ.cs8; have hf0 := hF.lt; have hz0' := hZ.lt
   go_wp2_with fail
   refine (iMeet_is rs qs tu se sp ws sh os A0 A1 A2 A3 A4 c0 c1 c2 c3 c4 HZ.out.h0 HZ.out.h1 HZ.out.h2 HZ.out.h3 HZ.out.h4 _ HM.out _ (HR.out.r0.below (bth HB bel)) (HR.out.r1.below (bth HB bel)) (HR.out.r2.below (bth HB bel)) (HR.out.r3.below (bth HB bel)) (HR.out.r4.below (bth HB bel)) HZ.out.k0 HZ.out.k2).mono ?_
   rintro e w2 ⟨rfl, hb2⟩
   have hq2 := be wX hb2; replace HB := bth HB hq2; replace hF := hF.to hq2; clear f0 f1 f2 f3 f4 f5 f6 f7
   obtain ⟨f0, f1, f2, f3, f4, f5, f6, f7⟩ := hF.cs8
   replace hZ := hZ.to hq2; clear z'; have z' := hZ.cs8
   go_wp2_with fail
   refine (newMee_is A0 A1 A2 A3 A4 c0 c1 c2 c3 c4 rs qs tu se sp ws sh os HZ.out _ (HR.out.below (bth HB bel))).mono ?_
   rintro e w3 ⟨D0, d0, D1, d1, D2, d2, D3, d3, D4, d4, rfl, OO, hb3⟩
   have hq3 := be w2 hb3; replace HB := bth HB hq3; replace hF := hF.to hq3; clear f0 f1 f2 f3 f4 f5 f6 f7
   obtain ⟨f0, f1, f2, f3, f4, f5, f6, f7⟩ := hF.cs8
   replace hZ := hZ.to hq3; clear z'; have z' := hZ.cs8; have szp := hq2.size; have szq := hq3.size
   go_upto_region 4 with fail
   refine lay1 fun wU hq4 hX => ?_
   replace HB := bth HB hq4; have x' := hX.cs8; clear f0 f1 f2 f3 f4 f5 f6 f7; replace hF := hF.to hq4
   obtain ⟨f0, f1, f2, f3, f4, f5, f6, f7⟩ := hF.cs8
   clear z'; replace hZ := hZ.to hq4; have z' := hZ.cs8; replace OO := (OO.later hq4).base (B' := w.heap.size) (by have := HB.size; omega)
   obtain ⟨xb, hxb⟩ : ∃ b, b = w3.heap.size := ⟨_, rfl⟩
   rw [← hxb] at hX
   rw [← hxb]
   have hxw : w.heap.size + 1 < xb := by omega
   obtain ⟨zb, hzb⟩ : ∃ b, b = w.heap.size + 1 := ⟨_, rfl⟩
   rw [← hzb] at hZ
   have hzx : zb ≠ xb := by omega
   have hzw : w.heap.size ≤ zb := by omega
   rw [← hzb]
   have HX0 : Hid (Blk wU xb 32 #[.slice D0 m.rules.length d0, .slice D1 m.pend.length d1, .int .i64 m.turns, .int .i64 m.secs, .int .i64 m.spk, .slice D2 m.wait.length d2, .slice D3 m.shares.length d3, .slice D4 m.outs.length d4]) := lh (by rw [HME.out]; exact hX); have HO0 : Hid (MeO w.heap.size wU D0 d0 D1 d1 D2 d2 D3 d3 D4 d4 m.rules m.pend m.wait m.shares m.outs) := lh (by rw [HME.out]; exact OO)
   have HZ0 := lh hZ; have HB0 := lh HB; clear hX hZ hF OO HB x' z' f0 f1 f2 f3 f4 f5 f6 f7 hxb hzb
   go_wp2
   go_loopw [8, 26] (fun cv v wr => ∃ (k cnt : Nat) (n : Mee) (D0 : Option Addr) (d0 : Nat) (D1 : Option Addr) (d1 : Nat) (D2 : Option Addr) (d2 : Nat) (D3 : Option Addr) (d3 : Nat) (D4 : Option Addr) (d4 : Nat), k ≤ al.length ∧ v = .int .i64 k ∧ cv = .int .i64 cnt ∧ runN m al k = (n, cnt) ∧ cnt ≤ k ∧ MeeOk n ∧ Blk wr xb 32 #[.slice D0 n.rules.length d0, .slice D1 n.pend.length d1, .int .i64 n.turns, .int .i64 n.secs, .int .i64 n.spk, .slice D2 n.wait.length d2, .slice D3 n.shares.length d3, .slice D4 n.outs.length d4] ∧ Blk wr zb 32 #[.slice none 0 0, .slice none 0 0, .int .i64 0, .int .i64 0, .int .i64 0, .slice none 0 0, .slice none 0 0, .slice none 0 0] ∧ MeO w.heap.size wr D0 d0 D1 d1 D2 d2 D3 d3 D4 d4 n.rules n.pend n.wait n.shares n.outs ∧ Below w.heap.size w wr) (fun _ v _ => al.length - (intOf v).toNat)
   case atStart => exact ⟨0, 0, m, D0, d0, D1, d1, D2, d2, D3, d3, D4, d4, Nat.zero_le _, rfl, rfl, rfl, Nat.le_refl _, hok.out, HX0.out, HZ0.out, HO0.out, HB0.out⟩
   case round =>
    clear HX0 HO0 HZ0 HB0
    obtain ⟨k, cnt, n, E0, e0, E1, e1, E2, e2, E3, e3, E4, e4, hk, rfl, rfl, hrn, hck, hno, hX, hZ, OO, HB⟩ := hrel
    have HRN := lh hrn; clear hrn; have hxr := hX.lt; have hzr := hZ.lt; have HNO := lh hno; clear hno
    by_cases hlt : k < al.length
    ·obtain ⟨b, off, a, rfl, hbl, ha, hca⟩ := HRA.out.at_ HB hlt
     obtain ⟨ak, am, av, ay, an, aa⟩ := a
     have p0 := hca 0 _ rfl; have p1 := hca 1 _ rfl; have p2 := hca 2 _ rfl; have p3 := hca 3 _ rfl; have p4 := hca 4 _ rfl; have p5 := hca 5 _ rfl
     simp only [Nat.add_zero] at p0
     have g0 := p0 (Kin.self _); have g1 := p1 (Kin.self _); have g2 := p2 (Kin.self _); have g3 := p3 (Kin.self _); have g4 := p4 (Kin.self _); have g5 := p5 (Kin.self _)
     simp only [Kin.self] at g0
     simp only [Kin.self] at g1
     simp only [Kin.self] at g2
     simp only [Kin.self] at g3
     simp only [Kin.self] at g4
     simp only [Kin.self] at g5
     have HA := lh ha; clear ha hca p0 p1 p2 p3 p4 p5; have x' := hX.cs8; have z' := hZ.cs8
     go_upto_region 7 with fail
     refine lay1 fun wV hq5 hA => ?_
     replace HB := bth HB hq5; have a' := hA.cs6; clear x'; replace hX := hX.to hq5; have x' := hX.cs8; clear z'; replace hZ := hZ.to hq5; have z' := hZ.cs8; clear g0 g1 g2 g3 g4 g5; have OO6 := OO.later hq5; have szv := hq5.size; have HH := lh (fun W (hb : Below wV.heap.size wV W) => iMakeA_is E0 E1 E2 E3 E4 e0 e1 e2 e3 e4 n.rules n.pend n.turns n.secs n.spk n.wait n.shares n.outs (OO6.inL HNO.out) ak am av ay an aa HNO.out W (OO6.rd.below hb))
     have HOO := lh OO6; clear OO OO6
     generalize ho : mkA ⟨n.rules, n.pend, n.turns, n.secs, n.spk, n.wait, n.shares, n.outs⟩ ⟨ak, am, av, ay, an, aa⟩ = o at HH
     have HM2 : Hid (mkA n ⟨ak, am, av, ay, an, aa⟩ = o) := lh ho; clear ho
     cases o with
     | none =>
      go_wp2_with fail
      refine (HH.out _ (Below.refl _ _)).mono ?_
      rintro e w6 ⟨rfl, hb6⟩
      have hq6 := be wV hb6; replace HB := bth HB hq6; replace hX := hX.to hq6; clear x'; have x' := hX.cs8; replace hZ := hZ.to hq6; clear z'; have z' := hZ.cs8; replace hA := hA.to hq6; clear a'; have a' := hA.cs6; have hX7 := hX; have hZ7 := hZ; have HB7 := HB; have OO7 := HOO.out.later hq6; clear HH hq6 hb6
      go_wp2
      go_roundw
      case rel => exact ⟨k + 1, cnt, n, E0, e0, E1, e1, E2, e2, E3, e3, E4, e4, by omega, by go_num, rfl, by rw [runN_none HA.out (by rw [HRN.out]; exact HM2.out), HRN.out], by omega, HNO.out, hX7.alloc _, hZ7.alloc _, OO7.later (bl1 _ _), bth HB7 (bl1 _ _)⟩
      case measure => simp [intOf]; omega
     | some n2 =>
      have szb := HB.size
      go_wp2_with fail
      refine (HH.out _ (Below.refl _ _)).mono ?_
      rintro e w6 ⟨F0, f0, F1, f1, F2, f2, F3, f3, F4, f4, rfl, ON, hb6⟩
      have hq6 := be wV hb6; replace HB := bth HB hq6; replace hX := hX.to hq6; clear x'; have x' := hX.cs8; replace hZ := hZ.to hq6; clear z'; have z' := hZ.cs8; replace hA := hA.to hq6; clear a'; have a' := hA.cs6; clear HH; have sz6 := hq6.size
      go_upto_region 8 with fail
      refine lay1 fun wY hq7 hY => ?_
      replace HB := bth HB hq7; have y' := hY.cs8; clear x'; replace hX := hX.to hq7; have x' := hX.cs8; clear z'; replace hZ := hZ.to hq7; have z' := hZ.cs8; clear a'; replace hA := hA.to hq7; have a' := hA.cs6; have hyl := hY.lt; have hxl := hX.lt; replace ON := (ON.later hq7).base (B' := w.heap.size) (by omega); have O0 := ON.o0; have O1 := ON.o1; have O2 := ON.o2; have O3 := ON.o3; have O4 := ON.o4
      clear ON; have neO0 := O0.nb hX; have neO1 := O1.nb hX; have neO2 := O2.nb hX; have neO3 := O3.nb hX; have neO4 := O4.nb hX; have fhX' := hX.fz8; have yhX := hX.lt; have yhZ := hZ.lt; have yhA := hA.lt; have yhY := hY.lt
      go_upto_region 10 with fail
      clear x' z' a' y'
      refine st8 0 fun W9 tW9 => ?_
      replace HB := tW9.hc HB; replace hX := tW9.all8 hX; replace hZ := tW9.fa hZ; replace hA := tW9.fa hA; replace hY := tW9.fa hY; have gRW9 := tW9.gr; have szW9 := tW9.sz; replace O0 := O0.keptS tW9 neO0; replace O1 := O1.keptS tW9 neO1; replace O2 := O2.keptS tW9 neO2; replace O3 := O3.keptS tW9 neO3; replace O4 := O4.keptS tW9 neO4; have x' := hX.cs8; have z' := hZ.cs8; have a' := hA.cs6; have y' := hY.cs8
      have OZ9 : MeO w.heap.size W9 F0 f0 F1 f1 F2 f2 F3 f3 F4 f4 n2.rules n2.pend n2.wait n2.shares n2.outs := ⟨O0, O1, O2, O3, O4⟩; have hX9 := hX; have hZ9 := hZ
      exact zb67
    ·obtain rfl : k = al.length := by omega
     have x' := hX.cs8; have z' := hZ.cs8; have O0 := OO.o0; have O1 := OO.o1; have O2 := OO.o2; have O3 := OO.o3; have O4 := OO.o4; clear OO; have neO0 := O0.nb hZ; have neO1 := O1.nb hZ; have neO2 := O2.nb hZ; have neO3 := O3.nb hZ; have neO4 := O4.nb hZ; have fhZ' := hZ.fz8; have yhX := hX.lt; have yhZ := hZ.lt
     go_wp2
     clear x' z'
     refine st8 0 fun W9 tW9 => ?_
     replace HB := tW9.hc HB; replace hX := tW9.fa hX; replace hZ := tW9.all8 hZ; have gRW9 := tW9.gr; have szW9 := tW9.sz; replace O0 := O0.keptS tW9 neO0; replace O1 := O1.keptS tW9 neO1; replace O2 := O2.keptS tW9 neO2; replace O3 := O3.keptS tW9 neO3; replace O4 := O4.keptS tW9 neO4; have x' := hX.cs8; have z' := hZ.cs8
     refine bodyPost_ret (v := .tuple #[.agg #[.slice E0 n.rules.length e0, .slice E1 n.pend.length e1, .int .i64 n.turns, .int .i64 n.secs, .int .i64 n.spk, .slice E2 n.wait.length e2, .slice E3 n.shares.length e3, .slice E4 n.outs.length e4], .int .i64 cnt, .bool true]) (by simp [results, Tryz.results25, go_sem, z']) rfl ?_
     exact zb130
open Go.RowKit Go.G9
def ruN (i j : Nat) : MkSpec (Nat × Nat) where
 par := fun _ => []
 val := fun k p => if k = i then .tuple #[.agg #[.slice none 0 0, .slice none 0 0, .int .i64 0, .int .i64 0, .int .i64 0, .slice none 0 0, .slice none 0 0, .slice none 0 0], .bool false] else if k = j then .pointer (some ⟨p.1, 0, none⟩) else undef
 post := fun k σ p V0 V => if k = j then p.1 = V0.heap.size ∧ Blk V V0.heap.size 32 #[.slice none 0 0, .slice none 0 0, .int .i64 0, .int .i64 0, .int .i64 0, .slice none 0 0, .slice none 0 0, .slice none 0 0] else True
def ruY (i j : Nat) (n : Mee) : MkSpec ((Nat → Option Addr) × (Nat → Nat)) where
 par := fun _ => []
 val := fun k p => if k = i then .tuple #[.agg #[.slice (p.1 0) n.rules.length (p.2 0), .slice (p.1 1) n.pend.length (p.2 1), .int .i64 n.turns, .int .i64 n.secs, .int .i64 n.spk, .slice (p.1 2) n.wait.length (p.2 2), .slice (p.1 3) n.shares.length (p.2 3), .slice (p.1 4) n.outs.length (p.2 4)], .bool true] else if k = j then .pointer (some ⟨p.2 0, 0, none⟩) else undef
 post := fun k σ p V0 V => if k = j then p.2 0 = V0.heap.size ∧ Blk V V0.heap.size 32 #[.slice none 0 0, .slice none 0 0, .int .i64 0, .int .i64 0, .int .i64 0, .slice none 0 0, .slice none 0 0, .slice none 0 0] else if k = i then MeO V0.heap.size V (p.1 0) (p.2 0) (p.1 1) (p.2 1) (p.1 2) (p.2 2) (p.1 3) (p.2 3) (p.1 4) (p.2 4) n.rules n.pend n.wait n.shares n.outs else True
def fiveA (a b c d e : Option Addr) : Nat → Option Addr
 | 0 => a
 | 1 => b
 | 2 => c
 | 3 => d
 | _ => e
def fiveN (a b c d e : Nat) : Nat → Nat
 | 0 => a
 | 1 => b
 | 2 => c
 | 3 => d
 | _ => e
theorem zb9 {p : Prop} (h : p := by
 clear hm hb
 go_in
 go_upto_region 1 with fail
 refine lay2 fun wX hq1 hF hZ => ?_
 have HB := hq1
 obtain ⟨f0, f1, f2, f3, f4, f5, f6, f7⟩ := hF.cs8
 have z' := hZ.cs8; have hf0 := hF.lt; have hz0' := hZ.lt
 go_wp2_with fail
 refine (sMeet_is rs qs tu se sp ws sh os A0 A1 A2 A3 A4 c0 c1 c2 c3 c4 HZ.out.h0 HZ.out.h1 HZ.out.h2 HZ.out.h3 HZ.out.h4 _ HM.out _ (HR.out.r0.below (bth HB bel)) (HR.out.r1.below (bth HB bel)) (HR.out.r2.below (bth HB bel)) (HR.out.r3.below (bth HB bel)) (HR.out.r4.below (bth HB bel)) HZ.out.k0 HZ.out.k2).mono ?_
 rintro e w2 ⟨rfl, hb2⟩
 have hq2 := be wX hb2; replace HB := bth HB hq2; replace hF := hF.to hq2; clear f0 f1 f2 f3 f4 f5 f6 f7
 obtain ⟨f0, f1, f2, f3, f4, f5, f6, f7⟩ := hF.cs8
 replace hZ := hZ.to hq2; clear z'; have z' := hZ.cs8; have fhZ' := hZ.fz8; have yhF := hF.lt; have yhZ := hZ.lt
 go_wp2
 clear f0 f1 f2 f3 f4 f5 f6 f7 z'
 refine st8 0 fun W9 tW9 => ?_
 replace HB := tW9.hc HB; replace hF := tW9.fa hF; replace hZ := tW9.all8 hZ; have szW9 := tW9.sz
 obtain ⟨f0, f1, f2, f3, f4, f5, f6, f7⟩ := hF.cs8
 have z' := hZ.cs8
 refine bodyPost_ret (v := .tuple #[.agg #[.slice none 0 0, .slice none 0 0, .int .i64 0, .int .i64 0, .int .i64 0, .slice none 0 0, .slice none 0 0, .slice none 0 0], .int .i64 0, .bool false]) (by simp [results, Tryz.results26, go_sem, z']) rfl ?_
 exact ⟨none, 0, none, 0, none, 0, none, 0, none, 0, rfl, meO_nil, HB⟩) : p := h
theorem sRun_is (A0 A1 A2 A3 A4 : Option Addr) (c0 c1 c2 c3 c4 : Nat) (rs : List Rul) (qs : List Que) (tu se sp : Int) (ws : List Int) (sh : List Sha) (os : List Out) (Z : MeeIn A0 A1 A2 A3 A4 c0 c1 c2 c3 c4 rs qs ws sh os) (B : Option Addr) (bc : Nat) (al : List Ac) (hal : al.length ≤ 1048576) (w : World) (R : MeR w A0 A1 A2 A3 A4 rs qs ws sh os) (RA : Rds 6 Ac.cells w B al) :
 Calls Tryz.prog 26 #[.agg #[.slice A0 rs.length c0, .slice A1 qs.length c1, .int .i64 tu, .int .i64 se, .int .i64 sp, .slice A2 ws.length c2, .slice A3 sh.length c3, .slice A4 os.length c4], .slice B al.length bc] w fun e w' => ∃ D0 d0 D1 d1 D2 d2 D3 d3 D4 d4, e = .returned (.tuple #[.agg #[.slice D0 (runM ⟨rs, qs, tu, se, sp, ws, sh, os⟩ al).rules.length d0, .slice D1 (runM ⟨rs, qs, tu, se, sp, ws, sh, os⟩ al).pend.length d1, .int .i64 (runM ⟨rs, qs, tu, se, sp, ws, sh, os⟩ al).turns, .int .i64 (runM ⟨rs, qs, tu, se, sp, ws, sh, os⟩ al).secs, .int .i64 (runM ⟨rs, qs, tu, se, sp, ws, sh, os⟩ al).spk, .slice D2 (runM ⟨rs, qs, tu, se, sp, ws, sh, os⟩ al).wait.length d2, .slice D3 (runM ⟨rs, qs, tu, se, sp, ws, sh, os⟩ al).shares.length d3, .slice D4 (runM ⟨rs, qs, tu, se, sp, ws, sh, os⟩ al).outs.length d4], .int .i64 (runC ⟨rs, qs, tu, se, sp, ws, sh, os⟩ al), .bool (runB ⟨rs, qs, tu, se, sp, ws, sh, os⟩ al)]) ∧ MeO w.heap.size w' D0 d0 D1 d1 D2 d2 D3 d3 D4 d4 (runM ⟨rs, qs, tu, se, sp, ws, sh, os⟩ al).rules (runM ⟨rs, qs, tu, se, sp, ws, sh, os⟩ al).pend (runM ⟨rs, qs, tu, se, sp, ws, sh, os⟩ al).wait (runM ⟨rs, qs, tu, se, sp, ws, sh, os⟩ al).shares (runM ⟨rs, qs, tu, se, sp, ws, sh, os⟩ al).outs ∧ Below w.heap.size w w' := by
 have HR := lh R; have HZ := lh Z; have HRA := lh RA; clear R Z RA
 cases hm : meetP rs qs tu se sp ws sh os
 case false =>
  have hb : runB ⟨rs, qs, tu, se, sp, ws, sh, os⟩ al = false := by rw [runB, show meetB ⟨rs, qs, tu, se, sp, ws, sh, os⟩ = false from hm]; rfl
  rw [runM_no hb, runC_no hb, hb]
  have HM := lh hm
  exact zb9
 case true =>
  have HM := lh hm; have hok := lh (mee_ok.1 (show meetB ⟨rs, qs, tu, se, sp, ws, sh, os⟩ = true from hm))
  by_cases h20 : 20 < al.length
  ·have hb : runB ⟨rs, qs, tu, se, sp, ws, sh, os⟩ al = false := by rw [runB, decide_eq_false (by omega), Bool.and_false]
   rw [runM_no hb, runC_no hb, hb]
   have hgt : (20 : Int) < (al.length : Int) := by omega
   exact zb9
  ·have hb : runB ⟨rs, qs, tu, se, sp, ws, sh, os⟩ al = true := by rw [runB, show meetB ⟨rs, qs, tu, se, sp, ws, sh, os⟩ = true from hm, decide_eq_true (by omega)]; rfl
   rw [runM_yes hb, runC_yes hb, hb]
   have hle : ¬ (20 : Int) < (al.length : Int) := by omega
   clear hm hb
   obtain ⟨m, hme⟩ : ∃ m : Mee, m = ⟨rs, qs, tu, se, sp, ws, sh, os⟩ := ⟨_, rfl⟩
   rw [← hme] at hok ⊢
   have HME := lh hme; clear hme
   go_in
   go_upto_region 1 with fail
   refine lay2 fun wX hq1 hF hZ => ?_
   have HB := hq1
   obtain ⟨f0, f1, f2, f3, f4, f5, f6, f7⟩ := hF.cs8
   have z' := hZ.cs8; have hf0 := hF.lt; have hz0' := hZ.lt
   go_wp2_with fail
   refine (sMeet_is rs qs tu se sp ws sh os A0 A1 A2 A3 A4 c0 c1 c2 c3 c4 HZ.out.h0 HZ.out.h1 HZ.out.h2 HZ.out.h3 HZ.out.h4 _ HM.out _ (HR.out.r0.below (bth HB bel)) (HR.out.r1.below (bth HB bel)) (HR.out.r2.below (bth HB bel)) (HR.out.r3.below (bth HB bel)) (HR.out.r4.below (bth HB bel)) HZ.out.k0 HZ.out.k2).mono ?_
   rintro e w2 ⟨rfl, hb2⟩
   have hq2 := be wX hb2; replace HB := bth HB hq2; replace hF := hF.to hq2; clear f0 f1 f2 f3 f4 f5 f6 f7
   obtain ⟨f0, f1, f2, f3, f4, f5, f6, f7⟩ := hF.cs8
   replace hZ := hZ.to hq2; clear z'; have z' := hZ.cs8
   go_wp2_with fail
   refine (l25Own_is A0 A1 A2 A3 A4 c0 c1 c2 c3 c4 rs qs tu se sp ws sh os HZ.out _ (HR.out.below (bth HB bel))).mono ?_
   rintro e w3 ⟨D0, d0, D1, d1, D2, d2, D3, d3, D4, d4, rfl, OO, hb3⟩
   have hq3 := be w2 hb3; replace HB := bth HB hq3; replace hF := hF.to hq3; clear f0 f1 f2 f3 f4 f5 f6 f7
   obtain ⟨f0, f1, f2, f3, f4, f5, f6, f7⟩ := hF.cs8
   replace hZ := hZ.to hq3; clear z'; have z' := hZ.cs8; have szp := hq2.size; have szq := hq3.size
   go_upto_region 4 with fail
   refine lay1 fun wU hq4 hX => ?_
   replace HB := bth HB hq4; have x' := hX.cs8; clear f0 f1 f2 f3 f4 f5 f6 f7; replace hF := hF.to hq4
   obtain ⟨f0, f1, f2, f3, f4, f5, f6, f7⟩ := hF.cs8
   clear z'; replace hZ := hZ.to hq4; have z' := hZ.cs8; replace OO := (OO.later hq4).base (B' := w.heap.size) (by have := HB.size; omega)
   obtain ⟨xb, hxb⟩ : ∃ b, b = w3.heap.size := ⟨_, rfl⟩
   rw [← hxb] at hX
   rw [← hxb]
   have hxw : w.heap.size + 1 < xb := by omega
   obtain ⟨zb, hzb⟩ : ∃ b, b = w.heap.size + 1 := ⟨_, rfl⟩
   rw [← hzb] at hZ
   have hzx : zb ≠ xb := by omega
   have hzw : w.heap.size ≤ zb := by omega
   rw [← hzb]
   have HX0 : Hid (Blk wU xb 32 #[.slice D0 m.rules.length d0, .slice D1 m.pend.length d1, .int .i64 m.turns, .int .i64 m.secs, .int .i64 m.spk, .slice D2 m.wait.length d2, .slice D3 m.shares.length d3, .slice D4 m.outs.length d4]) := lh (by rw [HME.out]; exact hX); have HO0 : Hid (MeO w.heap.size wU D0 d0 D1 d1 D2 d2 D3 d3 D4 d4 m.rules m.pend m.wait m.shares m.outs) := lh (by rw [HME.out]; exact OO)
   have HZ0 := lh hZ; have HB0 := lh HB; clear hX hZ hF OO HB x' z' f0 f1 f2 f3 f4 f5 f6 f7 hxb hzb
   go_wp2
   go_loopw [8, 9] (fun cv v wr => ∃ (k cnt : Nat) (n : Mee) (D0 : Option Addr) (d0 : Nat) (D1 : Option Addr) (d1 : Nat) (D2 : Option Addr) (d2 : Nat) (D3 : Option Addr) (d3 : Nat) (D4 : Option Addr) (d4 : Nat), k ≤ al.length ∧ v = .int .i64 k ∧ cv = .int .i64 cnt ∧ runN m al k = (n, cnt) ∧ cnt ≤ k ∧ MeeOk n ∧ Blk wr xb 32 #[.slice D0 n.rules.length d0, .slice D1 n.pend.length d1, .int .i64 n.turns, .int .i64 n.secs, .int .i64 n.spk, .slice D2 n.wait.length d2, .slice D3 n.shares.length d3, .slice D4 n.outs.length d4] ∧ Blk wr zb 32 #[.slice none 0 0, .slice none 0 0, .int .i64 0, .int .i64 0, .int .i64 0, .slice none 0 0, .slice none 0 0, .slice none 0 0] ∧ MeO w.heap.size wr D0 d0 D1 d1 D2 d2 D3 d3 D4 d4 n.rules n.pend n.wait n.shares n.outs ∧ Below w.heap.size w wr) (fun _ v _ => al.length - (intOf v).toNat)
   case atStart => exact ⟨0, 0, m, D0, d0, D1, d1, D2, d2, D3, d3, D4, d4, Nat.zero_le _, rfl, rfl, rfl, Nat.le_refl _, hok.out, HX0.out, HZ0.out, HO0.out, HB0.out⟩
   case round =>
    clear HX0 HO0 HZ0 HB0
    obtain ⟨k, cnt, n, E0, e0, E1, e1, E2, e2, E3, e3, E4, e4, hk, rfl, rfl, hrn, hck, hno, hX, hZ, OO, HB⟩ := hrel
    have HRN := lh hrn; clear hrn; have HNO := lh hno; clear hno
    by_cases hlt : k < al.length
    ·skip
     have szr := HB.size; have hxr := hX.lt; have hzr := hZ.lt
     obtain ⟨b, off, a, hBe, hbl, ha, hca⟩ := HRA.out.at_ (Below.refl _ _) hlt
     subst hBe
     obtain ⟨ak, am, av, ay, an, aa⟩ := a
     have HA := lh ha; clear ha hca
     have hbl2 : b < wr.heap.size := by omega
     have HH := lh (fun W (hb : Below wr.heap.size wr W) => sMakeA_is E0 E1 E2 E3 E4 e0 e1 e2 e3 e4 n.rules n.pend n.turns n.secs n.spk n.wait n.shares n.outs (OO.inL HNO.out) ak am av ay an aa HNO.out W (OO.rd.below hb))
     generalize ho : mkA ⟨n.rules, n.pend, n.turns, n.secs, n.spk, n.wait, n.shares, n.outs⟩ ⟨ak, am, av, ay, an, aa⟩ = o at HH
     have HM2 : Hid (mkA n ⟨ak, am, av, ay, an, aa⟩ = o) := lh ho; clear ho
     go_upto_region 8 with fail
     obtain ⟨CC, hCC⟩ : ∃ X : World → Prop, ∀ V, X V ↔ (Below wr.heap.size wr V) := ⟨_, fun _ => Iff.rfl⟩
     have HCC := lh hCC; clear hCC
     haveI : Nonempty (Hld CC) := ⟨⟨wr, (HCC.out _).2 (Below.refl _ _)⟩⟩
     have HB2 := lh HB; have HOO := lh OO; clear OO; have x' := Blk.cs8K (fun K : Hld CC => (hX.below ((HCC.out _).1 K.holds) hX.lt))
     have l0 := fun K : Hld CC => rds_cellz (HRA.out.below (bth HB2.out ((HCC.out _).1 K.holds))) HA.out (i := 0) (u := .int .i64 ak) rfl
     have l1 := fun K : Hld CC => rds_cellz (HRA.out.below (bth HB2.out ((HCC.out _).1 K.holds))) HA.out (i := 1) (u := .int .i64 am) rfl
     have l2 := fun K : Hld CC => rds_cellz (HRA.out.below (bth HB2.out ((HCC.out _).1 K.holds))) HA.out (i := 2) (u := .int .i64 av) rfl
     have l3 := fun K : Hld CC => rds_cellz (HRA.out.below (bth HB2.out ((HCC.out _).1 K.holds))) HA.out (i := 3) (u := .int .i64 ay) rfl
     have l4 := fun K : Hld CC => rds_cellz (HRA.out.below (bth HB2.out ((HCC.out _).1 K.holds))) HA.out (i := 4) (u := .int .i64 an) rfl
     have l5 := fun K : Hld CC => rds_cellz (HRA.out.below (bth HB2.out ((HCC.out _).1 K.holds))) HA.out (i := 5) (u := .int .i64 aa) rfl
     simp only [Nat.add_zero] at l0
     cases o with
     | none =>
      refine wp_region_mky (ruN 5 9) CC [([0, 1, 2, 3, 4], 5), ([], 9)] [6, 7, 8] [([], [], 10, false)] [] [11] (by kernel_rfl) (by kernel_rfl) ((HCC.out _).2 (Below.refl _ _).drew) (fun W W' h k => (HCC.out _).2 (bth ((HCC.out _).1 h) k)) ?_
      intro σ
      refine wpMk1_cons (some 35) rfl (.tuple #[.agg #[.slice none 0 0, .slice none 0 0, .int .i64 0, .int .i64 0, .int .i64 0, .slice none 0 0, .slice none 0 0, .slice none 0 0], .bool false]) rfl fun K1 hK1 => ?_
      change wpQuiet _ _ _ _ (_ :: _ :: _ :: _ :: _ :: []) _
      repeat (go_big_quiet_step (fail))
      refine wpQuiet_nil ?_
      refine ⟨fun kq hpar => ?_, hK1 _ ?_⟩
      ·change wpList _ _ _ (_ :: []) _ _
       go_wp2_with fail
       refine (HH.out _ ((HCC.out _).1 kq.holds)).mono ?_
       rintro e wq ⟨rfl, hbq⟩
       go_wp2
       first | exact Nrm_mk ⟨(0, 0), rfl, hbq, trivial⟩ | exact Nrm_mk ⟨0, 0, rfl, hbq, trivial⟩
      simp only [Act.put]
      go_simp
      refine wpMk1_cons (some 10) rfl (.pointer (some ⟨(σ 9).1, 0, none⟩)) rfl fun K1 hK1 => ?_
      change wpQuiet _ _ _ _ ([]) _
      refine wpQuiet_nil ?_
      refine ⟨fun kq hpar => ?_, hK1 _ ?_⟩
      ·change wpList _ _ _ (_ :: []) _ _
       go_wp2
       first | exact Nrm_mk ⟨(kq.world.heap.size, 0), rfl, bl1 _ _, rfl, Blk.new _ _ _⟩ | exact Nrm_mk ⟨kq.world.heap.size, 0, rfl, bl1 _ _, rfl, Blk.new _ _ _⟩
      simp only [Act.put]
      go_simp
      refine wpMk1_last ?_
      change wpQuiet _ _ _ _ (_ :: _ :: _ :: []) _
      repeat (go_big_quiet_step (fail))
      refine wpQuiet_nil ?_
      intro V0 V W hM hW
      obtain ⟨e9, q9⟩ : (σ 9).1 = (V0 9).heap.size ∧ Blk (V 9) (V0 9).heap.size 32 #[.slice none 0 0, .slice none 0 0, .int .i64 0, .int .i64 0, .int .i64 0, .slice none 0 0, .slice none 0 0, .slice none 0 0] := hM.post 9 (by simp)
      have q9W := q9.below (hM.later 9 (by simp)) q9.lt; have h90 := (hM.from0 9 (by simp)).size; have hqW : Below wr.heap.size wr W := (hM.whole 9 (by simp)).undrew; clear hM hW q9
      rw [← e9] at q9W
      generalize σ 9 = p9 at *
      obtain ⟨yb, _⟩ := p9
      simp only at q9W e9
      have hyb : wr.heap.size ≤ yb := by rw [e9]; exact h90
      have HBW := bth HB2.out hqW; have hXW := hX.to hqW; have hZW := hZ.to hqW; have OOW := HOO.out.later hqW; clear e9 h90 HB hX hZ x' l0 l1 l2 l3 l4 l5; have HB := HBW; have y' := q9W.cs8; have x' := hXW.cs8; have z' := hZW.cs8; have O0 := OOW.o0; have O1 := OOW.o1; have O2 := OOW.o2; have O3 := OOW.o3; have O4 := OOW.o4; clear OOW; have neO0 := O0.nb q9W; have neO1 := O1.nb q9W; have neO2 := O2.nb q9W
      have neO3 := O3.nb q9W; have neO4 := O4.nb q9W
      refine wpMx_cons fun K2 hK2 => ?_
      refine wpQuiet_nil ?_
      refine wpQuiet_nil ?_
      change wpList _ _ _ (_ :: []) _ _
      have fq9W' := q9W.fz8; have yq9W := q9W.lt; have yhXW := hXW.lt; have yhZW := hZW.lt
      go_wp2
      clear y' x' z'
      refine st8 0 fun W9 tW9 => ?_
      replace HB := tW9.hc HB; replace q9W := tW9.all8 q9W; replace hXW := tW9.fa hXW; replace hZW := tW9.fa hZW; have gRW9 := tW9.gr; have szW9 := tW9.sz; replace O0 := O0.keptS tW9 neO0; replace O1 := O1.keptS tW9 neO1; replace O2 := O2.keptS tW9 neO2; replace O3 := O3.keptS tW9 neO3; replace O4 := O4.keptS tW9 neO4; have y' := q9W.cs8; have x' := hXW.cs8; have z' := hZW.cs8
      refine Nrm_keep ((HCC.out _).2 (hqW.grown gRW9 hqW.size (fun q hq => by rw [← Option.some.inj hq]; exact hyb))) (hK2 _ _ ?_)
      refine wpMx_last ?_
      refine wpQuiet_nil ?_
      change wpQuiet _ _ _ _ (_ :: []) _
      haveI : Nonempty (Hld (fun _ => True)) := ⟨⟨W9, trivial⟩⟩
      repeat (go_big_quiet_step (fail))
      refine wpQuiet_nil ?_
      have hX9 := hXW; have hZ9 := hZW; have HB9 := HB; have OO9 : MeO w.heap.size W9 E0 e0 E1 e1 E2 e2 E3 e3 E4 e4 n.rules n.pend n.wait n.shares n.outs := ⟨O0, O1, O2, O3, O4⟩
      go_wp2
      go_roundw
      case rel => exact ⟨k + 1, cnt, n, E0, e0, E1, e1, E2, e2, E3, e3, E4, e4, by omega, by go_num, rfl, by rw [runN_none HA.out (by rw [HRN.out]; exact HM2.out), HRN.out], by omega, HNO.out, hX9, hZ9, OO9, HB9⟩
      case measure => simp [intOf]; omega
     | some n2 =>
      refine wp_region_mky (ruY 5 9 n2) CC [([0, 1, 2, 3, 4], 5), ([], 9)] [6, 7, 8] [([], [], 10, false)] [] [11] (by kernel_rfl) (by kernel_rfl) ((HCC.out _).2 (Below.refl _ _).drew) (fun W W' h k => (HCC.out _).2 (bth ((HCC.out _).1 h) k)) ?_
      intro σ
      refine wpMk1_cons (some 35) rfl (.tuple #[.agg #[.slice ((σ 5).1 0) n2.rules.length ((σ 5).2 0), .slice ((σ 5).1 1) n2.pend.length ((σ 5).2 1), .int .i64 n2.turns, .int .i64 n2.secs, .int .i64 n2.spk, .slice ((σ 5).1 2) n2.wait.length ((σ 5).2 2), .slice ((σ 5).1 3) n2.shares.length ((σ 5).2 3), .slice ((σ 5).1 4) n2.outs.length ((σ 5).2 4)], .bool true]) rfl fun K1 hK1 => ?_
      change wpQuiet _ _ _ _ (_ :: _ :: _ :: _ :: _ :: []) _
      repeat (go_big_quiet_step (fail))
      refine wpQuiet_nil ?_
      refine ⟨fun kq hpar => ?_, hK1 _ ?_⟩
      ·change wpList _ _ _ (_ :: []) _ _
       go_wp2_with fail
       refine (HH.out _ ((HCC.out _).1 kq.holds)).mono ?_
       rintro e wq ⟨F0, f0, F1, f1, F2, f2, F3, f3, F4, f4, rfl, ON, hbq⟩
       go_wp2
       first | exact Nrm_mk ⟨(fiveA F0 F1 F2 F3 F4, fiveN f0 f1 f2 f3 f4), rfl, hbq, ON⟩ | exact Nrm_mk ⟨fiveA F0 F1 F2 F3 F4, fiveN f0 f1 f2 f3 f4, rfl, hbq, ON⟩
      simp only [Act.put]
      go_simp
      refine wpMk1_cons (some 10) rfl (.pointer (some ⟨(σ 9).2 0, 0, none⟩)) rfl fun K1 hK1 => ?_
      change wpQuiet _ _ _ _ ([]) _
      refine wpQuiet_nil ?_
      refine ⟨fun kq hpar => ?_, hK1 _ ?_⟩
      ·change wpList _ _ _ (_ :: []) _ _
       go_wp2
       first | exact Nrm_mk ⟨(fun _ => none, fun _ => kq.world.heap.size), rfl, bl1 _ _, rfl, Blk.new _ _ _⟩ | exact Nrm_mk ⟨fun _ => none, fun _ => kq.world.heap.size, rfl, bl1 _ _, rfl, Blk.new _ _ _⟩
      simp only [Act.put]
      go_simp
      refine wpMk1_last ?_
      change wpQuiet _ _ _ _ (_ :: _ :: _ :: []) _
      repeat (go_big_quiet_step (fail))
      refine wpQuiet_nil ?_
      intro V0 V W hM hW
      obtain ⟨e9, q9⟩ : (σ 9).2 0 = (V0 9).heap.size ∧ Blk (V 9) (V0 9).heap.size 32 #[.slice none 0 0, .slice none 0 0, .int .i64 0, .int .i64 0, .int .i64 0, .slice none 0 0, .slice none 0 0, .slice none 0 0] := hM.post 9 (by simp)
      have q9W := q9.below (hM.later 9 (by simp)) q9.lt; have h90 := (hM.from0 9 (by simp)).size; have q5 : MeO (V0 5).heap.size (V 5) ((σ 5).1 0) ((σ 5).2 0) ((σ 5).1 1) ((σ 5).2 1) ((σ 5).1 2) ((σ 5).2 2) ((σ 5).1 3) ((σ 5).2 3) ((σ 5).1 4) ((σ 5).2 4) n2.rules n2.pend n2.wait n2.shares n2.outs := hM.post 5 (by simp); have q5W := (q5.later (hM.later 5 (by simp))).base (B' := wr.heap.size) (hM.from0 5 (by simp)).size
      have hqW : Below wr.heap.size wr W := (hM.whole 9 (by simp)).undrew; clear hM hW q9 q5
      rw [← e9] at q9W
      generalize hg9 : (σ 9).2 0 = yb at *
      generalize (σ 5).1 0 = F0 at *
      generalize (σ 5).1 1 = F1 at *
      generalize (σ 5).1 2 = F2 at *
      generalize (σ 5).1 3 = F3 at *
      generalize (σ 5).1 4 = F4 at *
      generalize (σ 5).2 0 = f0 at *
      generalize (σ 5).2 1 = f1 at *
      generalize (σ 5).2 2 = f2 at *
      generalize (σ 5).2 3 = f3 at *
      generalize (σ 5).2 4 = f4 at *
      have hyb : wr.heap.size ≤ yb := by rw [e9]; exact h90
      have HBW := bth HB2.out hqW; have hXW := hX.to hqW; have hZW := hZ.to hqW; have hxW := hXW.lt; have hzW := hZW.lt; have hyW := q9W.lt; replace q5W := q5W.base (B' := w.heap.size) szr; clear e9 h90 HB hX hZ hg9 x' l0 l1 l2 l3 l4 l5; have HB := HBW; have y' := q9W.cs8; have x' := hXW.cs8; have z' := hZW.cs8; have O0 := q5W.o0; have O1 := q5W.o1; have O2 := q5W.o2; have O3 := q5W.o3; have O4 := q5W.o4
      clear q5W; have neO0 := O0.nb q9W; have neO1 := O1.nb q9W; have neO2 := O2.nb q9W; have neO3 := O3.nb q9W; have neO4 := O4.nb q9W
      refine wpMx_cons fun K2 hK2 => ?_
      refine wpQuiet_nil ?_
      refine wpQuiet_nil ?_
      change wpList _ _ _ (_ :: []) _ _
      have fq9W' := q9W.fz8; have yq9W := q9W.lt; have yhXW := hXW.lt; have yhZW := hZW.lt
      go_wp2
      clear y' x' z'
      refine st8 0 fun W9 tW9 => ?_
      replace HB := tW9.hc HB; replace q9W := tW9.all8 q9W; replace hXW := tW9.fa hXW; replace hZW := tW9.fa hZW; have gRW9 := tW9.gr; have szW9 := tW9.sz; replace O0 := O0.keptS tW9 neO0; replace O1 := O1.keptS tW9 neO1; replace O2 := O2.keptS tW9 neO2; replace O3 := O3.keptS tW9 neO3; replace O4 := O4.keptS tW9 neO4; have y' := q9W.cs8; have x' := hXW.cs8; have z' := hZW.cs8; clear neO0 neO1 neO2 neO3 neO4 szW9 fq9W'
      refine Nrm_keep ((HCC.out _).2 (hqW.grown gRW9 hqW.size (fun q hq => by rw [← Option.some.inj hq]; exact hyb))) (hK2 _ _ ?_)
      refine wpMx_last ?_
      refine wpQuiet_nil ?_
      change wpQuiet _ _ _ _ (_ :: []) _
      haveI : Nonempty (Hld (fun _ => True)) := ⟨⟨W9, trivial⟩⟩
      repeat (go_big_quiet_step (fail))
      refine wpQuiet_nil ?_
      have neO0 := O0.nb hXW; have neO1 := O1.nb hXW; have neO2 := O2.nb hXW; have neO3 := O3.nb hXW; have neO4 := O4.nb hXW; have fhXW' := hXW.fz8; have yq9W := q9W.lt; have yhXW := hXW.lt; have yhZW := hZW.lt
      go_upto_region 11 with fail
      clear y' x' z'
      refine st8 0 fun WY tWY => ?_
      replace HB := tWY.hc HB; replace q9W := tWY.fa q9W; replace hXW := tWY.all8 hXW; replace hZW := tWY.fa hZW; have gRWY := tWY.gr; have szWY := tWY.sz; replace O0 := O0.keptS tWY neO0; replace O1 := O1.keptS tWY neO1; replace O2 := O2.keptS tWY neO2; replace O3 := O3.keptS tWY neO3; replace O4 := O4.keptS tWY neO4; have y' := q9W.cs8; have x' := hXW.cs8; have z' := hZW.cs8; have OZ9 : MeO w.heap.size WY F0 f0 F1 f1 F2 f2 F3 f3 F4 f4 n2.rules n2.pend n2.wait n2.shares n2.outs := ⟨O0, O1, O2, O3, O4⟩
      have hX9 := hXW; have hZ9 := hZW
      exact zb67
    ·obtain rfl : k = al.length := by omega
     have x' := hX.cs8; have z' := hZ.cs8; have O0 := OO.o0; have O1 := OO.o1; have O2 := OO.o2; have O3 := OO.o3; have O4 := OO.o4; clear OO; have neO0 := O0.nb hZ; have neO1 := O1.nb hZ; have neO2 := O2.nb hZ; have neO3 := O3.nb hZ; have neO4 := O4.nb hZ; have fhZ' := hZ.fz8; have yhX := hX.lt; have yhZ := hZ.lt
     go_wp2
     clear x' z'
     refine st8 0 fun W9 tW9 => ?_
     replace HB := tW9.hc HB; replace hX := tW9.fa hX; replace hZ := tW9.all8 hZ; have gRW9 := tW9.gr; have szW9 := tW9.sz; replace O0 := O0.keptS tW9 neO0; replace O1 := O1.keptS tW9 neO1; replace O2 := O2.keptS tW9 neO2; replace O3 := O3.keptS tW9 neO3; replace O4 := O4.keptS tW9 neO4; have x' := hX.cs8; have z' := hZ.cs8
     refine bodyPost_ret (v := .tuple #[.agg #[.slice E0 n.rules.length e0, .slice E1 n.pend.length e1, .int .i64 n.turns, .int .i64 n.secs, .int .i64 n.spk, .slice E2 n.wait.length e2, .slice E3 n.shares.length e3, .slice E4 n.outs.length e4], .int .i64 cnt, .bool true]) (by simp [results, Tryz.results26, go_sem, z']) rfl ?_
     exact zb130
end Go.Proofs.YtjimibkgocieoaaGreat
namespace Go.G9
open Go.ChangeShapes Go.WideShapes Go.ChangeAt Go.RowKit Go.Deep
section
variable {H : Type} {enc : TypeId × Value → H} {P : Program}
theorem trodAll_below (hl : laidOutB P = true) {W W' : World} (hb : Below W.heap.size W W') : ∀ {ts : List TypeId} {vs : List Value} {ds : List (DataW H)} {ps : List MemPlace},
  (∀ t ∈ ts, P.readableRec t = true ∧ t < P.types.size) → (∀ x ∈ ps, x.block < W.heap.size) → DataW.TrodAll enc P W 0 (fun _ => true) true ts vs ds ps →
  DataW.TrodAll enc P W' 0 (fun b => decide (b < W.heap.size)) true ts vs ds ps
 | [], [], [], _, _, _, h => h
 | t :: ts, v :: vs, d :: ds, ps, ht, hlt, h => by
  obtain ⟨p, q, h1, h2, e⟩ := h
  have ht0 := ht t (List.mem_cons.2 (Or.inl rfl))
  exact ⟨p, q, Below.trod hl ht0.1 ht0.2 h1 hb (fun x hx => hlt x (by rw [e]; exact List.mem_append_left _ hx)),
   trodAll_below hl hb (fun t' h' => ht t' (List.mem_cons.2 (Or.inr h'))) (fun x hx => hlt x (by rw [e]; exact List.mem_append_right _ hx)) h2, e⟩
 | [], [], _ :: _, _, _, _, h => h.elim
 | [], _ :: _, _, _, _, _, h => h.elim
 | _ :: _, [], _, _, _, _, h => h.elim
 | _ :: _, _ :: _, [], _, _, _, h => h.elim
theorem trodAll_len {w : World} {base : Nat} {sp : Nat → Bool} {hd : Bool} : ∀ {ts : List TypeId} {vs : List Value} {ds : List (DataW H)} {ps : List MemPlace}, DataW.TrodAll enc P w base sp hd ts vs ds ps → ds.length = ts.length
 | [], [], [], _, _ => rfl
 | _ :: _, _ :: _, _ :: _, _, h => by obtain ⟨_, _, _, h2, _⟩ := h; simp [trodAll_len h2]
 | [], [], _ :: _, _, h => h.elim
 | [], _ :: _, _, _, h => h.elim
 | _ :: _, [], _, _, h => h.elim
 | _ :: _, _ :: _, [], _, h => h.elim

theorem law_post {fn : Func} {s : ChangeSpec} {W W' : World} {args : Array Value} {ds gs : List (DataW H)} {before : List MemPlace} {rt : TypeId}
  (hlaid : laidOutB P = true) (hread : ∀ t ∈ fn.params.toList, P.readableRec t = true ∧ t < P.types.size) (hrt : fn.resultTypes = #[rt]) (hbool : P.underlying rt = some .bool) (hvars : s.vars = [])
  (hspec : ∀ l : List (DataW H), l.length = fn.params.toList.length → s.fn H (l ++ []) = { results := [.lit (.bool true)], args := l })
  (hW : DataW.Whole enc P fn.params.toList s.vars false W args.toList ds gs before) (hb : Below W.heap.size W W') : s.post enc P fn false true false false W args (.bool true) W' := by
 have hlt := hW.lt; have hW' := hW
 obtain ⟨p, q, hA, hV, rfl, hfz, hnd⟩ := hW
 rw [hvars] at hV
 obtain ⟨rfl, rfl⟩ := trodVars_none hV
 have hsp := hspec ds (trodAll_len hA)
 refine ⟨ds, [], p ++ [], [], p, [], hW', ?_, ?_, ?_, hb.frame _, fun h => by cases h⟩
 ·rw [hsp, hrt]; exact trodAll_mk1 (shut_bool hbool true)
 ·rw [hsp]; exact trodAll_below hlaid hb hread (fun x hx => hlt x (by simpa using hx)) hA
 ·rw [hsp, hvars]; rfl

theorem law_lift {C : Checked} {os : Os} {f : FuncId} {fn : Func} {s : ChangeSpec} {rt : TypeId} (own : ownKnob C.prog.godebug = none) (started : os.Started) (noInit : C.prog.inits.idxOf? f = none) (hfn : C.prog.funcs[f]? = some fn)
  (witness : ∃ (w : World) (tape : Tape) (i : Input), w.os = os ∧ (w.forCall tape i).Shaped C.prog ∧ i.vars = [] ∧ Input.okWide C.prog (w.forCall tape i) .any w.heap.size f i ∧
   s.pre6 enc C.prog fn [] false (w.forCall tape i).memory i.args ∧ ({} : Assume).holds C.prog (lone (Frame.enter C.prog f i.args .normal) [] (w.forCall tape i)))
  (hlaid : laidOutB C.prog = true) (hread : ∀ t ∈ fn.params.toList, C.prog.readableRec t = true ∧ t < C.prog.types.size) (hrt : fn.resultTypes = #[rt]) (hbool : C.prog.underlying rt = some .bool) (hvars : s.vars = [])
  (hspec : ∀ l : List (DataW H), l.length = fn.params.toList.length → s.fn H (l ++ []) = { results := [.lit (.bool true)], args := l })
  (walk : ∀ (W : World) (base : Nat) (args : Array Value) (ds : List (DataW H)) (p : List MemPlace), (∀ (j : Nat) t v, fn.params[j]? = some t → args[j]? = some v → Value.okWide C.prog W .any base t v) →
   DataW.TrodAll enc C.prog W 0 (fun _ => true) true fn.params.toList args.toList ds p → Calls C.prog f args W fun e W' => e = .returned (.bool true) ∧ Below W.heap.size W W') :
  ReturnsInHanded {} C os f .any (s.pre6 enc C.prog fn [] false) (s.post enc C.prog fn false true false false) := by
 refine returnsInHanded_of_change (C := C) own started noInit hfn witness ?_
 intro W base args ds gs before hval hW _ _
 have hW' := hW
 obtain ⟨p, q, hA, _, _, _, _⟩ := hW
 exact (walk W base args ds p hval hA).mono fun e W' ⟨he, hb⟩ => ⟨_, he, law_post hlaid hread hrt hbool hvars hspec hW' hb⟩

variable {w : World} {base : Nat} {sp : Nat → Bool} {hd : Bool}
theorem spot_of_cell {w : World} {a : Addr} {v : Value} (h : w.cell? a = some v) : a.spot = none := by
 unfold World.cell? at h
 split at h
 ·split at h
  ·cases h
  ·rename_i hs; simpa using hs
 ·cases h
theorem rd_slicen {T : Type} (f : T → List Value) (sz : Nat) (hsz : 0 < sz) {t e : TypeId} (ht : P.underlying t = some (.slice e)) (hC : P.cellsOf e = sz)
  (helem : ∀ fuel cs x, DataW.trod enc P w base sp hd fuel e cs = some x → ∃ y : T, cs = f y) {fuel : Nat} {cs : List Value} {x : DataW H × List MemPlace} (h : DataW.trod enc P w base sp hd fuel t cs = some x) :
  ∃ (A : Option Addr) (c : Nat) (xs : List T), cs = [.slice A xs.length c] ∧ xs.length ≤ maxLen ∧ Rds sz f w A xs ∧ (A = none → xs = [] ∧ c = 0) := by
 rcases open_slice ht h with ⟨rfl, _⟩ | ⟨a, len, cap, m, n, D, Pl, rfl, _, hlc, hcm, hm, _, hi⟩
 ·exact ⟨none, 0, [], rfl, by simp, Rds.nil, fun _ => ⟨rfl, rfl⟩⟩
 ·have hle : len ≤ m := by rw [hm]; split <;> omega
  have hex : ∀ i, i < len → ∃ y : T, w.cells? base (a.add (i * sz)) sz = some (f y) := fun i hil => by
   obtain ⟨cs', hcs, htr⟩ := hi i (by omega)
   obtain ⟨y, rfl⟩ := helem _ _ _ htr
   exact ⟨y, by rw [hC] at hcs; exact hcs⟩
  have hall : ∀ k, k ≤ len → ∃ l : List T, l.length = k ∧ ∀ i y, l[i]? = some y → w.cells? base (a.add (i * sz)) sz = some (f y) := by
   intro k
   induction k with
   | zero => intro _; exact ⟨[], rfl, by simp⟩
   | succ k ih =>
    intro hk
    obtain ⟨l, hll, hlc⟩ := ih (by omega)
    obtain ⟨y, hy⟩ := hex k (by omega)
    refine ⟨l ++ [y], by simp [hll], fun i z hz => ?_⟩
    rw [List.getElem?_append] at hz
    split at hz
    ·exact hlc i z hz
    ·have h0 : i = k := by have := (List.getElem?_eq_some_iff.1 hz).1; simp at this; omega
     subst h0
     rw [hll] at hz; simp at hz; subst hz; exact hy
  obtain ⟨l, hll, hcell⟩ := hall len (Nat.le_refl _)
  refine ⟨some a, cap, l, by rw [hll], by omega, fun hn => ?_, fun h => by cases h⟩
  have at0 : ∀ i y, l[i]? = some y → ∀ j u, (f y)[j]? = some u → w.cell? ((a.add (i * sz)).add j) = some u := fun i y hy j u hu => by
   obtain ⟨_, hcl, hat⟩ := World.cells?_some (hcell i y hy)
   have hj : j < sz := by rw [← hcl]; exact (List.getElem?_eq_some_iff.1 hu).1
   rw [hat j hj]; exact hu
  obtain ⟨y0, hy0⟩ : ∃ y, l[0]? = some y := ⟨_, List.getElem?_eq_getElem hn⟩
  obtain ⟨_, hcl0, _⟩ := World.cells?_some (hcell 0 y0 hy0)
  have hu0 : (f y0)[0]? = some ((f y0)[0]'(by omega)) := List.getElem?_eq_getElem _; have c0 := at0 0 y0 hy0 0 _ hu0
  rw [Nat.zero_mul, show (a.add 0).add 0 = a from by simp [Addr.add]] at c0
  have hs := spot_of_cell c0
  obtain ⟨b, off, spot⟩ := a
  simp only at hs; subst hs
  refine ⟨b, off, rfl, World.block_lt_of_cell? w _ c0, fun i x hx j u hu => ?_⟩
  have := at0 i x hx j u hu
  rw [add_add] at this
  rw [← this]
  congr 1
  unfold Addr.add
  split <;> simp_all [Nat.add_assoc]
theorem rd_slice {T : Type} (f : T → List Value) (sz : Nat) (hsz : 0 < sz) {t e : TypeId} (ht : P.underlying t = some (.slice e)) (hC : P.cellsOf e = sz)
  (helem : ∀ fuel cs x, DataW.trod enc P w base sp hd fuel e cs = some x → ∃ y : T, cs = f y) {fuel : Nat} {cs : List Value} {x : DataW H × List MemPlace} (h : DataW.trod enc P w base sp hd fuel t cs = some x) :
  ∃ (A : Option Addr) (c : Nat) (xs : List T), cs = [.slice A xs.length c] ∧ xs.length ≤ maxLen ∧ Rds sz f w A xs := by
 obtain ⟨A, c, xs, h1, h2, h3, _⟩ := rd_slicen f sz hsz ht hC helem h
 exact ⟨A, c, xs, h1, h2, h3⟩
end
end Go.G9
