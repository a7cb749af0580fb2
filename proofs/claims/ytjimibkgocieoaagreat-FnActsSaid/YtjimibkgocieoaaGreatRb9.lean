/- Texts of the proof: walks of the functions, and what they compute. -/
import Derived.Deep.Cut
import Derived.Test.YtjimibkgocieoaaGreatRb8
import Derived.Test.YtjimibkgocieoaaGreatRb0
import Derived.Test.YtjimibkgocieoaaGreatRb3
import Derived.Test.YtjimibkgocieoaaGreatRb5
import Derived.Test.YtjimibkgocieoaaGreatRb2
set_option maxHeartbeats 16000000
set_option maxRecDepth 100000
namespace Go.Proofs.YtjimibkgocieoaaGreat
open Go.RowKit Go.G9
theorem movd_skip {os : List Out} {n : Int} {k : Nat} {o : Out} (hx : os[k]? = some o) (h : (o.mover == n) = false) : movd os n (k + 1) = movd os n k := by simp [movd, hx, h]
theorem movd_yes {os : List Out} {n : Int} {k : Nat} {o : Out} (hx : os[k]? = some o) (h : (o.mover == n) = true) : movd os n (k + 1) = ((movd os n k).1 + 1, (movd os n k).2 + (if o.ado then 1 else 0)) := by simp [movd, hx, h]
theorem zb117 {p : Prop} (h : p := by
 exact bodyPost_ret (v := .tuple #[.int .i64 0, .int .i64 0, .bool false]) (by simp [results, Tryz.results31, go_sem]) rfl ⟨rfl, (bth HB bel)⟩) : p := h
theorem zb105 {p : Prop} (h : p := by
 go_wp2
 go_roundw
 case rel => exact ⟨k + 1, by omega, by go_num, by rw [HS.out], by rw [HS.out]; simp, bth hbw (bl1 _ _), bth hb (bl1 _ _)⟩
 case measure => simp [intOf]; omega) : p := h
theorem iMovedBy_is (m : Mee) (A0 A1 A2 A3 A4 : Option Addr) (c0 c1 c2 c3 c4 : Nat) (h0 : m.rules.length ≤ 1048576) (h1 : m.pend.length ≤ 1048576) (h2 : m.wait.length ≤ 1048576) (h3 : m.shares.length ≤ 1048576) (h4 : m.outs.length ≤ 1048576) (n : Int) (v : Value) (hv : mvOut m n = v) (w : World) (R0 : Rds 7 Rul.cells w A0 m.rules) (R1 : Rds 3 Que.cells w A1 m.pend) (R2 : Rds 1 intC w A2 m.wait) (R3 : Rds 3 Sha.cells w A3 m.shares) (R4 : Rds 3 Out.cells w A4 m.outs) (k0 : m.rules.length ≤ c0) (k1 : m.pend.length ≤ c1) (k2 : m.wait.length ≤ c2) (k3 : m.shares.length ≤ c3) (k4 : m.outs.length ≤ c4) :
 Calls Tryz.prog 31 #[.agg #[.slice A0 m.rules.length c0, .slice A1 m.pend.length c1, .int .i64 m.turns, .int .i64 m.secs, .int .i64 m.spk, .slice A2 m.wait.length c2, .slice A3 m.shares.length c3, .slice A4 m.outs.length c4], .int .i64 n] w fun e w' => e = .returned (v) ∧ Below w.heap.size w w' := by
 subst hv
 cases hb : meetB m
 ·have HV := lh hb
  go_in
  go_upto_region 1 with fail
  refine lay1 fun wX hq1 hM => ?_
  replace R0 := R0.below hq1; replace R1 := R1.below hq1; replace R2 := R2.below hq1; replace R3 := R3.below hq1; replace R4 := R4.below hq1; have HB := hq1; have b' := hM.cs8
  go_wp2_with fail
  refine (iIsValidMeeting_is m A0 A1 A2 A3 A4 c0 c1 c2 c3 c4 h0 h1 h2 h3 h4 _ HV.out _ (R0.below bel) (R1.below bel) (R2.below bel) (R3.below bel) (R4.below bel) k0 k1 k2 k3 k4).mono ?_
  rintro e w2 ⟨rfl, hb2⟩
  have hq2 := be wX hb2; replace HB := bth HB hq2; replace R0 := R0.below hq2; replace R1 := R1.below hq2; replace R2 := R2.below hq2; replace R3 := R3.below hq2; replace R4 := R4.below hq2; replace hM := hM.to hq2; clear b'; have b' := hM.cs8
  go_wp2
  simp only [mvOut, HV.out]
  exact zb117
 have HV := lh hb; clear hb
 cases hn : memB n
 ·have HN := lh hn; clear hn
  go_in
  go_upto_region 1 with fail
  refine lay1 fun wX hq1 hM => ?_
  replace R0 := R0.below hq1; replace R1 := R1.below hq1; replace R2 := R2.below hq1; replace R3 := R3.below hq1; replace R4 := R4.below hq1; have HB := hq1; have b' := hM.cs8
  go_wp2_with fail
  refine (iIsValidMeeting_is m A0 A1 A2 A3 A4 c0 c1 c2 c3 c4 h0 h1 h2 h3 h4 _ HV.out _ (R0.below bel) (R1.below bel) (R2.below bel) (R3.below bel) (R4.below bel) k0 k1 k2 k3 k4).mono ?_
  rintro e w2 ⟨rfl, hb2⟩
  have hq2 := be wX hb2; replace HB := bth HB hq2; replace R0 := R0.below hq2; replace R1 := R1.below hq2; replace R2 := R2.below hq2; replace R3 := R3.below hq2; replace R4 := R4.below hq2; replace hM := hM.to hq2; clear b'; have b' := hM.cs8
  go_wp2_with fail
  refine (isMember_is n _ HN.out _).mono ?_
  rintro e w0 ⟨rfl, h0⟩
  rw [h0]
  clear h0 w0
  go_wp2
  simp only [mvOut, HV.out, HN.out]
  exact zb117
 have HN := lh hn; clear hn
 go_in
 go_upto_region 1 with fail
 refine lay1 fun wX hq1 hM => ?_
 replace R0 := R0.below hq1; replace R1 := R1.below hq1; replace R2 := R2.below hq1; replace R3 := R3.below hq1; replace R4 := R4.below hq1; have HB := hq1; have b' := hM.cs8
 go_wp2_with fail
 refine (iIsValidMeeting_is m A0 A1 A2 A3 A4 c0 c1 c2 c3 c4 h0 h1 h2 h3 h4 _ HV.out _ (R0.below bel) (R1.below bel) (R2.below bel) (R3.below bel) (R4.below bel) k0 k1 k2 k3 k4).mono ?_
 rintro e w2 ⟨rfl, hb2⟩
 have hq2 := be wX hb2; replace HB := bth HB hq2; replace R0 := R0.below hq2; replace R1 := R1.below hq2; replace R2 := R2.below hq2; replace R3 := R3.below hq2; replace R4 := R4.below hq2; replace hM := hM.to hq2; clear b'; have b' := hM.cs8
 go_wp2_with fail
 refine (isMember_is n _ HN.out _).mono ?_
 rintro e w0 ⟨rfl, h0⟩
 rw [h0]
 clear h0 w0
 go_wp2
 clear b'
 go_loopw [7, 8, 22] (fun a b i wr => ∃ k : Nat, k ≤ m.outs.length ∧ i = .int .i64 k ∧ a = .int .i64 (movd m.outs n k).1 ∧ b = .int .i64 (movd m.outs n k).2 ∧ Below w.heap.size w wr ∧ Below w2.heap.size w2 wr) (fun _ _ i _ => m.outs.length - (intOf i).toNat)
 case atStart => exact ⟨0, Nat.zero_le _, rfl, rfl, rfl, HB, Below.refl _ _⟩
 case round =>
  obtain ⟨k, hk, rfl, rfl, rfl, hbw, hb⟩ := hrel
  by_cases hlt : k < m.outs.length
  ·obtain ⟨bq, oq, x, rfl, hbl, hx, hcx⟩ := R4.at_ hb hlt
   obtain ⟨xr, xm, xa⟩ := x
   have p0 := hcx 0 _ rfl; have p1 := hcx 1 _ rfl; have p2 := hcx 2 _ rfl
   simp only [Nat.add_zero] at p0
   have g0 := p0 (Kin.self _); have g1 := p1 (Kin.self _); have g2 := p2 (Kin.self _)
   simp only [Kin.self] at g0
   simp only [Kin.self] at g1
   simp only [Kin.self] at g2
   have HX := lh hx; clear hx hcx p0 p1 p2; have hbd := movd_bd m.outs n k
   cases hm : (xm == n)
   ·have hne : (xm != n) = true := by simp [bne, hm]
    have hs := movd_skip HX.out hm; have HS := lh hs; clear hs
    go_wp2
    go_roundw
    case rel => exact ⟨k + 1, by omega, by go_num, by rw [HS.out], by rw [HS.out], bth hbw (bl1 _ _), bth hb (bl1 _ _)⟩
    case measure => simp [intOf]; omega
   ·have hne : (xm != n) = false := by simp [bne, hm]
    have hs := movd_yes HX.out hm; have HS := lh hs; clear hs HX
    cases xa
    ·exact zb105
    ·exact zb105
  ·obtain rfl : k = m.outs.length := by omega
   go_wp2
   simp only [mvOut, HV.out, HN.out]
   exact bodyPost_ret (v := .tuple #[.int .i64 (movd m.outs n m.outs.length).1, .int .i64 (movd m.outs n m.outs.length).2, .bool true]) (by simp [results, Tryz.results31, go_sem]) rfl ⟨rfl, hbw⟩
theorem zb118 {p : Prop} (h : p := by
 exact bodyPost_ret (v := .tuple #[.int .i64 0, .int .i64 0, .bool false]) (by simp [results, Tryz.results33, go_sem]) rfl ⟨rfl, (bth HB bel)⟩) : p := h
theorem zb122 {p : Prop} (h : p := by
 go_wp2
 go_round
 case rel => exact ⟨k + 1, by omega, by go_num, by rw [HS.out], by rw [HS.out]; simp⟩
 case measure => simp [intOf]; omega) : p := h
theorem sMovedBy_is (m : Mee) (A0 A1 A2 A3 A4 : Option Addr) (c0 c1 c2 c3 c4 : Nat) (h0 : m.rules.length ≤ 1048576) (h1 : m.pend.length ≤ 1048576) (h2 : m.wait.length ≤ 1048576) (h3 : m.shares.length ≤ 1048576) (h4 : m.outs.length ≤ 1048576) (n : Int) (v : Value) (hv : mvOut m n = v) (w : World) (R0 : Rds 7 Rul.cells w A0 m.rules) (R1 : Rds 3 Que.cells w A1 m.pend) (R2 : Rds 1 intC w A2 m.wait) (R3 : Rds 3 Sha.cells w A3 m.shares) (R4 : Rds 3 Out.cells w A4 m.outs) (k0 : m.rules.length ≤ c0) (k1 : m.pend.length ≤ c1) (k2 : m.wait.length ≤ c2) (k3 : m.shares.length ≤ c3) (k4 : m.outs.length ≤ c4) :
 Calls Tryz.prog 33 #[.agg #[.slice A0 m.rules.length c0, .slice A1 m.pend.length c1, .int .i64 m.turns, .int .i64 m.secs, .int .i64 m.spk, .slice A2 m.wait.length c2, .slice A3 m.shares.length c3, .slice A4 m.outs.length c4], .int .i64 n] w fun e w' => e = .returned (v) ∧ Below w.heap.size w w' := by
 subst hv
 cases hb : meetB m
 ·have HV := lh hb
  go_in
  go_upto_region 1 with fail
  refine lay1 fun wX hq1 hM => ?_
  replace R0 := R0.below hq1; replace R1 := R1.below hq1; replace R2 := R2.below hq1; replace R3 := R3.below hq1; replace R4 := R4.below hq1; have HB := hq1; have b' := hM.cs8
  go_wp2_with fail
  refine (l25Good_is m A0 A1 A2 A3 A4 c0 c1 c2 c3 c4 h0 h1 h2 h3 h4 _ HV.out _ (R0.below bel) (R1.below bel) (R2.below bel) (R3.below bel) (R4.below bel) k0 k1 k2 k3 k4).mono ?_
  rintro e w2 ⟨rfl, hb2⟩
  have hq2 := be wX hb2; replace HB := bth HB hq2; replace R0 := R0.below hq2; replace R1 := R1.below hq2; replace R2 := R2.below hq2; replace R3 := R3.below hq2; replace R4 := R4.below hq2; replace hM := hM.to hq2; clear b'; have b' := hM.cs8
  go_wp2
  simp only [mvOut, HV.out]
  exact zb118
 have HV := lh hb; clear hb
 cases hn : memB n
 ·have HN := lh hn; clear hn
  go_in
  go_upto_region 1 with fail
  refine lay1 fun wX hq1 hM => ?_
  replace R0 := R0.below hq1; replace R1 := R1.below hq1; replace R2 := R2.below hq1; replace R3 := R3.below hq1; replace R4 := R4.below hq1; have HB := hq1; have b' := hM.cs8
  go_wp2_with fail
  refine (l25Good_is m A0 A1 A2 A3 A4 c0 c1 c2 c3 c4 h0 h1 h2 h3 h4 _ HV.out _ (R0.below bel) (R1.below bel) (R2.below bel) (R3.below bel) (R4.below bel) k0 k1 k2 k3 k4).mono ?_
  rintro e w2 ⟨rfl, hb2⟩
  have hq2 := be wX hb2; replace HB := bth HB hq2; replace R0 := R0.below hq2; replace R1 := R1.below hq2; replace R2 := R2.below hq2; replace R3 := R3.below hq2; replace R4 := R4.below hq2; replace hM := hM.to hq2; clear b'; have b' := hM.cs8
  go_wp2_with fail
  refine (l7Member_is n _ HN.out _).mono ?_
  rintro e w0 ⟨rfl, h0⟩
  rw [h0]
  clear h0 w0
  go_wp2
  simp only [mvOut, HV.out, HN.out]
  exact zb118
 have HN := lh hn; clear hn
 go_in
 go_upto_region 1 with fail
 refine lay1 fun wX hq1 hM => ?_
 replace R0 := R0.below hq1; replace R1 := R1.below hq1; replace R2 := R2.below hq1; replace R3 := R3.below hq1; replace R4 := R4.below hq1; have HB := hq1; have b' := hM.cs8
 go_wp2_with fail
 refine (l25Good_is m A0 A1 A2 A3 A4 c0 c1 c2 c3 c4 h0 h1 h2 h3 h4 _ HV.out _ (R0.below bel) (R1.below bel) (R2.below bel) (R3.below bel) (R4.below bel) k0 k1 k2 k3 k4).mono ?_
 rintro e w2 ⟨rfl, hb2⟩
 have hq2 := be wX hb2; replace HB := bth HB hq2; replace R0 := R0.below hq2; replace R1 := R1.below hq2; replace R2 := R2.below hq2; replace R3 := R3.below hq2; replace R4 := R4.below hq2; replace hM := hM.to hq2; clear b'; have b' := hM.cs8
 go_wp2_with fail
 refine (l7Member_is n _ HN.out _).mono ?_
 rintro e w0 ⟨rfl, h0⟩
 rw [h0]
 clear h0 w0
 go_wp2
 go_loop [7, 8, 9] (fun a b i => ∃ k : Nat, k ≤ m.outs.length ∧ i = .int .i64 k ∧ a = .int .i64 (movd m.outs n k).1 ∧ b = .int .i64 (movd m.outs n k).2) (fun _ _ i => m.outs.length - (intOf i).toNat)
 case atStart => exact ⟨0, Nat.zero_le _, rfl, rfl, rfl⟩
 case round =>
  obtain ⟨k, hk, rfl, rfl, rfl⟩ := hrel
  by_cases hlt : k < m.outs.length
  ·obtain ⟨bq, oq, x, rfl, hbl, hx, hcx⟩ := R4.at_ (Below.refl _ _) hlt
   obtain ⟨xr, xm, xa⟩ := x
   have p0 := hcx 0 _ rfl; have p1 := hcx 1 _ rfl; have p2 := hcx 2 _ rfl
   simp only [Nat.add_zero] at p0
   have g0 := p0 (Kin.self _); have g1 := p1 (Kin.self _); have g2 := p2 (Kin.self _)
   simp only [Kin.self] at g0
   simp only [Kin.self] at g1
   simp only [Kin.self] at g2
   have HX := lh hx; clear hx hcx p0 p1 p2; have hbd := movd_bd m.outs n k
   cases hm : (xm == n)
   ·have hs := movd_skip HX.out hm
    have HS := lh hs; clear hs
    go_wp2
    go_round
    case rel => exact ⟨k + 1, by omega, by go_num, by rw [HS.out], by rw [HS.out]⟩
    case measure => simp [intOf]; omega
   ·have hs := movd_yes HX.out hm
    have HS := lh hs; clear hs HX
    cases xa
    ·exact zb122
    ·exact zb122
  ·obtain rfl : k = m.outs.length := by omega
   go_wp2
   simp only [mvOut, HV.out, HN.out]
   exact bodyPost_ret (v := .tuple #[.int .i64 (movd m.outs n m.outs.length).1, .int .i64 (movd m.outs n m.outs.length).2, .bool true]) (by simp [results, Tryz.results33, go_sem]) rfl ⟨rfl, (bth HB bel)⟩
open Go.RowKit Go.G9
def ar (os : List Out) : Nat → List Int
 | 0 => []
 | k + 1 => match os[k]? with | some o => if o.ado then ar os k ++ [o.rule] else ar os k | none => ar os k
theorem ar_len (os : List Out) : ∀ k, (ar os k).length ≤ k
 | 0 => Nat.le_refl _
 | k + 1 => by
  have := ar_len os k
  unfold ar
  split
  ·split <;> simp <;> omega
  ·omega
def arL (m : Mee) : List Int := if meetB m then ar m.outs m.outs.length else []
theorem arL_len (m : Mee) (h : m.outs.length ≤ 1048576) : (arL m).length ≤ 1048576 := by
 unfold arL; split
 ·have := ar_len m.outs m.outs.length; omega
 ·simp
theorem ar_yes {os : List Out} {k : Nat} {o : Out} (hx : os[k]? = some o) (h : o.ado = true) : ar os (k + 1) = ar os k ++ [o.rule] := by simp [ar, hx, h]
theorem ar_no {os : List Out} {k : Nat} {o : Out} (hx : os[k]? = some o) (h : o.ado = false) : ar os (k + 1) = ar os k := by simp [ar, hx, h]
theorem zb128 {p : Prop} (h : p := by
 go_roundw
 case rel => exact ⟨k + 1, by omega, by go_num, by rw [HA.out]; exact hO4, hrs⟩
 case measure => simp [intOf]; omega) : p := h
theorem iAdoptedRules_is (m : Mee) (A0 A1 A2 A3 A4 : Option Addr) (c0 c1 c2 c3 c4 : Nat) (h0 : m.rules.length ≤ 1048576) (h1 : m.pend.length ≤ 1048576) (h2 : m.wait.length ≤ 1048576) (h3 : m.shares.length ≤ 1048576) (h4 : m.outs.length ≤ 1048576) (w : World) (R0 : Rds 7 Rul.cells w A0 m.rules) (R1 : Rds 3 Que.cells w A1 m.pend) (R2 : Rds 1 intC w A2 m.wait) (R3 : Rds 3 Sha.cells w A3 m.shares) (R4 : Rds 3 Out.cells w A4 m.outs) (k0 : m.rules.length ≤ c0) (k1 : m.pend.length ≤ c1) (k2 : m.wait.length ≤ c2) (k3 : m.shares.length ≤ c3) (k4 : m.outs.length ≤ c4) :
 Calls Tryz.prog 28 #[.agg #[.slice A0 m.rules.length c0, .slice A1 m.pend.length c1, .int .i64 m.turns, .int .i64 m.secs, .int .i64 m.spk, .slice A2 m.wait.length c2, .slice A3 m.shares.length c3, .slice A4 m.outs.length c4]] w fun e w' => ∃ A c, e = .returned (.tuple #[.slice A (arL m).length c, .bool (meetB m)]) ∧ OwnV w.heap.size 3 1 intC w' (.slice A (arL m).length c) (arL m) ∧ Below w.heap.size w w' := by
 obtain ⟨i0, hi, hz0, hz1, hz2⟩ := info_parts info_int
 cases hb : meetB m
 ·have HV := lh hb
  have hA : arL m = [] := by simp [arL, hb]
  rw [hA]
  clear hb hA
  go_in
  go_upto_region 1 with fail
  refine lay1 fun wX hq1 hM => ?_
  replace R0 := R0.below hq1; replace R1 := R1.below hq1; replace R2 := R2.below hq1; replace R3 := R3.below hq1; replace R4 := R4.below hq1; have HB := hq1; have b' := hM.cs8
  go_wp2_with fail
  refine (iIsValidMeeting_is m A0 A1 A2 A3 A4 c0 c1 c2 c3 c4 h0 h1 h2 h3 h4 _ HV.out _ (R0.below bel) (R1.below bel) (R2.below bel) (R3.below bel) (R4.below bel) k0 k1 k2 k3 k4).mono ?_
  rintro e w2 ⟨rfl, hb2⟩
  have hq2 := be wX hb2; replace HB := bth HB hq2; replace R0 := R0.below hq2; replace R1 := R1.below hq2; replace R2 := R2.below hq2; replace R3 := R3.below hq2; replace R4 := R4.below hq2; replace hM := hM.to hq2; clear b'; have b' := hM.cs8
  go_wp2
  go_ret2
  exact ⟨none, 0, rfl, OwnV.nil, (bth HB bel)⟩
 ·have HV := lh hb
  have hA : arL m = ar m.outs m.outs.length := by simp [arL, hb]
  rw [hA]
  clear hb hA
  go_in
  go_upto_region 1 with fail
  refine lay1 fun wX hq1 hM => ?_
  replace R0 := R0.below hq1; replace R1 := R1.below hq1; replace R2 := R2.below hq1; replace R3 := R3.below hq1; replace R4 := R4.below hq1; have HB := hq1; have b' := hM.cs8
  go_wp2_with fail
  refine (iIsValidMeeting_is m A0 A1 A2 A3 A4 c0 c1 c2 c3 c4 h0 h1 h2 h3 h4 _ HV.out _ (R0.below bel) (R1.below bel) (R2.below bel) (R3.below bel) (R4.below bel) k0 k1 k2 k3 k4).mono ?_
  rintro e w2 ⟨rfl, hb2⟩
  have hq2 := be wX hb2; replace HB := bth HB hq2; replace R0 := R0.below hq2; replace R1 := R1.below hq2; replace R2 := R2.below hq2; replace R3 := R3.below hq2; replace R4 := R4.below hq2; replace hM := hM.to hq2; clear b'; have b' := hM.cs8; have hO0 := OwnV.made (f := intC) (sz := 1) w2 (B := w2.heap.size) (Nat.le_refl _) 3; have hBs := HB.size; have yhM := hM.lt
  go_wp2
  clear b'
  go_loopw [4, 14] (fun y i wr => ∃ k : Nat, k ≤ m.outs.length ∧ i = .int .i64 k ∧ OwnV w2.heap.size 3 1 intC wr y (ar m.outs k) ∧ Below w2.heap.size w2 wr) (fun _ i _ => m.outs.length - (intOf i).toNat)
  case atStart => exact ⟨0, Nat.zero_le _, rfl, hO0, bl1 _ _⟩
  case round =>
   obtain ⟨k, hk, rfl, hO, hb⟩ := hrel
   by_cases hlt : k < m.outs.length
   ·obtain ⟨bq, oq, x, rfl, hbl, hx, hcx⟩ := R4.at_ hb hlt
    obtain ⟨xr, xm, xa⟩ := x
    have p0 := hcx 0 _ rfl; have p1 := hcx 1 _ rfl; have p2 := hcx 2 _ rfl
    simp only [Nat.add_zero] at p0
    have g0 := p0 (Kin.self _); have g1 := p1 (Kin.self _); have g2 := p2 (Kin.self _)
    simp only [Kin.self] at g0
    simp only [Kin.self] at g1
    simp only [Kin.self] at g2
    have HX := lh hx; clear hx hcx p0 p1 p2
    go_upto_region 7 with fail
    have hOv := hO.alloc (.cells #[.int .i64 xr, .int .i64 xm, .bool xa] 44); have hB := Blk.new wr 44 #[.int .i64 xr, .int .i64 xm, .bool xa]; have hbv := hb.alloc hb.size (.cells #[.int .i64 xr, .int .i64 xm, .bool xa] 44)
    generalize wr.alloc (.cells #[.int .i64 xr, .int .i64 xm, .bool xa] 44) = wv at *
    clear g0 g1 g2 hO; have x0 := (hB.cell 0).trans (show _ = some (.int .i64 xr) from rfl); have x2 := (hB.cell 2).trans (show _ = some (.bool xa) from rfl); have hBl := hB.lt
    cases xa
    ·have ha := ar_no HX.out rfl
     exact zb110
    ·have ha := ar_yes HX.out rfl
     have HA := lh ha; clear ha
     go_wp2_with ((at_builtin; refine wpList_app1 rfl _ _ 26 rfl w2.heap.size 3 i0 _ 1 8 Tryz.underlying26 hi hz0 hz1 hz2 rfl (by decide) intC intC_len intC_one _ (ar m.outs k) rfl (hOv.alloc _) ⟨wv.heap.size, 0, none⟩ 1 xr rfl (Rds.one _ _) (by have := ar_len m.outs k; unfold maxLen; omega) (by have := ar_len m.outs k; omega) (by have := hbv.size; simp; omega) ?_; intro v4 w4 hO4 hg4 ha4))
     have hrs : Below w2.heap.size w2 w4 := (hbv.alloc hbv.size _).grown hg4 (by have := hbv.size; simp; omega) (fun q hq => (hOv.lt q hq).1)
     exact zb128
   ·obtain rfl : k = m.outs.length := by omega
    obtain ⟨Y, yc, rfl, _, _, _⟩ := hO.form intC_len
    go_wp2
    go_ret2
    exact ⟨Y, yc, rfl, hO.base hBs, bth HB hb⟩
theorem sAdoptedRules_is (m : Mee) (A0 A1 A2 A3 A4 : Option Addr) (c0 c1 c2 c3 c4 : Nat) (h0 : m.rules.length ≤ 1048576) (h1 : m.pend.length ≤ 1048576) (h2 : m.wait.length ≤ 1048576) (h3 : m.shares.length ≤ 1048576) (h4 : m.outs.length ≤ 1048576) (w : World) (R0 : Rds 7 Rul.cells w A0 m.rules) (R1 : Rds 3 Que.cells w A1 m.pend) (R2 : Rds 1 intC w A2 m.wait) (R3 : Rds 3 Sha.cells w A3 m.shares) (R4 : Rds 3 Out.cells w A4 m.outs) (k0 : m.rules.length ≤ c0) (k1 : m.pend.length ≤ c1) (k2 : m.wait.length ≤ c2) (k3 : m.shares.length ≤ c3) (k4 : m.outs.length ≤ c4) :
 Calls Tryz.prog 29 #[.agg #[.slice A0 m.rules.length c0, .slice A1 m.pend.length c1, .int .i64 m.turns, .int .i64 m.secs, .int .i64 m.spk, .slice A2 m.wait.length c2, .slice A3 m.shares.length c3, .slice A4 m.outs.length c4]] w fun e w' => ∃ A c, e = .returned (.tuple #[.slice A (arL m).length c, .bool (meetB m)]) ∧ OwnV w.heap.size 3 1 intC w' (.slice A (arL m).length c) (arL m) ∧ Below w.heap.size w w' := by
 obtain ⟨i0, hi, hz0, hz1, hz2⟩ := info_parts info_int
 cases hb : meetB m
 ·have HV := lh hb
  have hA : arL m = [] := by simp [arL, hb]
  rw [hA]
  clear hb hA
  go_in
  go_upto_region 1 with fail
  refine lay1 fun wX hq1 hM => ?_
  replace R0 := R0.below hq1; replace R1 := R1.below hq1; replace R2 := R2.below hq1; replace R3 := R3.below hq1; replace R4 := R4.below hq1; have HB := hq1
  obtain ⟨b0, b1, b2, b3, b4, b5, b6, b7⟩ := hM.cs8
  go_upto_region 2 with fail
  have hO := OwnV.made (f := intC) (sz := 1) wX (B := wX.heap.size) (Nat.le_refl _) 3; have HM := lh hM; have S4 := lh R4; have HBX := lh HB; have hXs := HB.size; have hE : Below wX.heap.size wX (wX.alloc (.cells #[] 3)) := bl1 _ _
  generalize hWE : wX.alloc (.cells #[] 3) = wE at *
  have hO' := lh hO; clear hO; have hq2 := be wX hE; replace HB := bth HB hq2; replace R0 := R0.below hq2; replace R1 := R1.below hq2; replace R2 := R2.below hq2; replace R3 := R3.below hq2; replace R4 := R4.below hq2; replace hM := hM.to hq2; clear b0 b1 b2 b3 b4 b5 b6 b7
  obtain ⟨b0, b1, b2, b3, b4, b5, b6, b7⟩ := hM.cs8
  go_wp2_with fail
  refine (l25Good_is m A0 A1 A2 A3 A4 c0 c1 c2 c3 c4 h0 h1 h2 h3 h4 _ HV.out _ (R0.below bel) (R1.below bel) (R2.below bel) (R3.below bel) (R4.below bel) k0 k1 k2 k3 k4).mono ?_
  rintro e w3 ⟨rfl, hb3⟩
  have hq3 := be wE hb3; replace HB := bth HB hq3; replace R0 := R0.below hq3; replace R1 := R1.below hq3; replace R2 := R2.below hq3; replace R3 := R3.below hq3; replace R4 := R4.below hq3; replace hM := hM.to hq3; clear b0 b1 b2 b3 b4 b5 b6 b7
  obtain ⟨b0, b1, b2, b3, b4, b5, b6, b7⟩ := hM.cs8
  have hO := hO'.out.later hq3
  go_wp2
  go_ret2
  exact ⟨_, 0, rfl, hO.base hXs, (bth HB bel)⟩
 ·have HV := lh hb
  have hA : arL m = ar m.outs m.outs.length := by simp [arL, hb]
  rw [hA]
  clear hb hA
  go_in
  go_upto_region 1 with fail
  refine lay1 fun wX hq1 hM => ?_
  replace R0 := R0.below hq1; replace R1 := R1.below hq1; replace R2 := R2.below hq1; replace R3 := R3.below hq1; replace R4 := R4.below hq1; have HB := hq1
  obtain ⟨b0, b1, b2, b3, b4, b5, b6, b7⟩ := hM.cs8
  go_upto_region 2 with fail
  have hO := OwnV.made (f := intC) (sz := 1) wX (B := wX.heap.size) (Nat.le_refl _) 3; have HM := lh hM; have S4 := lh R4; have HBX := lh HB; have hXs := HB.size; have hE : Below wX.heap.size wX (wX.alloc (.cells #[] 3)) := bl1 _ _
  generalize hWE : wX.alloc (.cells #[] 3) = wE at *
  have hO' := lh hO; clear hO; have hq2 := be wX hE; replace HB := bth HB hq2; replace R0 := R0.below hq2; replace R1 := R1.below hq2; replace R2 := R2.below hq2; replace R3 := R3.below hq2; replace R4 := R4.below hq2; replace hM := hM.to hq2; clear b0 b1 b2 b3 b4 b5 b6 b7
  obtain ⟨b0, b1, b2, b3, b4, b5, b6, b7⟩ := hM.cs8
  go_wp2_with fail
  refine (l25Good_is m A0 A1 A2 A3 A4 c0 c1 c2 c3 c4 h0 h1 h2 h3 h4 _ HV.out _ (R0.below bel) (R1.below bel) (R2.below bel) (R3.below bel) (R4.below bel) k0 k1 k2 k3 k4).mono ?_
  rintro e w3 ⟨rfl, hb3⟩
  have hq3 := be wE hb3; replace HB := bth HB hq3; replace R0 := R0.below hq3; replace R1 := R1.below hq3; replace R2 := R2.below hq3; replace R3 := R3.below hq3; replace R4 := R4.below hq3; replace hM := hM.to hq3; clear b0 b1 b2 b3 b4 b5 b6 b7
  obtain ⟨b0, b1, b2, b3, b4, b5, b6, b7⟩ := hM.cs8
  have hO := hO'.out.later hq3; have hE3 := bth hE hq3
  go_wp2
  clear b0 b1 b2 b3 b4 b5 b6 b7 hM R0 R1 R2 R3 R4 HB
  go_loopw [4, 5] (fun y i wr => ∃ k : Nat, k ≤ m.outs.length ∧ i = .int .i64 k ∧ OwnV wX.heap.size 3 1 intC wr y (ar m.outs k) ∧ Below wX.heap.size wX wr) (fun _ i _ => m.outs.length - (intOf i).toNat)
  case atStart => exact ⟨0, Nat.zero_le _, rfl, hO, hE3⟩
  case round =>
   clear hO
   obtain ⟨k, hk, rfl, hO, hb⟩ := hrel
   have hM := HM.out.below hb HM.out.lt; have hMl := hM.lt
   by_cases hlt : k < m.outs.length
   ·obtain ⟨bq, oq, x, hAe, hbl, hx, hcx⟩ := S4.out.at_ hb hlt
    obtain ⟨xr, xm, xa⟩ := x
    have b7 := (hM.cell 7).trans (show _ = some (.slice A4 m.outs.length c4) from rfl)
    subst hAe
    have p0 := hcx 0 _ rfl; have p1 := hcx 1 _ rfl; have p2 := hcx 2 _ rfl
    simp only [Nat.add_zero] at p0
    have g0 := p0 (Kin.self _); have g1 := p1 (Kin.self _); have g2 := p2 (Kin.self _)
    simp only [Kin.self] at g0
    simp only [Kin.self] at g1
    simp only [Kin.self] at g2
    have HX := lh hx; clear hx hcx p0 p1 p2
    cases xa
    ·have ha := ar_no HX.out rfl
     have HA := lh ha; clear ha
     go_wp2
     go_roundw
     case rel => exact ⟨k + 1, by omega, by go_num, by rw [HA.out]; exact hO, hb⟩
     case measure => simp [intOf]; omega
    ·have ha := ar_yes HX.out rfl
     have HA := lh ha; clear ha; have hOv := hO; have hbv := hb
     go_wp2_with ((at_builtin; refine wpList_app1 rfl _ _ 26 rfl wX.heap.size 3 i0 _ 1 8 Tryz.underlying26 hi hz0 hz1 hz2 rfl (by decide) intC intC_len intC_one _ (ar m.outs k) rfl (hOv.alloc _) ⟨wr.heap.size, 0, none⟩ 1 xr rfl (Rds.one _ _) (by have := ar_len m.outs k; unfold maxLen; omega) (by have := ar_len m.outs k; omega) (by have := hbv.size; simp; omega) ?_; intro v4 w4 hO4 hg4 ha4))
     have hrs : Below wX.heap.size wX w4 := (hbv.alloc hbv.size _).grown hg4 (by have := hbv.size; simp; omega) (fun q hq => (hOv.lt q hq).1)
     exact zb128
   ·obtain rfl : k = m.outs.length := by omega
    obtain ⟨Y, yc, rfl, _, _, _⟩ := hO.form intC_len
    have b7 := (hM.cell 7).trans (show _ = some (.slice A4 m.outs.length c4) from rfl)
    go_wp2
    go_ret2
    exact ⟨Y, yc, rfl, hO.base hXs, bth HBX.out hb⟩
open Go.RowKit Go.G9
def cuA (os : List Out) (n : Int) : Nat → Int
 | 0 => 0
 | k + 1 => match os[k]? with | some o => cuA os n k + (if o.mover < n then 1 else 0) | none => cuA os n k
def cuB (os : List Out) (n : Int) : Nat → Int
 | 0 => 0
 | k + 1 => match os[k]? with | some o => cuB os n k + (if o.mover < n ∧ o.ado = true then 1 else 0) | none => cuB os n k
theorem cu_step (os : List Out) (n : Int) : ∀ k, cuA os (n + 1) k = cuA os n k + (movd os n k).1 ∧ cuB os (n + 1) k = cuB os n k + (movd os n k).2
 | 0 => by simp [cuA, cuB, movd]
 | k + 1 => by
  have h := cu_step os n k
  cases ho : os[k]? with
  | none => simp only [cuA, cuB, movd, ho]; exact h
  | some o =>
   simp only [cuA, cuB, movd, ho, beq_iff_eq]
   obtain ⟨h1, h2⟩ := h
   rcases Int.lt_trichotomy o.mover n with hm | hm | hm
   ·have e1 : o.mover < n + 1 := by omega
    have e2 : ¬ o.mover = n := by omega
    simp only [e1, hm, e2, if_true, if_false, true_and]
    exact ⟨by omega, by omega⟩
   ·have e1 : o.mover < n + 1 := by omega
    have e2 : ¬ o.mover < n := by omega
    simp only [e1, hm, e2, if_true, if_false, true_and, false_and]
    cases o.ado <;> simp <;> exact ⟨by omega, by omega⟩
   ·have e1 : ¬ o.mover < n + 1 := by omega
    have e2 : ¬ o.mover < n := by omega
    have e3 : ¬ o.mover = n := by omega
    simp only [e1, e2, e3, if_false, false_and]
    exact ⟨by omega, by omega⟩
theorem cu_zero (os : List Out) (h : ∀ o, o ∈ os → memB o.mover = true) : ∀ k, cuA os 1 k = 0 ∧ cuB os 1 k = 0
 | 0 => ⟨rfl, rfl⟩
 | k + 1 => by
  have := cu_zero os h k
  cases ho : os[k]? with
  | none => simp only [cuA, cuB, ho]; exact this
  | some o =>
   have hm := h o (List.mem_of_getElem? ho)
   simp only [memB, inB_iff] at hm
   have e : ¬ o.mover < 1 := by omega
   simp only [cuA, cuB, ho, e, if_false, false_and]
   exact ⟨by omega, by omega⟩
theorem cu_all (os : List Out) (h : ∀ o, o ∈ os → memB o.mover = true) : ∀ k, k ≤ os.length → cuA os 100 k = k ∧ cuB os 100 k = ((ar os k).length : Int)
 | 0, _ => ⟨rfl, rfl⟩
 | k + 1, hk => by
  have := cu_all os h k (by omega)
  obtain ⟨o, ho⟩ : ∃ o, os[k]? = some o := ⟨_, List.getElem?_eq_getElem (by omega)⟩
  have hm := h o (List.mem_of_getElem? ho)
  simp only [memB, inB_iff] at hm
  have e : o.mover < 100 := by omega
  simp only [cuA, cuB, ar, ho, e, if_true, true_and]
  cases o.ado <;> simp <;> exact ⟨by omega, by omega⟩
theorem movd_le (os : List Out) (n : Int) : ∀ k, (movd os n k).2 ≤ (movd os n k).1
 | 0 => by simp [movd]
 | k + 1 => by
  have := movd_le os n k
  cases ho : os[k]? with
  | none => simp only [movd, ho]; exact this
  | some o =>
   simp only [movd, ho]
   split
   ·cases o.ado <;> simp <;> omega
   ·exact this
theorem movers_ok {m : Mee} (h : meetB m = true) : ∀ o, o ∈ m.outs → memB o.mover = true := fun o ho => by
 have := (mee_ok.1 h).oo o ho
 simp only [outB, Bool.and_eq_true] at this
 exact this.2
end Go.Proofs.YtjimibkgocieoaaGreat
namespace Go.G9
open Go.RowKit
theorem wpList_appO {P : Program} {w : World} {ops : Array Oper} {rest : List Oper} {o : Oper} {a : Act} {Q : Exit → Act → World → Prop} (hgd : o.guard = none) (s x : Operand) (t : TypeId)
  (ho : o.op = .call { callee := .builtin .append, args := #[s, x], argTypes := #[t, t] })
  (B : Nat) (e : TypeId) (i : TypeInfo) (z : Value) (sz bytes : Nat) (ht : P.underlying t = some (.slice e)) (hi : P.info? e = some i) (hz : i.zero = some z)
  (hsize : i.size = sz) (hby : i.bytes = bytes) (hzs : z.cells.size = sz) (hsz : 0 < sz) {T : Type} (f : T → List Value) (hf : ∀ y, (f y).length = sz) (hone : ∀ y u, u ∈ f y → u.oneCell' = true)
  (g : Nat) (hs : a.eval s = .slice (some ⟨g, 0, none⟩) 0 0) (hg : Blk w g e #[]) (hBg : B ≤ g) (A2 : Option Addr) (c2 : Nat) (ys : List T) (hx : a.eval x = .slice A2 ys.length c2) (hR : Rds sz f w A2 ys) (hA : A2 = none → ys = [] ∧ c2 = 0)
  (h63 : ys.length ≤ maxLen) (hbytes : ys.length * bytes ≤ 140737488355328)
  (h : ∀ g' c' w', OwnV B e sz f w' (.slice (some ⟨g', 0, none⟩) ys.length c') ys → Below w.heap.size w w' → wpList P ops Q rest (a.put o.dst (.slice (some ⟨g', 0, none⟩) ys.length c')) w') : wpList P ops Q (o :: rest) a w := by
 cases A2 with
 | some ad => exact wpList_appE hgd s x t ho B e i z sz bytes ht hi hz hsize hby hzs hsz f hf hone g hs hg hBg ad c2 ys hx hR h63 hbytes (fun g' c' w' h1 h2 _ => h g' c' w' h1 h2)
 | none =>
  obtain ⟨rfl, rfl⟩ := hA rfl
  have hO : OwnV B e sz f w (.slice (some ⟨g, 0, none⟩) 0 0) ([] : List T) := OwnV.ofBlk (xs := []) (cap := 0) hg hBg (Nat.le_refl _) (Nat.zero_le _) (by simp) (fun i x hx => by simp at hx) hf
  exact wpList_append_own_none hgd s x t ho B e i sz ht hi (.slice (some ⟨g, 0, none⟩) 0 0) 0 [] hs hO hx (h g 0 w hO (Below.refl _ _))
theorem apart_one5 (v : Value) : Apart [v, .slice none 0 0, .slice none 0 0, .slice none 0 0, .slice none 0 0] := by
 have hn : ∀ k : Nat, some k ≠ (Value.slice none 0 0).ownBlock := fun k h => by cases h
 have hm : ∀ k : Nat, (Value.slice none 0 0).ownBlock ≠ some k := fun k h => by cases h
 unfold Apart
 refine List.Pairwise.cons (fun u hu k _ => ?_) (List.Pairwise.cons (fun u hu k h => absurd h (hm k)) (List.Pairwise.cons (fun u hu k h => absurd h (hm k)) (List.Pairwise.cons (fun u hu k h => absurd h (hm k)) (List.Pairwise.cons (fun u hu => by simp at hu) List.Pairwise.nil))))
 simp only [List.mem_cons, List.not_mem_nil, or_false, or_self] at hu
 subst hu; exact hn k
end Go.G9
namespace Go.Proofs.YtjimibkgocieoaaGreat
open Go.RowKit Go.G9
def nmB (rs : List Rul) (tu se : Int) : Bool := nfB tu se && rulesB rs
def nmM (rs : List Rul) (tu se : Int) : Mee := if nmB rs tu se then ⟨rs, [], tu, se, 0, [], [], []⟩ else ⟨[], [], 0, 0, 0, [], [], []⟩
theorem nmM_yes {rs : List Rul} {tu se : Int} (h : nmB rs tu se = true) : nmM rs tu se = ⟨rs, [], tu, se, 0, [], [], []⟩ := by simp [nmM, h]
theorem nmM_no {rs : List Rul} {tu se : Int} (h : nmB rs tu se = false) : nmM rs tu se = ⟨[], [], 0, 0, 0, [], [], []⟩ := by simp [nmM, h]
theorem rul_len (x : Rul) : (Rul.cells x).length = 7 := rfl
theorem zb120 {p : Prop} (h : p := by
 intro u hu
 simp only [Rul.cells, List.mem_cons, List.not_mem_nil, or_false] at hu
 rcases hu with rfl | rfl | rfl | rfl | rfl | rfl | rfl <;> rfl) : p := h
theorem rul_one (x : Rul) : ∀ u, u ∈ Rul.cells x → u.oneCell' = true := by
 exact zb120
def nmS (rs : List Rul) (e : TypeId) : MkSpec (Nat × Nat) where
 par := fun n => match n with
  | 2 => [0]
  | _ => []
 val := fun n p => match n with
  | 0 => .slice (some ⟨p.1, 0, none⟩) 0 0
  | 2 => .slice (some ⟨p.1, 0, none⟩) rs.length p.2
  | _ => undef
 post := fun n σ p V0 V => match n with
  | 0 => V0.heap.size = p.1 ∧ Blk V p.1 e #[]
  | 2 => OwnV (σ 0).1 e 7 Rul.cells V (.slice (some ⟨p.1, 0, none⟩) rs.length p.2) rs
  | _ => True
theorem zb7 {p : Prop} (h : p := by
 go_in
 go_upto_region 1 with fail
 refine lay1 fun wX hq1 hZ => ?_
 replace hR := hR.below hq1; have HB := hq1; have z' := hZ.cs8; have hz0' := hZ.lt
 go_wp2_with fail
 refine (sNewFloorF_is tu se HN.out _).mono ?_
 rintro e w2 ⟨rfl, hb2⟩
 have hq2 := be wX hb2; replace HB := bth HB hq2; replace hR := hR.below hq2; replace hZ := hZ.to hq2; clear z'; have z' := hZ.cs8; have zq2 := hq2.size
 go_upto_region 2 with fail
 refine lay1 fun wF hq3 hF => ?_
 replace hR := hR.below hq3; replace HB := bth HB hq3; have f' := hF.cs5; replace hZ := hZ.to hq3; clear z'; have z' := hZ.cs8
 go_wp2_with fail
 refine (l2Good_is A c rs hn _ HV.out _ (hR.below bel)).mono ?_
 rintro e w4 ⟨rfl, hb4⟩
 have hq4 := be wF hb4; replace HB := bth HB hq4; replace hR := hR.below hq4; replace hF := hF.to hq4; clear f'; have f' := hF.cs5; replace hZ := hZ.to hq4; clear z'; have z' := hZ.cs8; have fhZ' := hZ.fz8; have yhF := hF.lt; have yhZ := hZ.lt
 go_wp2
 clear f' z'
 refine st8 0 fun W9 tW9 => ?_
 replace HB := tW9.hc HB; replace hF := tW9.fa hF; replace hZ := tW9.all8 hZ; have szW9 := tW9.sz; have f' := hF.cs5; have z' := hZ.cs8
 refine bodyPost_ret (v := .tuple #[.agg #[.slice none 0 0, .slice none 0 0, .int .i64 0, .int .i64 0, .int .i64 0, .slice none 0 0, .slice none 0 0, .slice none 0 0], .bool false]) (by simp [results, Tryz.results23, go_sem, z']) rfl ?_
 rw [nmM_no HB2.out, HB2.out]
 exact ⟨none, 0, none, 0, none, 0, none, 0, none, 0, rfl, OwnV.nil, OwnV.nil, OwnV.nil, OwnV.nil, OwnV.nil, apart_one5 _, HB⟩) : p := h
theorem sNewMeeting_is (A : Option Addr) (c : Nat) (rs : List Rul) (hn : rs.length ≤ 1048576) (tu se : Int) (w : World) (hR : Rds 7 Rul.cells w A rs) (hA : A = none → rs = [] ∧ c = 0) (kc : rs.length ≤ c) :
 Calls Tryz.prog 23 #[.slice A rs.length c, .int .i64 tu, .int .i64 se] w fun e w' => ∃ D0 d0 D1 d1 D2 d2 D3 d3 D4 d4, e = .returned (.tuple #[.agg #[.slice D0 (nmM rs tu se).rules.length d0, .slice D1 (nmM rs tu se).pend.length d1, .int .i64 (nmM rs tu se).turns, .int .i64 (nmM rs tu se).secs, .int .i64 (nmM rs tu se).spk, .slice D2 (nmM rs tu se).wait.length d2, .slice D3 (nmM rs tu se).shares.length d3, .slice D4 (nmM rs tu se).outs.length d4], .bool (nmB rs tu se)]) ∧ OwnV w.heap.size 48 7 Rul.cells w' (.slice D0 (nmM rs tu se).rules.length d0) (nmM rs tu se).rules ∧ OwnV w.heap.size 46 3 Que.cells w' (.slice D1 (nmM rs tu se).pend.length d1) (nmM rs tu se).pend ∧ OwnV w.heap.size 3 1 intC w' (.slice D2 (nmM rs tu se).wait.length d2) (nmM rs tu se).wait ∧ OwnV w.heap.size 144 3 Sha.cells w' (.slice D3 (nmM rs tu se).shares.length d3) (nmM rs tu se).shares ∧ OwnV w.heap.size 44 3 Out.cells w' (.slice D4 (nmM rs tu se).outs.length d4) (nmM rs tu se).outs ∧ Apart [.slice D0 (nmM rs tu se).rules.length d0, .slice D1 (nmM rs tu se).pend.length d1, .slice D2 (nmM rs tu se).wait.length d2, .slice D3 (nmM rs tu se).shares.length d3, .slice D4 (nmM rs tu se).outs.length d4] ∧ Below w.heap.size w w' := by
 obtain ⟨i0, hi, hz0, hz1, hz2⟩ := info_parts info_Rul
 have HR0 := lh hR; have HNA := lh hA; clear hA
 cases hrb : rulesB rs
 ·have HV := lh hrb
  have HB2 : Hid (nmB rs tu se = false) := lh (by simp [nmB, hrb]); clear hrb
  cases hnf : nfB tu se
  ·have HN := lh hnf
   clear hnf
   exact zb7
  ·have HN := lh hnf
   clear hnf
   go_in
   go_upto_region 1 with fail
   refine lay1 fun wX hq1 hZ => ?_
   replace hR := hR.below hq1; have HB := hq1; have z' := hZ.cs8; have hz0' := hZ.lt
   go_wp2_with fail
   refine (sNewFloorT_is tu se HN.out _).mono ?_
   rintro e w2 ⟨rfl, hb2⟩
   have hq2 := be wX hb2; replace HB := bth HB hq2; replace hR := hR.below hq2; replace hZ := hZ.to hq2; clear z'; have z' := hZ.cs8; have zq2 := hq2.size
   go_upto_region 2 with fail
   refine lay1 fun wF hq3 hF => ?_
   replace hR := hR.below hq3; replace HB := bth HB hq3; have f' := hF.cs5; replace hZ := hZ.to hq3; clear z'; have z' := hZ.cs8
   go_wp2_with fail
   refine (l2Good_is A c rs hn _ HV.out _ (hR.below bel)).mono ?_
   rintro e w4 ⟨rfl, hb4⟩
   have hq4 := be wF hb4; replace HB := bth HB hq4; replace hR := hR.below hq4; replace hF := hF.to hq4; clear f'; have f' := hF.cs5; replace hZ := hZ.to hq4; clear z'; have z' := hZ.cs8; have fhZ' := hZ.fz8; have yhF := hF.lt; have yhZ := hZ.lt
   go_wp2
   clear f' z'
   refine st8 0 fun W9 tW9 => ?_
   replace HB := tW9.hc HB; replace hF := tW9.fa hF; replace hZ := tW9.all8 hZ; have szW9 := tW9.sz; have f' := hF.cs5; have z' := hZ.cs8
   refine bodyPost_ret (v := .tuple #[.agg #[.slice none 0 0, .slice none 0 0, .int .i64 0, .int .i64 0, .int .i64 0, .slice none 0 0, .slice none 0 0, .slice none 0 0], .bool false]) (by simp [results, Tryz.results23, go_sem, z']) rfl ?_
   rw [nmM_no HB2.out, HB2.out]
   exact ⟨none, 0, none, 0, none, 0, none, 0, none, 0, rfl, OwnV.nil, OwnV.nil, OwnV.nil, OwnV.nil, OwnV.nil, apart_one5 _, HB⟩
 cases hnf : nfB tu se
 ·have HN := lh hnf
  have HV := lh hrb; have HB2 : Hid (nmB rs tu se = false) := lh (by simp [nmB, hnf]); clear hnf hrb
  exact zb7
 ·have HN := lh hnf
  have HV := lh hrb; have HB2 : Hid (nmB rs tu se = true) := lh (by simp [nmB, hnf, hrb]); clear hnf hrb
  go_in
  go_upto_region 1 with fail
  refine lay1 fun wX hq1 hZ => ?_
  replace hR := hR.below hq1; have HB := hq1; have z' := hZ.cs8; have hz0' := hZ.lt
  go_wp2_with fail
  refine (sNewFloorT_is tu se HN.out _).mono ?_
  rintro e w2 ⟨rfl, hb2⟩
  have hq2 := be wX hb2; replace HB := bth HB hq2; replace hR := hR.below hq2; replace hZ := hZ.to hq2; clear z'; have z' := hZ.cs8; have zq2 := hq2.size
  go_upto_region 2 with fail
  refine lay1 fun wF hq3 hF => ?_
  replace hR := hR.below hq3; replace HB := bth HB hq3; have f' := hF.cs5; replace hZ := hZ.to hq3; clear z'; have z' := hZ.cs8
  go_wp2_with fail
  refine (l2Good_is A c rs hn _ HV.out _ (hR.below bel)).mono ?_
  rintro e w4 ⟨rfl, hb4⟩
  have hq4 := be wF hb4; replace HB := bth HB hq4; replace hR := hR.below hq4; replace hF := hF.to hq4; clear f'; have f' := hF.cs5; replace hZ := hZ.to hq4; clear z'; have z' := hZ.cs8; have hs2 := hZ.lt; have hs3 := HB.size; have hA := HNA.out
  obtain ⟨CC5, hCC5⟩ : ∃ X : World → Prop, ∀ V, X V ↔ (Below w.heap.size w V ∧ Blk V (w2.heap.size) 29 #[.int .i64 tu, .int .i64 se, .int .i64 0, .slice none 0 0, .slice none 0 0]) := ⟨_, fun _ => Iff.rfl⟩
  have HCC5 := lh hCC5; clear hCC5
  haveI : Nonempty (Hld CC5) := ⟨⟨w4, ((HCC5.out _).2 ⟨HB, hF⟩)⟩⟩
  clear f'; clear z'; have f' := Blk.cs5K (fun K : Hld CC5 => ((HCC5.out _).1 K.holds).2)
  go_wp2
  refine wp_region_mk (nmS rs 48) CC5 [([], 0), ([1], 2)] [3, 4] [([], 5)] [6] (by kernel_rfl) (by kernel_rfl) ((HCC5.out _).2 ⟨HB.drew, hF⟩) (fun W W' h k => ((HCC5.out _).2 ⟨((HCC5.out _).1 h).1.trans (k.mono ((HCC5.out _).1 h).1.size), ((HCC5.out _).1 h).2.below k ((HCC5.out _).1 h).2.lt⟩)) ?_
  intro σ
  refine wpMk1_cons (some 24) rfl (.slice (some ⟨(σ 0).1, 0, none⟩) 0 0) rfl fun K1 hK1 => ?_
  change wpQuiet _ _ _ _ ([]) _
  refine wpQuiet_nil ?_
  refine ⟨fun k hpar => ?_, hK1 _ ?_⟩
  ·change wpList _ _ _ (_ :: []) _ _
   go_wp2
   exact Nrm_mk ⟨(_, 0), rfl, bl1 _ _, rfl, Blk.new _ _ _⟩
  simp only [Act.put]
  go_simp
  refine wpMk1_cons (some 26) rfl (.slice (some ⟨(σ 2).1, 0, none⟩) rs.length (σ 2).2) rfl fun K1 hK1 => ?_
  change wpQuiet _ _ _ _ (_ :: []) _
  repeat (go_big_quiet_step (fail))
  refine wpQuiet_nil ?_
  refine ⟨fun k hpar => ?_, hK1 _ ?_⟩
  ·change wpList _ _ _ (_ :: []) _ _
   obtain ⟨U0, U, hU1, ⟨hU2, hU4⟩, hU5⟩ := hpar 0 (by simp [nmS])
   have hU6 := hU4.to hU5; have HUR := lh (HR0.out.below ((HCC5.out _).1 k.holds).1); have HU6 := lh hU6; clear hU6 hU4 hU2 hU1 hU5 hpar
   go_wp2_with ((at_builtin; refine wpList_appO rfl _ _ 24 rfl (σ 0).1 48 i0 _ 7 48 Tryz.underlying24 hi hz0 hz1 hz2 rfl (by decide) Rul.cells rul_len rul_one (σ 0).1 rfl HU6.out (Nat.le_refl _) A c rs rfl HUR.out hA (by unfold maxLen; omega) (by omega) ?_; intro g' c' w' hO' hb'))
   first | exact Nrm_mk ⟨(g', c'), rfl, hb', hO'⟩ | exact Nrm_mk ⟨g', c', rfl, hb', hO'⟩
  simp only [Act.put]
  go_simp
  refine wpMk1_last ?_
  change wpQuiet _ _ _ _ (_ :: _ :: []) _
  repeat (go_big_quiet_step (fail))
  refine wpQuiet_nil ?_
  intro V0 V W hM hW
  have hO9 : OwnV (σ 0).1 48 7 Rul.cells (V 2) (.slice (some ⟨(σ 2).1, 0, none⟩) rs.length (σ 2).2) rs := hM.post 2 (by simp)
  obtain ⟨p0e, _⟩ : (V0 0).heap.size = (σ 0).1 ∧ Blk (V 0) (σ 0).1 48 #[] := hM.post 0 (by simp)
  have hp0 := (hM.from0 0 (by simp)).size; have hO := (hO9.later (hM.later 2 (by simp))).base (B' := w4.heap.size) (by rw [← p0e]; exact hp0); clear f'; have hq6 : Below w4.heap.size w4 W := bth bel (hM.whole 2 (by simp)).undrew; replace HB := bth HB hq6; replace hR := hR.below hq6; replace hF := hF.to hq6; have f' := hF.cs5; replace hZ := hZ.to hq6; have z' := hZ.cs8; clear hM hO9 hp0 p0e hW
  generalize σ 0 = p0 at *
  generalize σ 2 = p2 at *
  obtain ⟨g9, c9⟩ := p2
  refine wpMix_cons fun K2 hK2 => ?_
  change wpQuiet _ _ _ _ ([]) _
  refine wpQuiet_nil ?_
  change wpList _ _ _ (_ :: []) _ _
  have fhZ' := hZ.fz8; have yhF := hF.lt; have yhZ := hZ.lt
  go_wp2
  clear f' z'
  refine st8 0 fun W3 tW3 => ?_
  replace HB := tW3.hc HB; replace hF := tW3.fa hF; replace hZ := tW3.all8 hZ; have gRW3 := tW3.gr; have szW3 := tW3.sz; replace hO := hO.keptS tW3 (fun k hk => by first | exact nehO k hk | (have := hO.lt k hk; omega)); have f' := hF.cs5; have z' := hZ.cs8
  refine Nrm_intro (((HCC5.out _).2 ⟨HB, hF⟩)) (hK2 _ _ ?_)
  refine wpMix_last ?_
  change wpQuiet _ _ _ _ (_ :: []) _
  repeat (go_big_quiet_step (fail))
  refine wpQuiet_nil ?_
  go_wp2
  refine bodyPost_ret (v := .tuple #[.agg #[.slice (some ⟨g9, 0, none⟩) rs.length c9, .slice none 0 0, .int .i64 tu, .int .i64 se, .int .i64 0, .slice none 0 0, .slice none 0 0, .slice none 0 0], .bool true]) (by simp [results, Tryz.results23, go_sem, z']) rfl ?_
  rw [nmM_yes HB2.out, HB2.out]
  exact ⟨some ⟨g9, 0, none⟩, c9, none, 0, none, 0, none, 0, none, 0, rfl, hO.base (by omega), OwnV.nil, OwnV.nil, OwnV.nil, OwnV.nil, apart_one5 _, HB⟩
end Go.Proofs.YtjimibkgocieoaaGreat
