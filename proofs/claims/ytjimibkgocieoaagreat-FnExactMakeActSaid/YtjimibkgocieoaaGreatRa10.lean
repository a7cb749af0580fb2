/- Texts of the proof: walks of the functions, and what they compute. -/
import Derived.Test.YtjimibkgocieoaaGreatRa9
import Derived.Test.YtjimibkgocieoaaGreatRa3
import Derived.Test.YtjimibkgocieoaaGreatRa0
import Derived.Deep.Cut
import Derived.Test.YtjimibkgocieoaaGreatRa5
import Derived.Test.YtjimibkgocieoaaGreatRa4
import Derived.Test.YtjimibkgocieoaaGreatRa2
set_option maxHeartbeats 16000000
set_option maxRecDepth 100000
namespace Go.Proofs.YtjimibkgocieoaaGreat
open Go.RowKit Go.G9
def patAct (q : Int) : List Value := [.int .i64 (q), .int .i64 (q + 1), .int .i64 (q + 1 + 1), .int .i64 (q + 1 + 1 + 1), .int .i64 (q + 1 + 1 + 1 + 1), .int .i64 (q + 1 + 1 + 1 + 1 + 1)]
theorem patAct_len (q : Int) : (patAct q).length = 6 := rfl
theorem mkActS_is (B : Nat) (A : Option Addr) (c : Nat) (xs : List Ac) (hn : xs.length ≤ 1048576) (m : Int) (h0 : 0 < m) (h1 : m ≤ 100000000) (w : World) (hO : OwnV B 36 6 Ac.cells w (.slice A xs.length c) xs) :
 Calls Tryz.prog 43 #[.slice A xs.length c, .int .i64 m] w fun e w' => e = .returned (.int .i64 (m + 6 * xs.length)) ∧ OwnV B 36 6 patAct w' (.slice A xs.length c) (mks m 6 xs.length) ∧ w.grownBy w' (Value.slice A xs.length c).ownBlock := by
 by_cases hz : xs.length = 0
 ·have hx0 : xs = [] := List.length_eq_zero_iff.1 hz
  subst hx0
  clear hz; have hO' : OwnV B 36 6 patAct w (.slice A 0 c) (mks m 6 0) := hO.empty; have HO := lh hO'; clear hO hO'
  go_enter Tryz.func43, Tryz.ntmps43
  exact zb87
 obtain ⟨g, cap, cs0, hve, hB, hbk, hnc, hcm, hcs⟩ := hO.block (by omega)
 injection hve with hve1 _ hve2
 subst hve1 hve2
 have HC0 := lh hcs; have HB0 := lh hbk; clear hcs hbk hO hz
 go_enter Tryz.func43, Tryz.ntmps43
 go_wp2
 go_loopw [1, 5] (fun mv i wr => ∃ (k : Nat) (q : Int) (cs : Array Value), k ≤ xs.length ∧ i = .int .i64 k ∧ mv = .int .i64 q ∧ q = m + 6 * k ∧ Blk wr g 36 cs ∧ cs.size = c * 6 ∧ Filled 6 patAct (mks m 6 xs.length) k cs ∧ w.grownBy wr (some g)) (fun _ i _ => xs.length - (intOf i).toNat)
 case atStart => exact ⟨0, m, cs0, Nat.zero_le _, rfl, rfl, by simp, HB0.out, HC0.out, Filled.zero, grown_refl _ _⟩
 case round =>
  obtain ⟨k, q, cs, hk, rfl, rfl, hq, hBK, hsz, hF, hg⟩ := hrel
  have hq1 : 0 < q := by omega
  have hq2 : q ≤ 200000000 := by omega
  have HQ := lh hq; have HSZ := lh hsz; have HF := lh hF; have HG := lh hg; clear hq hsz hF hg
  by_cases hlt : k < xs.length
  ·have hbl := hBK.lt
   have hx : (mks m 6 xs.length)[k]? = some q := by rw [mks_get hlt, HQ.out]
   have HX := lh hx; clear hx
   obtain ⟨v0, c0⟩ := hBK.some_ (k * 6) (by have hh := HSZ.out; omega)
   have z0 := hBK.frozen (k * 6)
   obtain ⟨v1, c1⟩ := hBK.some_ (k * 6 + 1) (by have hh := HSZ.out; omega)
   have z1 := hBK.frozen (k * 6 + 1)
   obtain ⟨v2, c2⟩ := hBK.some_ (k * 6 + 2) (by have hh := HSZ.out; omega)
   have z2 := hBK.frozen (k * 6 + 2)
   obtain ⟨v3, c3⟩ := hBK.some_ (k * 6 + 3) (by have hh := HSZ.out; omega)
   have z3 := hBK.frozen (k * 6 + 3)
   obtain ⟨v4, c4⟩ := hBK.some_ (k * 6 + 4) (by have hh := HSZ.out; omega)
   have z4 := hBK.frozen (k * 6 + 4)
   obtain ⟨v5, c5⟩ := hBK.some_ (k * 6 + 5) (by have hh := HSZ.out; omega)
   have z5 := hBK.frozen (k * 6 + 5)
   go_wp2
   go_roundw
   case rel =>
    have hfin : Go.G9.setMany cs (k * 6) [.int .i64 (q), .int .i64 (q + 1), .int .i64 (q + 1 + 1), .int .i64 (q + 1 + 1 + 1), .int .i64 (q + 1 + 1 + 1 + 1), .int .i64 (q + 1 + 1 + 1 + 1 + 1)] = Go.G9.setMany cs (k * 6) (patAct q) := by first | exact Go.G9.setMany_one cs _ _ _ | rfl
    refine ⟨k + 1, _, Go.G9.setMany cs (k * 6) [.int .i64 (q), .int .i64 (q + 1), .int .i64 (q + 1 + 1), .int .i64 (q + 1 + 1 + 1), .int .i64 (q + 1 + 1 + 1 + 1), .int .i64 (q + 1 + 1 + 1 + 1 + 1)], by omega, by go_num, rfl, by have := HQ.out; omega, ?_, ?_, ?_, (grown_set (grown_set (grown_set (grown_set (grown_set (grown_set HG.out _) _) _) _) _) _)⟩
    ·exact Blk.setMany (k * 6) [.int .i64 (q), .int .i64 (q + 1), .int .i64 (q + 1 + 1), .int .i64 (q + 1 + 1 + 1), .int .i64 (q + 1 + 1 + 1 + 1), .int .i64 (q + 1 + 1 + 1 + 1 + 1)] hBK
    ·rw [hfin, size_setMany, HSZ.out]
    ·rw [hfin]; have h := HF.out.put HX.out (by rw [HSZ.out, patAct_len]; omega); exact h
   case measure => simp [intOf]; omega
  ·obtain rfl : k = xs.length := by omega
   go_wp2
   go_ret
   refine ⟨ret_int (by have := HQ.out; omega), ?_, HG.out⟩
   have h := OwnV.ofBlk (B := B) (xs := mks m 6 xs.length) hBK hB (by rw [mks_len]; exact hnc) hcm HSZ.out (fun i x hx => HF.out i x (by have := (List.getElem?_eq_some_iff.1 hx).1; rwa [mks_len] at this) hx)
   rw [mks_len] at h
   exact h
open Go.RowKit Go.G9
theorem szFloor_is (tu se sp : Int) (W : Option Addr) (ws : List Int) (wc : Nat) (S : Option Addr) (sc : Nat) (sh : List Sha) (hw : ws.length ≤ maxLen) (hn : sh.length ≤ maxLen) (l : Int) (l0 : 0 ≤ l) (l1 : l ≤ 1048576) (w : World) :
 Calls Tryz.prog 80 #[.agg #[.int .i64 tu, .int .i64 se, .int .i64 sp, .slice W ws.length wc, .slice S sh.length sc], .int .i64 l] w fun e w' => ∃ r : Int, e = .returned (.int .i64 r) ∧ -1 ≤ r ∧ r ≤ l ∧ (r < 0 ∨ ws.length ≤ 1048576 ∧ sh.length ≤ 1048576) ∧ Below w.heap.size w w' := by
 go_enter Tryz.func80, Tryz.ntmps80
 go_wp2_with fail
 refine (szIntS_is W wc ws hw l l0 l1 _).mono ?_
 rintro e w1 ⟨r, rfl, a1, a2, a3, rfl⟩
 by_cases hr : r < 0
 ·go_wp2
  go_ret
  exact ⟨_, rfl, by omega, by omega, .inl (by omega), bl1 _ _⟩
 ·have a4 : ws.length ≤ 1048576 := by omega
  clear a3
  go_wp2_with fail
  refine (szShareS_is S sc sh hn r (by omega) (by omega) _).mono ?_
  rintro e w1 ⟨r', rfl, b1, b2, b3, hb⟩
  by_cases hr' : r' < 0
  ·go_wp2
   go_ret
   exact ⟨_, rfl, by omega, by omega, .inl (by omega), bth (bl1 _ _) hb⟩
  ·have b4 : sh.length ≤ 1048576 := by omega
   clear b3
   go_wp2
   go_ret
   exact ⟨_, rfl, by omega, by omega, .inr ⟨a4, b4⟩, bth (bl1 _ _) hb⟩
theorem eqFloor_is (tu se sp : Int) (W W' : Option Addr) (ws : List Int) (wc wc' : Nat) (S S' : Option Addr) (sc sc' : Nat) (sh : List Sha) (hw : ws.length ≤ 1048576) (hn : sh.length ≤ 1048576) (w : World) (R2 : Rds 1 intC w W ws) (R3 : Rds 3 Sha.cells w S sh) (Q2 : Rds 1 intC w W' ws) (Q3 : Rds 3 Sha.cells w S' sh) :
 Calls Tryz.prog 89 #[.agg #[.int .i64 tu, .int .i64 se, .int .i64 sp, .slice W ws.length wc, .slice S sh.length sc], .agg #[.int .i64 tu, .int .i64 se, .int .i64 sp, .slice W' ws.length wc', .slice S' sh.length sc']] w fun e w' => e = .returned (.bool true) ∧ Below w.heap.size w w' := by
 go_enter Tryz.func89, Tryz.ntmps89
 go_upto_region 1 with fail
 refine lay2 fun wX hq1 hA hB => ?_
 replace R2 := R2.below hq1; replace R3 := R3.below hq1; replace Q2 := Q2.below hq1; replace Q3 := Q3.below hq1; have HB := hq1; have a' := hA.cs5; have b' := hB.cs5
 go_wp2_with fail
 refine (eqIntS_is W W' wc wc' ws hw _ (R2.below bel) (Q2.below bel)).mono ?_
 rintro e w2 ⟨rfl, hb2⟩
 have hq2 : Below wX.heap.size wX w2 := bth bel hb2; replace HB := bth HB hq2; replace R3 := R3.below hq2; replace Q3 := Q3.below hq2; replace hA := hA.to hq2; clear a'; have a' := hA.cs5; replace hB := hB.to hq2; clear b'; have b' := hB.cs5
 go_wp2_with fail
 refine (eqShareS_is S S' sc sc' sh hn _ (R3.below bel) (Q3.below bel)).mono ?_
 rintro e w3 ⟨rfl, hb3⟩
 have hq3 : Below w2.heap.size w2 w3 := bth bel hb3; replace HB := bth HB hq3; clear a'; clear b'
 go_wp2
 go_ret
 exact ⟨rfl, (bth HB bel)⟩
theorem eqMee_is (rs : List Rul) (qs : List Que) (tu se sp : Int) (ws : List Int) (sh : List Sha) (os : List Out) (A0 A1 A2 A3 A4 : Option Addr) (c0 c1 c2 c3 c4 : Nat) (D0 D1 D2 D3 D4 : Option Addr) (d0 d1 d2 d3 d4 : Nat) (h0 : rs.length ≤ 1048576) (h1 : qs.length ≤ 1048576) (h2 : ws.length ≤ 1048576) (h3 : sh.length ≤ 1048576) (h4 : os.length ≤ 1048576) (w : World) (R0 : Rds 7 Rul.cells w A0 rs) (R1 : Rds 3 Que.cells w A1 qs) (R2 : Rds 1 intC w A2 ws) (R3 : Rds 3 Sha.cells w A3 sh) (R4 : Rds 3 Out.cells w A4 os) (Q0 : Rds 7 Rul.cells w D0 rs) (Q1 : Rds 3 Que.cells w D1 qs) (Q2 : Rds 1 intC w D2 ws) (Q3 : Rds 3 Sha.cells w D3 sh) (Q4 : Rds 3 Out.cells w D4 os) :
 Calls Tryz.prog 37 #[.agg #[.slice A0 rs.length c0, .slice A1 qs.length c1, .int .i64 tu, .int .i64 se, .int .i64 sp, .slice A2 ws.length c2, .slice A3 sh.length c3, .slice A4 os.length c4], .agg #[.slice D0 rs.length d0, .slice D1 qs.length d1, .int .i64 tu, .int .i64 se, .int .i64 sp, .slice D2 ws.length d2, .slice D3 sh.length d3, .slice D4 os.length d4]] w fun e w' => e = .returned (.bool true) ∧ Below w.heap.size w w' := by
 go_enter Tryz.func37, Tryz.ntmps37
 go_upto_region 1 with fail
 refine lay2 fun wX hq1 hA hB => ?_
 replace R0 := R0.below hq1; replace R1 := R1.below hq1; replace R2 := R2.below hq1; replace R3 := R3.below hq1; replace R4 := R4.below hq1; replace Q0 := Q0.below hq1; replace Q1 := Q1.below hq1; replace Q2 := Q2.below hq1; replace Q3 := Q3.below hq1; replace Q4 := Q4.below hq1; have HB := hq1; have a' := hA.cs8; have b' := hB.cs8
 go_wp2_with fail
 refine (eqRuleS_is A0 D0 c0 d0 rs h0 _ (R0.below bel) (Q0.below bel)).mono ?_
 rintro e w2 ⟨rfl, hb2⟩
 have hq2 : Below wX.heap.size wX w2 := bth bel hb2; replace HB := bth HB hq2; replace R1 := R1.below hq2; replace R2 := R2.below hq2; replace R3 := R3.below hq2; replace R4 := R4.below hq2; replace Q1 := Q1.below hq2; replace Q2 := Q2.below hq2; replace Q3 := Q3.below hq2; replace Q4 := Q4.below hq2; replace hA := hA.to hq2; clear a'; have a' := hA.cs8; replace hB := hB.to hq2; clear b'; have b' := hB.cs8
 go_wp2_with fail
 refine (eqQuestionS_is A1 D1 c1 d1 qs h1 _ (R1.below bel) (Q1.below bel)).mono ?_
 rintro e w3 ⟨rfl, hb3⟩
 have hq3 : Below w2.heap.size w2 w3 := bth bel hb3; replace HB := bth HB hq3; replace R2 := R2.below hq3; replace R3 := R3.below hq3; replace R4 := R4.below hq3; replace Q2 := Q2.below hq3; replace Q3 := Q3.below hq3; replace Q4 := Q4.below hq3; replace hA := hA.to hq3; clear a'; have a' := hA.cs8; replace hB := hB.to hq3; clear b'; have b' := hB.cs8
 go_wp2_with fail
 refine (eqFloor_is tu se sp A2 D2 ws c2 d2 A3 D3 c3 d3 sh h2 h3 _ (R2.below bel) (R3.below bel) (Q2.below bel) (Q3.below bel)).mono ?_
 rintro e w4 ⟨rfl, hb4⟩
 have hq4 : Below w3.heap.size w3 w4 := bth bel hb4; replace HB := bth HB hq4; replace R4 := R4.below hq4; replace Q4 := Q4.below hq4; replace hA := hA.to hq4; clear a'; have a' := hA.cs8; replace hB := hB.to hq4; clear b'; have b' := hB.cs8
 go_wp2_with fail
 refine (eqOutcomeS_is A4 D4 c4 d4 os h4 _ (R4.below bel) (Q4.below bel)).mono ?_
 rintro e w5 ⟨rfl, hb5⟩
 have hq5 : Below w4.heap.size w4 w5 := bth bel hb5; replace HB := bth HB hq5; clear a'; clear b'
 go_wp2
 go_ret
 exact ⟨rfl, (bth HB bel)⟩
theorem szMee_is (rs : List Rul) (qs : List Que) (tu se sp : Int) (ws : List Int) (sh : List Sha) (os : List Out) (A0 A1 A2 A3 A4 : Option Addr) (c0 c1 c2 c3 c4 : Nat) (h0 : rs.length ≤ maxLen) (h1 : qs.length ≤ maxLen) (h2 : ws.length ≤ maxLen) (h3 : sh.length ≤ maxLen) (h4 : os.length ≤ maxLen) (l : Int) (l0 : 0 ≤ l) (l1 : l ≤ 1048576) (w : World) (R0 : Rds 7 Rul.cells w A0 rs) :
 Calls Tryz.prog 34 #[.agg #[.slice A0 rs.length c0, .slice A1 qs.length c1, .int .i64 tu, .int .i64 se, .int .i64 sp, .slice A2 ws.length c2, .slice A3 sh.length c3, .slice A4 os.length c4], .int .i64 l] w fun e w' => ∃ r : Int, e = .returned (.int .i64 r) ∧ -1 ≤ r ∧ r ≤ l ∧ (r < 0 ∨ rs.length ≤ 1048576 ∧ qs.length ≤ 1048576 ∧ ws.length ≤ 1048576 ∧ sh.length ≤ 1048576 ∧ os.length ≤ 1048576) ∧ Below w.heap.size w w' := by
 go_enter Tryz.func34, Tryz.ntmps34
 go_upto_region 1 with fail
 refine lay1 fun wX hq1 hA => ?_
 replace R0 := R0.below hq1; have HB := hq1; have a' := hA.cs8
 go_wp2_with fail
 refine (szRuleS_is A0 c0 rs h0 l l0 l1 _ (R0.below bel)).mono ?_
 rintro e w2 ⟨r1, rfl, x0, y0, z0, hb2⟩
 have hq2 : Below wX.heap.size wX w2 := bth bel hb2; replace HB := bth HB hq2; replace hA := hA.to hq2; clear a'; have a' := hA.cs8
 by_cases n0 : r1 < 0
 ·go_wp2
  go_ret
  exact ⟨_, rfl, by omega, by omega, .inl (by omega), (bth HB bel)⟩
 go_wp2_with fail
 refine (szQuestionS_is A1 c1 qs h1 r1 (by omega) (by omega) _).mono ?_
 rintro e w3 ⟨r2, rfl, x1, y1, z1, hb3⟩
 have hq3 : Below w2.heap.size w2 w3 := bth bel hb3; replace HB := bth HB hq3; replace hA := hA.to hq3; clear a'; have a' := hA.cs8
 by_cases n1 : r2 < 0
 ·go_wp2
  go_ret
  exact ⟨_, rfl, by omega, by omega, .inl (by omega), (bth HB bel)⟩
 go_wp2_with fail
 refine (szFloor_is tu se sp A2 ws c2 A3 c3 sh h2 h3 r2 (by omega) (by omega) _).mono ?_
 rintro e w4 ⟨r3, rfl, x2, y2, z2, hb4⟩
 have hq4 : Below w3.heap.size w3 w4 := bth bel hb4; replace HB := bth HB hq4; replace hA := hA.to hq4; clear a'; have a' := hA.cs8
 by_cases n2 : r3 < 0
 ·go_wp2
  go_ret
  exact ⟨_, rfl, by omega, by omega, .inl (by omega), (bth HB bel)⟩
 go_wp2_with fail
 refine (szOutcomeS_is A4 c4 os h4 r3 (by omega) (by omega) _).mono ?_
 rintro e w5 ⟨r4, rfl, x3, y3, z3, hb5⟩
 have hq5 : Below w4.heap.size w4 w5 := bth bel hb5; replace HB := bth HB hq5; clear a'
 by_cases n3 : r4 < 0
 ·go_wp2
  go_ret
  exact ⟨_, rfl, by omega, by omega, .inl (by omega), (bth HB bel)⟩
 go_wp2
 go_ret
 exact ⟨_, rfl, by omega, by omega, .inr ⟨by omega, by omega, by omega, by omega, by omega⟩, (bth HB bel)⟩
theorem toFloor_is (tu se sp : Int) (W : Option Addr) (ws : List Int) (wc : Nat) (S : Option Addr) (sc : Nat) (sh : List Sha) (hw : ws.length ≤ 1048576) (hn : sh.length ≤ 1048576) (w : World) (R2 : Rds 1 intC w W ws) (R3 : Rds 3 Sha.cells w S sh) :
 Calls Tryz.prog 84 #[.agg #[.int .i64 tu, .int .i64 se, .int .i64 sp, .slice W ws.length wc, .slice S sh.length sc]] w fun e w' => ∃ X2 X3, e = .returned (.agg #[.int .i64 tu, .int .i64 se, .int .i64 sp, .slice X2 ws.length ws.length, .slice X3 sh.length sh.length]) ∧ OwnV w.heap.size 3 1 intC w' (.slice X2 ws.length ws.length) ws ∧ OwnV w.heap.size 144 3 Sha.cells w' (.slice X3 sh.length sh.length) sh ∧ (∀ k, (Value.slice X2 ws.length ws.length).ownBlock = some k → some k ≠ (Value.slice X3 sh.length sh.length).ownBlock) ∧ Below w.heap.size w w' := by
 have S2 := lh R2; have S3 := lh R3; clear R2 R3
 go_enter Tryz.func84, Tryz.ntmps84
 go_upto_region 2 with fail
 refine lay3 fun wX hq1 hA hZ hG => ?_
 have HB := hq1; have a' := hA.cs5; have z' := hZ.cs5; have g' := hG.cs5; have fhG0 := hG.frozen 0
 go_upto_region 3 with fail
 clear fhG0; clear a' z' g'
 refine st1 0 fun W1 tW1 => ?_
 replace HB := tW1.hb HB (by omega); replace hA := tW1.far hA (by omega); replace hZ := tW1.far hZ (by omega); replace hG : Blk W1 (w.heap.size + 1 + 1) 29 #[.int .i64 tu, .int .i64 0, .int .i64 0, .slice none 0 0, .slice none 0 0] := tW1.own hG; have a' := hA.cs5; have z' := hZ.cs5; have g' := hG.cs5; have fhG1 := hG.frozen 1
 go_upto_region 4 with fail
 clear fhG1; clear a' z' g'
 refine st1 1 fun W2 tW2 => ?_
 replace HB := tW2.hb HB (by omega); replace hA := tW2.far hA (by omega); replace hZ := tW2.far hZ (by omega); replace hG : Blk W2 (w.heap.size + 1 + 1) 29 #[.int .i64 tu, .int .i64 se, .int .i64 0, .slice none 0 0, .slice none 0 0] := tW2.own hG; have a' := hA.cs5; have z' := hZ.cs5; have g' := hG.cs5; have fhG2 := hG.frozen 2
 go_upto_region 5 with fail
 clear fhG2; clear a' z' g'
 refine st1 2 fun W3 tW3 => ?_
 replace HB := tW3.hb HB (by omega); replace hA := tW3.far hA (by omega); replace hZ := tW3.far hZ (by omega); replace hG : Blk W3 (w.heap.size + 1 + 1) 29 #[.int .i64 tu, .int .i64 se, .int .i64 sp, .slice none 0 0, .slice none 0 0] := tW3.own hG; have a' := hA.cs5; have z' := hZ.cs5; have g' := hG.cs5; have q1 := hG.lt
 go_wp2_with fail
 refine (toIntS_is W wc ws hw _ (S2.out.below HB)).mono ?_
 rintro e w2 ⟨X2, rfl, O2, hb2⟩
 have hq2 : Below W3.heap.size W3 w2 := bth bel hb2; replace HB := bth HB hq2; replace hA := hA.to hq2; clear a'; have a' := hA.cs5; replace hZ := hZ.to hq2; clear z'; have z' := hZ.cs5; replace hG := hG.to hq2; clear g'; have g' := hG.cs5; have m2 := O2.lt; have fhG3 := hG.frozen 3
 go_upto_region 6 with fail
 clear fhG3; clear a' z' g'
 refine st1 3 fun W4 tW4 => ?_
 replace HB := tW4.hb HB (by omega); replace hA := tW4.far hA (by omega); replace hZ := tW4.far hZ (by omega); replace hG : Blk W4 (w.heap.size + 1 + 1) 29 #[.int .i64 tu, .int .i64 se, .int .i64 sp, .slice X2 ws.length ws.length, .slice none 0 0] := tW4.own hG; have szW4 := tW4.sz; replace O2 := O2.keptS tW4 (fun k hk => by first | exact neO2 k hk | (have := O2.lt k hk; omega)); have a' := hA.cs5
 have z' := hZ.cs5; have g' := hG.cs5; have q2 := hG.lt
 go_wp2_with fail
 refine (toShareS_is S sc sh hn _ (S3.out.below HB)).mono ?_
 rintro e w3 ⟨X3, rfl, O3, hb3⟩
 have hq3 : Below W4.heap.size W4 w3 := bth bel hb3; replace HB := bth HB hq3; replace O2 := O2.later hq3; clear a'; replace hZ := hZ.to hq3; clear z'; have z' := hZ.cs5; replace hG := hG.to hq3; clear g'; have g' := hG.cs5
 have ap : ∀ k, (Value.slice X2 ws.length ws.length).ownBlock = some k → some k ≠ (Value.slice X3 sh.length sh.length).ownBlock := fun k hk hk' => by
  have e1 := (m2 k hk).2; have e2 := (O3.lt k hk'.symm).1
  omega
 have fhG4 := hG.frozen 4
 go_upto_region 7 with fail
 clear fhG4; clear z' g'
 refine st1 4 fun W5 tW5 => ?_
 replace HB := tW5.hb HB (by omega); replace hZ := tW5.far hZ (by omega); replace hG : Blk W5 (w.heap.size + 1 + 1) 29 #[.int .i64 tu, .int .i64 se, .int .i64 sp, .slice X2 ws.length ws.length, .slice X3 sh.length sh.length] := tW5.own hG; replace O2 := O2.keptS tW5 (fun k hk => by first | exact neO2 k hk | (have := O2.lt k hk; omega)); replace O3 := O3.keptS tW5 (fun k hk => by first | exact neO3 k hk | (have := O3.lt k hk; omega))
 have z' := hZ.cs5; have g' := hG.cs5; have fhZ' := hZ.fz5
 go_wp2
 clear z' g'
 refine st5 0 fun W9 tW9 => ?_
 replace HB := tW9.hb HB (by omega); replace hZ := tW9.all5 hZ; replace O2 := O2.keptS tW9 (fun k hk => by first | exact neO2 k hk | (have := O2.lt k hk; omega)); replace O3 := O3.keptS tW9 (fun k hk => by first | exact neO3 k hk | (have := O3.lt k hk; omega)); have z' := hZ.cs5
 refine bodyPost_ret (v := .agg #[.int .i64 tu, .int .i64 se, .int .i64 sp, .slice X2 ws.length ws.length, .slice X3 sh.length sh.length]) (by simp [results, Tryz.results84, go_sem, z']) rfl ?_
 exact ⟨X2, X3, rfl, O2.base (by omega), O3.base (by omega), ap, HB⟩
theorem toMee_is (rs : List Rul) (qs : List Que) (tu se sp : Int) (ws : List Int) (sh : List Sha) (os : List Out) (A0 A1 A2 A3 A4 : Option Addr) (c0 c1 c2 c3 c4 : Nat) (h0 : rs.length ≤ 1048576) (h1 : qs.length ≤ 1048576) (h2 : ws.length ≤ 1048576) (h3 : sh.length ≤ 1048576) (h4 : os.length ≤ 1048576) (w : World) (R0 : Rds 7 Rul.cells w A0 rs) (R1 : Rds 3 Que.cells w A1 qs) (R2 : Rds 1 intC w A2 ws) (R3 : Rds 3 Sha.cells w A3 sh) (R4 : Rds 3 Out.cells w A4 os) :
 Calls Tryz.prog 35 #[.agg #[.slice A0 rs.length c0, .slice A1 qs.length c1, .int .i64 tu, .int .i64 se, .int .i64 sp, .slice A2 ws.length c2, .slice A3 sh.length c3, .slice A4 os.length c4]] w fun e w' => ∃ X0 X1 X2 X3 X4, e = .returned (.agg #[.slice X0 rs.length rs.length, .slice X1 qs.length qs.length, .int .i64 tu, .int .i64 se, .int .i64 sp, .slice X2 ws.length ws.length, .slice X3 sh.length sh.length, .slice X4 os.length os.length]) ∧ OwnV w.heap.size 48 7 Rul.cells w' (.slice X0 rs.length rs.length) rs ∧ OwnV w.heap.size 46 3 Que.cells w' (.slice X1 qs.length qs.length) qs ∧ OwnV w.heap.size 3 1 intC w' (.slice X2 ws.length ws.length) ws ∧ OwnV w.heap.size 144 3 Sha.cells w' (.slice X3 sh.length sh.length) sh ∧ OwnV w.heap.size 44 3 Out.cells w' (.slice X4 os.length os.length) os ∧ Apart [.slice X0 rs.length rs.length, .slice X1 qs.length qs.length, .slice X2 ws.length ws.length, .slice X3 sh.length sh.length, .slice X4 os.length os.length] ∧ Below w.heap.size w w' := by
 have S0 := lh R0; have S1 := lh R1; have S2 := lh R2; have S3 := lh R3; have S4 := lh R4; clear R0 R1 R2 R3 R4
 go_enter Tryz.func35, Tryz.ntmps35
 go_upto_region 2 with fail
 refine lay3 fun wX hq1 hA hZ hG => ?_
 have HB := hq1; have a' := hA.cs8; have z' := hZ.cs8; have g' := hG.cs8; have q0 := hG.lt
 go_wp2_with fail
 refine (toRuleS_is A0 c0 rs h0 _ (S0.out.below HB)).mono ?_
 rintro e w2 ⟨X0, rfl, O0, hb2⟩
 have hq2 : Below wX.heap.size wX w2 := bth bel hb2; replace HB := bth HB hq2; replace hA := hA.to hq2; clear a'; have a' := hA.cs8; replace hZ := hZ.to hq2; clear z'; have z' := hZ.cs8; replace hG := hG.to hq2; clear g'; have g' := hG.cs8; have m0 := O0.lt; have fhG0 := hG.frozen 0
 go_upto_region 3 with fail
 clear fhG0; clear a' z' g'
 refine st1 0 fun W1 tW1 => ?_
 replace HB := tW1.hb HB (by omega); replace hA := tW1.far hA (by omega); replace hZ := tW1.far hZ (by omega); replace hG : Blk W1 (w.heap.size + 1 + 1) 32 #[.slice X0 rs.length rs.length, .slice none 0 0, .int .i64 0, .int .i64 0, .int .i64 0, .slice none 0 0, .slice none 0 0, .slice none 0 0] := tW1.own hG; have szW1 := tW1.sz; replace O0 := O0.keptS tW1 (fun k hk => by first | exact neO0 k hk | (have := O0.lt k hk; omega))
 have a' := hA.cs8; have z' := hZ.cs8; have g' := hG.cs8; have q1 := hG.lt
 go_wp2_with fail
 refine (toQuestionS_is A1 c1 qs h1 _ (S1.out.below HB)).mono ?_
 rintro e w3 ⟨X1, rfl, O1, hb3⟩
 have hq3 : Below W1.heap.size W1 w3 := bth bel hb3; replace HB := bth HB hq3; replace O0 := O0.later hq3; replace hA := hA.to hq3; clear a'; have a' := hA.cs8; replace hZ := hZ.to hq3; clear z'; have z' := hZ.cs8; replace hG := hG.to hq3; clear g'; have g' := hG.cs8; have m1 := O1.lt; have zz3 := hq3.size; have fhG1 := hG.frozen 1
 go_upto_region 4 with fail
 clear fhG1; clear a' z' g'
 refine st1 1 fun W2 tW2 => ?_
 replace HB := tW2.hb HB (by omega); replace hA := tW2.far hA (by omega); replace hZ := tW2.far hZ (by omega); replace hG : Blk W2 (w.heap.size + 1 + 1) 32 #[.slice X0 rs.length rs.length, .slice X1 qs.length qs.length, .int .i64 0, .int .i64 0, .int .i64 0, .slice none 0 0, .slice none 0 0, .slice none 0 0] := tW2.own hG; have szW2 := tW2.sz; replace O0 := O0.keptS tW2 (fun k hk => by first | exact neO0 k hk | (have := O0.lt k hk; omega))
 replace O1 := O1.keptS tW2 (fun k hk => by first | exact neO1 k hk | (have := O1.lt k hk; omega)); have a' := hA.cs8; have z' := hZ.cs8; have g' := hG.cs8; have q2 := hG.lt
 go_wp2_with fail
 refine (toFloor_is tu se sp A2 ws c2 A3 c3 sh h2 h3 _ (S2.out.below HB) (S3.out.below HB)).mono ?_
 rintro e w4 ⟨X2, X3, rfl, O2, O3, ap23, hb4⟩
 have hq4 : Below W2.heap.size W2 w4 := bth bel hb4; replace HB := bth HB hq4; replace O0 := O0.later hq4; replace O1 := O1.later hq4; replace hA := hA.to hq4; clear a'; have a' := hA.cs8; replace hZ := hZ.to hq4; clear z'; have z' := hZ.cs8; replace hG := hG.to hq4; clear g'; have g' := hG.cs8; have m2 := O2.lt; have m3 := O3.lt; have zz4 := hq4.size; have fhG2 := hG.frozen 2; have fhG3 := hG.frozen 3
 have fhG4 := hG.frozen 4; have fhG5 := hG.frozen 5; have fhG6 := hG.frozen 6
 go_upto_region 5 with fail
 clear fhG2 fhG3 fhG4 fhG5 fhG6; clear a' z' g'
 refine st5 2 fun W3 tW3 => ?_
 replace HB := tW3.hb HB (by omega); replace hA := tW3.far hA (by omega); replace hZ := tW3.far hZ (by omega); replace hG : Blk W3 (w.heap.size + 1 + 1) 32 #[.slice X0 rs.length rs.length, .slice X1 qs.length qs.length, .int .i64 tu, .int .i64 se, .int .i64 sp, .slice X2 ws.length ws.length, .slice X3 sh.length sh.length, .slice none 0 0] := tW3.own hG; have szW3 := tW3.sz; replace O0 := O0.keptS tW3 (fun k hk => by first | exact neO0 k hk | (have := O0.lt k hk; omega))
 replace O1 := O1.keptS tW3 (fun k hk => by first | exact neO1 k hk | (have := O1.lt k hk; omega)); replace O2 := O2.keptS tW3 (fun k hk => by first | exact neO2 k hk | (have := O2.lt k hk; omega)); replace O3 := O3.keptS tW3 (fun k hk => by first | exact neO3 k hk | (have := O3.lt k hk; omega)); have a' := hA.cs8; have z' := hZ.cs8; have g' := hG.cs8; have q4 := hG.lt
 go_wp2_with fail
 refine (toOutcomeS_is A4 c4 os h4 _ (S4.out.below HB)).mono ?_
 rintro e w5 ⟨X4, rfl, O4, hb5⟩
 have hq5 : Below W3.heap.size W3 w5 := bth bel hb5; replace HB := bth HB hq5; replace O0 := O0.later hq5; replace O1 := O1.later hq5; replace O2 := O2.later hq5; replace O3 := O3.later hq5; clear a'; replace hZ := hZ.to hq5; clear z'; have z' := hZ.cs8; replace hG := hG.to hq5; clear g'; have g' := hG.cs8; have m4 := O4.lt
 have ap : Apart [.slice X0 rs.length rs.length, .slice X1 qs.length qs.length, .slice X2 ws.length ws.length, .slice X3 sh.length sh.length, .slice X4 os.length os.length] := by
  refine List.Pairwise.cons ?_ (List.Pairwise.cons ?_ (List.Pairwise.cons ?_ (List.Pairwise.cons ?_ (List.Pairwise.cons ?_ List.Pairwise.nil))))
  ·intro v hv k hk hk'
   have e1 := (m0 k hk).2
   simp only [List.mem_cons, List.not_mem_nil, or_false] at hv
   rcases hv with rfl | rfl | rfl | rfl
   ·have e2 := (m1 k hk'.symm).1; omega
   ·have e2 := (m2 k hk'.symm).1; omega
   ·have e2 := (m3 k hk'.symm).1; omega
   ·have e2 := (m4 k hk'.symm).1; omega
  ·intro v hv k hk hk'
   have e1 := (m1 k hk).2
   simp only [List.mem_cons, List.not_mem_nil, or_false] at hv
   rcases hv with rfl | rfl | rfl
   ·have e2 := (m2 k hk'.symm).1; omega
   ·have e2 := (m3 k hk'.symm).1; omega
   ·have e2 := (m4 k hk'.symm).1; omega
  ·intro v hv k hk hk'
   have e1 := (m2 k hk).2
   simp only [List.mem_cons, List.not_mem_nil, or_false] at hv
   rcases hv with rfl | rfl
   ·exact ap23 k hk hk'
   ·have e2 := (m4 k hk'.symm).1; omega
  ·intro v hv k hk hk'
   have e1 := (m3 k hk).2
   simp only [List.mem_cons, List.not_mem_nil, or_false] at hv
   subst hv
   have e2 := (m4 k hk'.symm).1
   omega
  ·intro v hv; simp at hv
 have fhG7 := hG.frozen 7
 go_upto_region 6 with fail
 clear fhG7; clear z' g'
 refine st1 7 fun W4 tW4 => ?_
 replace HB := tW4.hb HB (by omega); replace hZ := tW4.far hZ (by omega); replace hG : Blk W4 (w.heap.size + 1 + 1) 32 #[.slice X0 rs.length rs.length, .slice X1 qs.length qs.length, .int .i64 tu, .int .i64 se, .int .i64 sp, .slice X2 ws.length ws.length, .slice X3 sh.length sh.length, .slice X4 os.length os.length] := tW4.own hG; replace O0 := O0.keptS tW4 (fun k hk => by first | exact neO0 k hk | (have := O0.lt k hk; omega))
 replace O1 := O1.keptS tW4 (fun k hk => by first | exact neO1 k hk | (have := O1.lt k hk; omega)); replace O2 := O2.keptS tW4 (fun k hk => by first | exact neO2 k hk | (have := O2.lt k hk; omega)); replace O3 := O3.keptS tW4 (fun k hk => by first | exact neO3 k hk | (have := O3.lt k hk; omega)); replace O4 := O4.keptS tW4 (fun k hk => by first | exact neO4 k hk | (have := O4.lt k hk; omega)); have z' := hZ.cs8
 have g' := hG.cs8; have fhZ' := hZ.fz8
 go_wp2
 clear z' g'
 refine st8 0 fun W9 tW9 => ?_
 replace HB := tW9.hb HB (by omega); replace hZ := tW9.all8 hZ; replace O0 := O0.keptS tW9 (fun k hk => by first | exact neO0 k hk | (have := O0.lt k hk; omega)); replace O1 := O1.keptS tW9 (fun k hk => by first | exact neO1 k hk | (have := O1.lt k hk; omega)); replace O2 := O2.keptS tW9 (fun k hk => by first | exact neO2 k hk | (have := O2.lt k hk; omega)); replace O3 := O3.keptS tW9 (fun k hk => by first | exact neO3 k hk | (have := O3.lt k hk; omega))
 replace O4 := O4.keptS tW9 (fun k hk => by first | exact neO4 k hk | (have := O4.lt k hk; omega)); have z' := hZ.cs8
 refine bodyPost_ret (v := .agg #[.slice X0 rs.length rs.length, .slice X1 qs.length qs.length, .int .i64 tu, .int .i64 se, .int .i64 sp, .slice X2 ws.length ws.length, .slice X3 sh.length sh.length, .slice X4 os.length os.length]) (by simp [results, Tryz.results35, go_sem, z']) rfl ?_
 exact ⟨X0, X1, X2, X3, X4, rfl, O0.base (by omega), O1.base (by omega), O2.base (by omega), O3.base (by omega), O4.base (by omega), ap, HB⟩
theorem szMeeting_is (m : Mee) (A0 A1 A2 A3 A4 : Option Addr) (c0 c1 c2 c3 c4 : Nat) (h0 : m.rules.length ≤ maxLen) (h1 : m.pend.length ≤ maxLen) (h2 : m.wait.length ≤ maxLen) (h3 : m.shares.length ≤ maxLen) (h4 : m.outs.length ≤ maxLen) (l : Int) (l0 : 0 ≤ l) (l1 : l ≤ 1048576) (w : World) (R0 : Rds 7 Rul.cells w A0 m.rules) :
 Calls Tryz.prog 34 #[.agg #[.slice A0 m.rules.length c0, .slice A1 m.pend.length c1, .int .i64 m.turns, .int .i64 m.secs, .int .i64 m.spk, .slice A2 m.wait.length c2, .slice A3 m.shares.length c3, .slice A4 m.outs.length c4], .int .i64 l] w fun e w' => ∃ r : Int, e = .returned (.int .i64 r) ∧ -1 ≤ r ∧ r ≤ l ∧ (r < 0 ∨ m.rules.length ≤ 1048576 ∧ m.pend.length ≤ 1048576 ∧ m.wait.length ≤ 1048576 ∧ m.shares.length ≤ 1048576 ∧ m.outs.length ≤ 1048576) ∧ Below w.heap.size w w' :=
 szMee_is m.rules m.pend m.turns m.secs m.spk m.wait m.shares m.outs A0 A1 A2 A3 A4 c0 c1 c2 c3 c4 h0 h1 h2 h3 h4 l l0 l1 w R0
theorem eqMeeting_is (m : Mee) (A0 A1 A2 A3 A4 D0 D1 D2 D3 D4 : Option Addr) (c0 c1 c2 c3 c4 d0 d1 d2 d3 d4 : Nat) (h0 : m.rules.length ≤ 1048576) (h1 : m.pend.length ≤ 1048576) (h2 : m.wait.length ≤ 1048576) (h3 : m.shares.length ≤ 1048576) (h4 : m.outs.length ≤ 1048576) (w : World) (R0 : Rds 7 Rul.cells w A0 m.rules) (R1 : Rds 3 Que.cells w A1 m.pend) (R2 : Rds 1 intC w A2 m.wait) (R3 : Rds 3 Sha.cells w A3 m.shares) (R4 : Rds 3 Out.cells w A4 m.outs) (Q0 : Rds 7 Rul.cells w D0 m.rules) (Q1 : Rds 3 Que.cells w D1 m.pend) (Q2 : Rds 1 intC w D2 m.wait) (Q3 : Rds 3 Sha.cells w D3 m.shares) (Q4 : Rds 3 Out.cells w D4 m.outs) :
 Calls Tryz.prog 37 #[.agg #[.slice A0 m.rules.length c0, .slice A1 m.pend.length c1, .int .i64 m.turns, .int .i64 m.secs, .int .i64 m.spk, .slice A2 m.wait.length c2, .slice A3 m.shares.length c3, .slice A4 m.outs.length c4], .agg #[.slice D0 m.rules.length d0, .slice D1 m.pend.length d1, .int .i64 m.turns, .int .i64 m.secs, .int .i64 m.spk, .slice D2 m.wait.length d2, .slice D3 m.shares.length d3, .slice D4 m.outs.length d4]] w fun e w' => e = .returned (.bool true) ∧ Below w.heap.size w w' :=
 eqMee_is m.rules m.pend m.turns m.secs m.spk m.wait m.shares m.outs A0 A1 A2 A3 A4 c0 c1 c2 c3 c4 D0 D1 D2 D3 D4 d0 d1 d2 d3 d4 h0 h1 h2 h3 h4 w R0 R1 R2 R3 R4 Q0 Q1 Q2 Q3 Q4
theorem toMeeting_is (m : Mee) (A0 A1 A2 A3 A4 : Option Addr) (c0 c1 c2 c3 c4 : Nat) (h0 : m.rules.length ≤ 1048576) (h1 : m.pend.length ≤ 1048576) (h2 : m.wait.length ≤ 1048576) (h3 : m.shares.length ≤ 1048576) (h4 : m.outs.length ≤ 1048576) (w : World) (R0 : Rds 7 Rul.cells w A0 m.rules) (R1 : Rds 3 Que.cells w A1 m.pend) (R2 : Rds 1 intC w A2 m.wait) (R3 : Rds 3 Sha.cells w A3 m.shares) (R4 : Rds 3 Out.cells w A4 m.outs) :
 Calls Tryz.prog 35 #[.agg #[.slice A0 m.rules.length c0, .slice A1 m.pend.length c1, .int .i64 m.turns, .int .i64 m.secs, .int .i64 m.spk, .slice A2 m.wait.length c2, .slice A3 m.shares.length c3, .slice A4 m.outs.length c4]] w fun e w' => ∃ X0 X1 X2 X3 X4, e = .returned (.agg #[.slice X0 m.rules.length m.rules.length, .slice X1 m.pend.length m.pend.length, .int .i64 m.turns, .int .i64 m.secs, .int .i64 m.spk, .slice X2 m.wait.length m.wait.length, .slice X3 m.shares.length m.shares.length, .slice X4 m.outs.length m.outs.length]) ∧ OwnV w.heap.size 48 7 Rul.cells w' (.slice X0 m.rules.length m.rules.length) m.rules ∧ OwnV w.heap.size 46 3 Que.cells w' (.slice X1 m.pend.length m.pend.length) m.pend ∧ OwnV w.heap.size 3 1 intC w' (.slice X2 m.wait.length m.wait.length) m.wait ∧ OwnV w.heap.size 144 3 Sha.cells w' (.slice X3 m.shares.length m.shares.length) m.shares ∧ OwnV w.heap.size 44 3 Out.cells w' (.slice X4 m.outs.length m.outs.length) m.outs ∧ Apart [.slice X0 m.rules.length m.rules.length, .slice X1 m.pend.length m.pend.length, .slice X2 m.wait.length m.wait.length, .slice X3 m.shares.length m.shares.length, .slice X4 m.outs.length m.outs.length] ∧ Below w.heap.size w w' :=
 toMee_is m.rules m.pend m.turns m.secs m.spk m.wait m.shares m.outs A0 A1 A2 A3 A4 c0 c1 c2 c3 c4 h0 h1 h2 h3 h4 w R0 R1 R2 R3 R4
open Go.RowKit Go.G9
structure Flo where
 turns : Int
 secs : Int
 spk : Int
 wait : List Int
 shares : List Sha
theorem mkFloor_is {B0 B1 : Nat} (x : Flo) (A0 A1 : Option Addr) (c0 c1 : Nat) (hn0 : x.wait.length ≤ 1048576) (hn1 : x.shares.length ≤ 1048576) (m : Int) (h0 : 0 < m) (h1 : m ≤ 20000000) (w : World)
  (O0 : OwnV B0 3 1 intC w (.slice A0 x.wait.length c0) x.wait) (O1 : OwnV B1 144 3 Sha.cells w (.slice A1 x.shares.length c1) x.shares) (ap : Apart [.slice A0 x.wait.length c0, .slice A1 x.shares.length c1]) :
 Calls Tryz.prog 93 #[.agg #[.int .i64 x.turns, .int .i64 x.secs, .int .i64 x.spk, .slice A0 x.wait.length c0, .slice A1 x.shares.length c1], .int .i64 m] w fun e w' => e = .returned (.int .i64 (m + (x.wait.length : Int) + 3 * (x.shares.length : Int))) ∧ OwnV B0 3 1 patInt w' (.slice A0 x.wait.length c0) (mks (m) 1 x.wait.length) ∧ OwnV B1 144 3 patShare w' (.slice A1 x.shares.length c1) (mks (m + (x.wait.length : Int)) 3 x.shares.length) ∧ GrownL w w' [.slice A0 x.wait.length c0, .slice A1 x.shares.length c1] := by
 have d0_1 := lh (ap.at (i := 0) (j := 1) (by decide) rfl rfl)
 go_enter Tryz.func93, Tryz.ntmps93
 have l0 := lh (fun k hk => (O0.lt k hk).2); replace O0 := O0.alloc (.cells #[.int .i64 x.turns, .int .i64 x.secs, .int .i64 x.spk, .slice A0 x.wait.length c0, .slice A1 x.shares.length c1] 29); replace O1 := O1.alloc (.cells #[.int .i64 x.turns, .int .i64 x.secs, .int .i64 x.spk, .slice A0 x.wait.length c0, .slice A1 x.shares.length c1] 29)
 go_wp2_with fail
 refine (mkIntS_is _ A0 c0 x.wait hn0 (m) (by omega) (by omega) _ O0).mono ?_
 rintro e w0 ⟨rfl, M0, hg0⟩
 have HG0 := grownL_one hg0; replace O1 := O1.keptN HG0 (fun k hk u hu e => by simp only [List.mem_singleton] at hu; subst hu; exact d0_1.out k e hk.symm); have X : Blk w0 w.heap.size 29 #[.int .i64 x.turns, .int .i64 x.secs, .int .i64 x.spk, .slice A0 x.wait.length c0, .slice A1 x.shares.length c1] := (HG0.block _ (by simp) (fun u hu e => by simp only [List.mem_singleton] at hu; subst hu; have := l0.out _ e; omega)).trans (Blk.new w 29 #[.int .i64 x.turns, .int .i64 x.secs, .int .i64 x.spk, .slice A0 x.wait.length c0, .slice A1 x.shares.length c1])
 have a4 := (Blk.cell X 4).trans (show _ = some (.slice A1 x.shares.length c1) from rfl)
 go_wp2_with fail
 refine (mkShareS_is _ A1 c1 x.shares hn1 (m + (x.wait.length : Int)) (by omega) (by omega) _ O1).mono ?_
 rintro e w1 ⟨rfl, M1, hg1⟩
 have HG1 := grownL_one hg1; replace M0 := M0.keptN HG1 (fun k hk u hu e => by simp only [List.mem_singleton] at hu; subst hu; exact d0_1.out k hk e.symm); clear a4
 go_wp2
 go_ret
 exact ⟨rfl, M0, M1, ((GrownL.of_below (vs := []) (bl1 w (.cells #[.int .i64 x.turns, .int .i64 x.secs, .int .i64 x.spk, .slice A0 x.wait.length c0, .slice A1 x.shares.length c1] 29))).trans HG0).trans HG1⟩
theorem hdFloor_is (x : Flo) (A0 A1 : Option Addr) (c0 c1 : Nat) (hn0 : x.wait.length ≤ 1048576) (hn1 : x.shares.length ≤ 1048576) (m : Int) (h0 : 0 < m) (h1 : m ≤ 20000000) (w : World)
  (R0 : Rds 1 patInt w A0 (mks (m) 1 x.wait.length)) (R1 : Rds 3 patShare w A1 (mks (m + (x.wait.length : Int)) 3 x.shares.length)) :
 Calls Tryz.prog 97 #[.agg #[.int .i64 x.turns, .int .i64 x.secs, .int .i64 x.spk, .slice A0 x.wait.length c0, .slice A1 x.shares.length c1], .int .i64 m] w fun e w' => e = .returned (.int .i64 (m + (x.wait.length : Int) + 3 * (x.shares.length : Int))) ∧ Below w.heap.size w w' := by
 go_enter Tryz.func97, Tryz.ntmps97
 go_wp2_with fail
 refine (hdIntS_is A0 c0 _ hn0 (m) (by omega) (by omega) _ (R0.below bel)).mono ?_
 rintro e w1 ⟨rfl, hb1⟩
 have hq1 : Below w.heap.size w w1 := bth bel hb1; have HB : Below w.heap.size w w1 := hq1; have X1 : Blk w1 (w.heap.size) 29 #[.int .i64 x.turns, .int .i64 x.secs, .int .i64 x.spk, .slice A0 x.wait.length c0, .slice A1 x.shares.length c1] := Blk.below (by repeat (first | exact Blk.new _ _ _ | exact Blk.new2 _ _ _ _ | exact Blk.new3 _ _ _ _ _ | refine Blk.alloc ?_ _)) hb1 (by simp <;> omega); have X1_' := X1.cs5
 go_wp2_with fail
 refine (hdShareS_is A1 c1 _ hn1 (m + (x.wait.length : Int)) (by omega) (by omega) _ (R1.below (bth HB bel))).mono ?_
 rintro e w2 ⟨rfl, hb2⟩
 clear X1_'; have hq2 : Below w1.heap.size w1 w2 := bth bel hb2; replace HB := bth HB hq2
 go_wp2
 go_ret
 exact ⟨rfl, bth HB bel⟩
theorem mkMeeting_is {B0 B1 B2 B3 B4 : Nat} (x : Mee) (A0 A1 A2 A3 A4 : Option Addr) (c0 c1 c2 c3 c4 : Nat) (hn0 : x.rules.length ≤ 1048576) (hn1 : x.pend.length ≤ 1048576) (hn2 : x.wait.length ≤ 1048576) (hn3 : x.shares.length ≤ 1048576) (hn4 : x.outs.length ≤ 1048576) (m : Int) (h0 : 0 < m) (h1 : m ≤ 9000000) (w : World)
  (O0 : OwnV B0 48 7 Rul.cells w (.slice A0 x.rules.length c0) x.rules) (O1 : OwnV B1 46 3 Que.cells w (.slice A1 x.pend.length c1) x.pend) (O2 : OwnV B2 3 1 intC w (.slice A2 x.wait.length c2) x.wait) (O3 : OwnV B3 144 3 Sha.cells w (.slice A3 x.shares.length c3) x.shares) (O4 : OwnV B4 44 3 Out.cells w (.slice A4 x.outs.length c4) x.outs) (ap : Apart [.slice A0 x.rules.length c0, .slice A1 x.pend.length c1, .slice A2 x.wait.length c2, .slice A3 x.shares.length c3, .slice A4 x.outs.length c4]) :
 Calls Tryz.prog 38 #[.agg #[.slice A0 x.rules.length c0, .slice A1 x.pend.length c1, .int .i64 x.turns, .int .i64 x.secs, .int .i64 x.spk, .slice A2 x.wait.length c2, .slice A3 x.shares.length c3, .slice A4 x.outs.length c4], .int .i64 m] w fun e w' => e = .returned (.int .i64 (m + 7 * (x.rules.length : Int) + 3 * (x.pend.length : Int) + (x.wait.length : Int) + 3 * (x.shares.length : Int) + 3 * (x.outs.length : Int))) ∧ OwnV B0 48 7 patRule w' (.slice A0 x.rules.length c0) (mks (m) 7 x.rules.length) ∧ OwnV B1 46 3 patQuestion w' (.slice A1 x.pend.length c1) (mks (m + 7 * (x.rules.length : Int)) 3 x.pend.length) ∧ OwnV B2 3 1 patInt w' (.slice A2 x.wait.length c2) (mks (m + 7 * (x.rules.length : Int) + 3 * (x.pend.length : Int)) 1 x.wait.length) ∧ OwnV B3 144 3 patShare w' (.slice A3 x.shares.length c3) (mks (m + 7 * (x.rules.length : Int) + 3 * (x.pend.length : Int) + (x.wait.length : Int)) 3 x.shares.length) ∧ OwnV B4 44 3 patOutcome w' (.slice A4 x.outs.length c4) (mks (m + 7 * (x.rules.length : Int) + 3 * (x.pend.length : Int) + (x.wait.length : Int) + 3 * (x.shares.length : Int)) 3 x.outs.length) ∧ GrownL w w' [.slice A0 x.rules.length c0, .slice A1 x.pend.length c1, .slice A2 x.wait.length c2, .slice A3 x.shares.length c3, .slice A4 x.outs.length c4] := by
 have d0_1 := lh (ap.at (i := 0) (j := 1) (by decide) rfl rfl); have d0_2 := lh (ap.at (i := 0) (j := 2) (by decide) rfl rfl); have d0_3 := lh (ap.at (i := 0) (j := 3) (by decide) rfl rfl); have d0_4 := lh (ap.at (i := 0) (j := 4) (by decide) rfl rfl); have d1_2 := lh (ap.at (i := 1) (j := 2) (by decide) rfl rfl); have d1_3 := lh (ap.at (i := 1) (j := 3) (by decide) rfl rfl); have d1_4 := lh (ap.at (i := 1) (j := 4) (by decide) rfl rfl)
 have d2_3 := lh (ap.at (i := 2) (j := 3) (by decide) rfl rfl); have d2_4 := lh (ap.at (i := 2) (j := 4) (by decide) rfl rfl); have d3_4 := lh (ap.at (i := 3) (j := 4) (by decide) rfl rfl)
 go_enter Tryz.func38, Tryz.ntmps38
 have l0 := lh (fun k hk => (O0.lt k hk).2); have l1 := lh (fun k hk => (O1.lt k hk).2); have l2 := lh (fun k hk => (O2.lt k hk).2); have l3 := lh (fun k hk => (O3.lt k hk).2); replace O0 := O0.alloc (.cells #[.slice A0 x.rules.length c0, .slice A1 x.pend.length c1, .int .i64 x.turns, .int .i64 x.secs, .int .i64 x.spk, .slice A2 x.wait.length c2, .slice A3 x.shares.length c3, .slice A4 x.outs.length c4] 32)
 replace O1 := O1.alloc (.cells #[.slice A0 x.rules.length c0, .slice A1 x.pend.length c1, .int .i64 x.turns, .int .i64 x.secs, .int .i64 x.spk, .slice A2 x.wait.length c2, .slice A3 x.shares.length c3, .slice A4 x.outs.length c4] 32); replace O2 := O2.alloc (.cells #[.slice A0 x.rules.length c0, .slice A1 x.pend.length c1, .int .i64 x.turns, .int .i64 x.secs, .int .i64 x.spk, .slice A2 x.wait.length c2, .slice A3 x.shares.length c3, .slice A4 x.outs.length c4] 32)
 replace O3 := O3.alloc (.cells #[.slice A0 x.rules.length c0, .slice A1 x.pend.length c1, .int .i64 x.turns, .int .i64 x.secs, .int .i64 x.spk, .slice A2 x.wait.length c2, .slice A3 x.shares.length c3, .slice A4 x.outs.length c4] 32); replace O4 := O4.alloc (.cells #[.slice A0 x.rules.length c0, .slice A1 x.pend.length c1, .int .i64 x.turns, .int .i64 x.secs, .int .i64 x.spk, .slice A2 x.wait.length c2, .slice A3 x.shares.length c3, .slice A4 x.outs.length c4] 32)
 go_wp2_with fail
 refine (mkRuleS_is _ A0 c0 x.rules hn0 (m) (by omega) (by omega) _ O0).mono ?_
 rintro e w0 ⟨rfl, M0, hg0⟩
 have HG0 := grownL_one hg0; replace O1 := O1.keptN HG0 (fun k hk u hu e => by simp only [List.mem_cons, List.not_mem_nil, or_false] at hu; subst hu; exact d0_1.out k e hk.symm); replace O2 := O2.keptN HG0 (fun k hk u hu e => by simp only [List.mem_cons, List.not_mem_nil, or_false] at hu; subst hu; exact d0_2.out k e hk.symm); replace O3 := O3.keptN HG0 (fun k hk u hu e => by simp only [List.mem_cons, List.not_mem_nil, or_false] at hu; subst hu; exact d0_3.out k e hk.symm)
 replace O4 := O4.keptN HG0 (fun k hk u hu e => by simp only [List.mem_cons, List.not_mem_nil, or_false] at hu; subst hu; exact d0_4.out k e hk.symm); have X : Blk w0 w.heap.size 32 #[.slice A0 x.rules.length c0, .slice A1 x.pend.length c1, .int .i64 x.turns, .int .i64 x.secs, .int .i64 x.spk, .slice A2 x.wait.length c2, .slice A3 x.shares.length c3, .slice A4 x.outs.length c4] := (HG0.block _ (by simp) (fun u hu e => by simp only [List.mem_cons, List.not_mem_nil, or_false] at hu; subst hu; have := l0.out _ e; omega)).trans (Blk.new w 32 #[.slice A0 x.rules.length c0, .slice A1 x.pend.length c1, .int .i64 x.turns, .int .i64 x.secs, .int .i64 x.spk, .slice A2 x.wait.length c2, .slice A3 x.shares.length c3, .slice A4 x.outs.length c4])
 have a1 := (Blk.cell X 1).trans (show _ = some (.slice A1 x.pend.length c1) from rfl); have a2 := (Blk.cell X 2).trans (show _ = some (.int .i64 x.turns) from rfl); have a3 := (Blk.cell X 3).trans (show _ = some (.int .i64 x.secs) from rfl); have a4 := (Blk.cell X 4).trans (show _ = some (.int .i64 x.spk) from rfl); have a5 := (Blk.cell X 5).trans (show _ = some (.slice A2 x.wait.length c2) from rfl)
 have a6 := (Blk.cell X 6).trans (show _ = some (.slice A3 x.shares.length c3) from rfl); have a7 := (Blk.cell X 7).trans (show _ = some (.slice A4 x.outs.length c4) from rfl)
 go_wp2_with fail
 refine (mkQuestionS_is _ A1 c1 x.pend hn1 (m + 7 * (x.rules.length : Int)) (by omega) (by omega) _ O1).mono ?_
 rintro e w1 ⟨rfl, M1, hg1⟩
 have HG1 := grownL_one hg1; replace M0 := M0.keptN HG1 (fun k hk u hu e => by simp only [List.mem_cons, List.not_mem_nil, or_false] at hu; subst hu; exact d0_1.out k hk e.symm); replace O2 := O2.keptN HG1 (fun k hk u hu e => by simp only [List.mem_cons, List.not_mem_nil, or_false] at hu; subst hu; exact d1_2.out k e hk.symm); replace O3 := O3.keptN HG1 (fun k hk u hu e => by simp only [List.mem_cons, List.not_mem_nil, or_false] at hu; subst hu; exact d1_3.out k e hk.symm)
 replace O4 := O4.keptN HG1 (fun k hk u hu e => by simp only [List.mem_cons, List.not_mem_nil, or_false] at hu; subst hu; exact d1_4.out k e hk.symm); replace X := (HG1.block _ (Blk.lt X) (fun u hu e => by simp only [List.mem_cons, List.not_mem_nil, or_false] at hu; subst hu; have := l1.out _ e; omega)).trans X; clear a1 a2 a3 a4 a5 a6 a7; have a2 := (Blk.cell X 2).trans (show _ = some (.int .i64 x.turns) from rfl)
 have a3 := (Blk.cell X 3).trans (show _ = some (.int .i64 x.secs) from rfl); have a4 := (Blk.cell X 4).trans (show _ = some (.int .i64 x.spk) from rfl); have a5 := (Blk.cell X 5).trans (show _ = some (.slice A2 x.wait.length c2) from rfl); have a6 := (Blk.cell X 6).trans (show _ = some (.slice A3 x.shares.length c3) from rfl); have a7 := (Blk.cell X 7).trans (show _ = some (.slice A4 x.outs.length c4) from rfl)
 go_wp2_with fail
 refine (mkFloor_is ⟨x.turns, x.secs, x.spk, x.wait, x.shares⟩ A2 A3 c2 c3 hn2 hn3 (m + 7 * (x.rules.length : Int) + 3 * (x.pend.length : Int)) (by omega) (by omega) _ O2 O3 (apart2 d2_3.out)).mono ?_
 rintro e w2 ⟨rfl, M2, M3, HG2⟩
 replace M0 := M0.keptN HG2 (fun k hk u hu e => by simp only [List.mem_cons, List.not_mem_nil, or_false] at hu; rcases hu with rfl | rfl <;> first | (exact d0_2.out k hk e.symm) | (exact d0_3.out k hk e.symm)); replace M1 := M1.keptN HG2 (fun k hk u hu e => by simp only [List.mem_cons, List.not_mem_nil, or_false] at hu; rcases hu with rfl | rfl <;> first | (exact d1_2.out k hk e.symm) | (exact d1_3.out k hk e.symm))
 replace O4 := O4.keptN HG2 (fun k hk u hu e => by simp only [List.mem_cons, List.not_mem_nil, or_false] at hu; rcases hu with rfl | rfl <;> first | (exact d2_4.out k e hk.symm) | (exact d3_4.out k e hk.symm)); replace X := (HG2.block _ (Blk.lt X) (fun u hu e => by simp only [List.mem_cons, List.not_mem_nil, or_false] at hu; rcases hu with rfl | rfl <;> first | (have := l2.out _ e; omega) | (have := l3.out _ e; omega))).trans X
 clear a2 a3 a4 a5 a6 a7; have a7 := (Blk.cell X 7).trans (show _ = some (.slice A4 x.outs.length c4) from rfl)
 go_wp2_with fail
 refine (mkOutcomeS_is _ A4 c4 x.outs hn4 (m + 7 * (x.rules.length : Int) + 3 * (x.pend.length : Int) + (x.wait.length : Int) + 3 * (x.shares.length : Int)) (by omega) (by omega) _ O4).mono ?_
 rintro e w3 ⟨rfl, M4, hg3⟩
 have HG3 := grownL_one hg3; replace M0 := M0.keptN HG3 (fun k hk u hu e => by simp only [List.mem_cons, List.not_mem_nil, or_false] at hu; subst hu; exact d0_4.out k hk e.symm); replace M1 := M1.keptN HG3 (fun k hk u hu e => by simp only [List.mem_cons, List.not_mem_nil, or_false] at hu; subst hu; exact d1_4.out k hk e.symm); replace M2 := M2.keptN HG3 (fun k hk u hu e => by simp only [List.mem_cons, List.not_mem_nil, or_false] at hu; subst hu; exact d2_4.out k hk e.symm)
 replace M3 := M3.keptN HG3 (fun k hk u hu e => by simp only [List.mem_cons, List.not_mem_nil, or_false] at hu; subst hu; exact d3_4.out k hk e.symm); clear a7
 go_wp2
 go_ret
 exact ⟨rfl, M0, M1, M2, M3, M4, ((((GrownL.of_below (vs := []) (bl1 w (.cells #[.slice A0 x.rules.length c0, .slice A1 x.pend.length c1, .int .i64 x.turns, .int .i64 x.secs, .int .i64 x.spk, .slice A2 x.wait.length c2, .slice A3 x.shares.length c3, .slice A4 x.outs.length c4] 32))).trans HG0).trans HG1).trans HG2).trans HG3⟩
open Go.RowKit Go.G9
theorem hdMeeting_is (x : Mee) (A0 A1 A2 A3 A4 : Option Addr) (c0 c1 c2 c3 c4 : Nat) (hn0 : x.rules.length ≤ 1048576) (hn1 : x.pend.length ≤ 1048576) (hn2 : x.wait.length ≤ 1048576) (hn3 : x.shares.length ≤ 1048576) (hn4 : x.outs.length ≤ 1048576) (m : Int) (h0 : 0 < m) (h1 : m ≤ 9000000) (w : World)
  (R0 : Rds 7 patRule w A0 (mks (m) 7 x.rules.length)) (R1 : Rds 3 patQuestion w A1 (mks (m + 7 * (x.rules.length : Int)) 3 x.pend.length)) (R2 : Rds 1 patInt w A2 (mks (m + 7 * (x.rules.length : Int) + 3 * (x.pend.length : Int)) 1 x.wait.length)) (R3 : Rds 3 patShare w A3 (mks (m + 7 * (x.rules.length : Int) + 3 * (x.pend.length : Int) + (x.wait.length : Int)) 3 x.shares.length)) (R4 : Rds 3 patOutcome w A4 (mks (m + 7 * (x.rules.length : Int) + 3 * (x.pend.length : Int) + (x.wait.length : Int) + 3 * (x.shares.length : Int)) 3 x.outs.length)) :
 Calls Tryz.prog 39 #[.agg #[.slice A0 x.rules.length c0, .slice A1 x.pend.length c1, .int .i64 x.turns, .int .i64 x.secs, .int .i64 x.spk, .slice A2 x.wait.length c2, .slice A3 x.shares.length c3, .slice A4 x.outs.length c4], .int .i64 m] w fun e w' => e = .returned (.int .i64 (m + 7 * (x.rules.length : Int) + 3 * (x.pend.length : Int) + (x.wait.length : Int) + 3 * (x.shares.length : Int) + 3 * (x.outs.length : Int))) ∧ Below w.heap.size w w' := by
 go_enter Tryz.func39, Tryz.ntmps39
 go_wp2_with fail
 refine (hdRuleS_is A0 c0 _ hn0 (m) (by omega) (by omega) _ (R0.below bel)).mono ?_
 rintro e w1 ⟨rfl, hb1⟩
 have hq1 : Below w.heap.size w w1 := bth bel hb1; have z1 := hq1.size; have HB : Below w.heap.size w w1 := hq1; have X1 : Blk w1 (w.heap.size) 32 #[.slice A0 x.rules.length c0, .slice A1 x.pend.length c1, .int .i64 x.turns, .int .i64 x.secs, .int .i64 x.spk, .slice A2 x.wait.length c2, .slice A3 x.shares.length c3, .slice A4 x.outs.length c4] := Blk.below (by repeat (first | exact Blk.new _ _ _ | exact Blk.new2 _ _ _ _ | exact Blk.new3 _ _ _ _ _ | refine Blk.alloc ?_ _)) hb1 (by simp <;> omega)
 have yX1 := X1.lt; have X1_' := X1.cs8
 go_wp2_with fail
 refine (hdQuestionS_is A1 c1 _ hn1 (m + 7 * (x.rules.length : Int)) (by omega) (by omega) _ (R1.below (bth HB bel))).mono ?_
 rintro e w2 ⟨rfl, hb2⟩
 clear X1_'; have hq2 : Below w1.heap.size w1 w2 := bth bel hb2; have z2 := hq2.size; replace HB := bth HB hq2; replace X1 := X1.to hq2; have X1_' := X1.cs8
 go_wp2_with fail
 refine (hdFloor_is ⟨x.turns, x.secs, x.spk, x.wait, x.shares⟩ A2 A3 c2 c3 hn2 hn3 (m + 7 * (x.rules.length : Int) + 3 * (x.pend.length : Int)) (by omega) (by omega) _ (R2.below (bth HB bel)) (R3.below (bth HB bel))).mono ?_
 rintro e w3 ⟨rfl, hb3⟩
 clear X1_'; have hq3 : Below w2.heap.size w2 w3 := bth bel hb3; have z3 := hq3.size; replace HB := bth HB hq3; replace X1 := X1.to hq3; have X1_' := X1.cs8
 go_wp2_with fail
 refine (hdOutcomeS_is A4 c4 _ hn4 (m + 7 * (x.rules.length : Int) + 3 * (x.pend.length : Int) + (x.wait.length : Int) + 3 * (x.shares.length : Int)) (by omega) (by omega) _ (R4.below (bth HB bel))).mono ?_
 rintro e w4 ⟨rfl, hb4⟩
 clear X1_'; have hq4 : Below w3.heap.size w3 w4 := bth bel hb4; have z4 := hq4.size; replace HB := bth HB hq4; replace X1 := X1.to hq4; have X1_' := X1.cs8
 go_wp2
 go_ret
 exact ⟨rfl, bth HB bel⟩
end Go.Proofs.YtjimibkgocieoaaGreat
namespace Go.G9
open Go.RowKit
theorem wpList_appO {P : Program} {w : World} {ops : Array Oper} {rest : List Oper} {o : Oper} {a : Act} {Q : Exit → Act → World → Prop} (hgd : o.guard = none) (s x : Operand) (t : TypeId)
  (ho : o.op = .call { callee := .builtin .append, args := #[s, x], argTypes := #[t, t] })
  (B : Nat) (e : TypeId) (i : TypeInfo) (z : Value) (sz bytes : Nat) (ht : P.underlying t = some (.slice e)) (hi : P.info? e = some i) (hz : i.zero = some z)
  (hsize : i.size = sz) (hby : i.bytes = bytes) (hzs : z.cells.size = sz) (hsz : 0 < sz) {T : Type} (f : T → List Value) (hf : ∀ y, (f y).length = sz) (hone : ∀ y u, u ∈ f y → u.oneCell' = true)
  (g : Nat) (hs : a.eval s = .slice (some ⟨g, 0, none⟩) 0 0) (hg : Blk w g e #[]) (hBg : B ≤ g) (A2 : Option Addr) (c2 : Nat) (ys : List T) (hx : a.eval x = .slice A2 ys.length c2) (hR : Rds sz f w A2 ys) (hA : A2 = none → ys = [] ∧ c2 = 0)
  (h63 : ys.length ≤ maxLen) (hbytes : ys.length * bytes ≤ 140737488355328)
  (h : ∀ g' c' w', OwnV B e sz f w' (.slice (some ⟨g', 0, none⟩) ys.length c') ys → Below w.heap.size w w' → wpList P ops Q rest (a.put o.dst (.slice (some ⟨g', 0, none⟩) ys.length c')) w') : wpList P ops Q (o :: rest) a w := by
 cases A2 with
 | some ad => exact wpList_appE hgd s x t ho B e i z sz bytes ht hi hz hsize hby hzs hsz f hf hone g hs hg hBg ad c2 ys hx hR h63 hbytes (fun g' c' w' h1 h2 _ => h g' c' w' h1 h2)
 | none =>
  obtain ⟨rfl, rfl⟩ := hA rfl
  have hO : OwnV B e sz f w (.slice (some ⟨g, 0, none⟩) 0 0) ([] : List T) := OwnV.ofBlk (xs := []) (cap := 0) hg hBg (Nat.le_refl _) (Nat.zero_le _) (by simp) (fun i x hx => by simp at hx) hf
  exact wpList_append_own_none hgd s x t ho B e i sz ht hi (.slice (some ⟨g, 0, none⟩) 0 0) 0 [] hs hO hx (h g 0 w hO (Below.refl _ _))
end Go.G9
namespace Go.Proofs.YtjimibkgocieoaaGreat
open Go.RowKit Go.G9
theorem rul_len (x : Rul) : (Rul.cells x).length = 7 := rfl
theorem rul_one (x : Rul) : ∀ u, u ∈ Rul.cells x → u.oneCell' = true := by
 intro u hu
 simp only [Rul.cells, List.mem_cons, List.not_mem_nil, or_false] at hu
 rcases hu with rfl | rfl | rfl | rfl | rfl | rfl | rfl <;> rfl
end Go.Proofs.YtjimibkgocieoaaGreat
