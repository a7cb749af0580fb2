/- The rules that a meeting adopted. -/
import Derived.Test.YtkkdegmfmimdgaaNc14
import Derived.Test.YtkkdegmfmimdgaaNc3
import Derived.Test.YtkkdegmfmimdgaaNc2
import Derived.Deep.Cut
namespace Go.Proofs.Ytkkdegmfmimdgaa
open Go.RowKit Go.G9
def ar (os : List Out) : Nat → List Int
  | 0 => []
  | k + 1 => match os[k]? with | some o => if o.ado then ar os k ++ [o.rule] else ar os k | none => ar os k
theorem ar_len (os : List Out) : ∀ k, (ar os k).length ≤ k
  | 0 => Nat.le_refl _
  | k + 1 => by
    have := ar_len os k
    unfold ar
    split
    · split <;> simp <;> omega
    · omega
def arL (m : Mee) : List Int := if meetB m then ar m.outs m.outs.length else []
theorem arL_len (m : Mee) (h : m.outs.length ≤ 1048576) : (arL m).length ≤ 1048576 := by
  unfold arL; split
  · have := ar_len m.outs m.outs.length; omega
  · simp
theorem ar_yes {os : List Out} {k : Nat} {o : Out} (hx : os[k]? = some o) (h : o.ado = true) : ar os (k + 1) = ar os k ++ [o.rule] := by simp [ar, hx, h]
theorem ar_no {os : List Out} {k : Nat} {o : Out} (hx : os[k]? = some o) (h : o.ado = false) : ar os (k + 1) = ar os k := by simp [ar, hx, h]
set_option maxHeartbeats 4000000 in
set_option maxRecDepth 100000 in
theorem iAdoptedRules_is (m : Mee) (A0 A1 A2 A3 A4 : Option Addr) (c0 c1 c2 c3 c4 : Nat) (h0 : m.rules.length ≤ 1048576) (h1 : m.pend.length ≤ 1048576) (h2 : m.wait.length ≤ 1048576) (h3 : m.shares.length ≤ 1048576) (h4 : m.outs.length ≤ 1048576) (w : World) (R0 : Rds 7 Rul.cells w A0 m.rules) (R1 : Rds 3 Que.cells w A1 m.pend) (R2 : Rds 1 intC w A2 m.wait) (R3 : Rds 3 Sha.cells w A3 m.shares) (R4 : Rds 3 Out.cells w A4 m.outs) (k0 : m.rules.length ≤ c0) (k1 : m.pend.length ≤ c1) (k2 : m.wait.length ≤ c2) (k3 : m.shares.length ≤ c3) (k4 : m.outs.length ≤ c4) :
  Calls Try.prog 35 #[.agg #[.slice A0 m.rules.length c0, .slice A1 m.pend.length c1, .int .i64 m.turns, .int .i64 m.secs, .int .i64 m.spk, .slice A2 m.wait.length c2, .slice A3 m.shares.length c3, .slice A4 m.outs.length c4]] w fun e w' => ∃ A c, e = .returned (.tuple #[.slice A (arL m).length c, .bool (meetB m)]) ∧ OwnV w.heap.size 3 1 intC w' (.slice A (arL m).length c) (arL m) ∧ Below w.heap.size w w' := by
  obtain ⟨i0, hi, hz0, hz1, hz2⟩ := info_parts info_int
  cases hb : meetB m
  · have HV := Lib.hid hb
    have hA : arL m = [] := by simp [arL, hb]
    rw [hA]
    clear hb hA
    go_enter Try.func35, Try.ntmps35
    go_upto_region 1 with fail
    have hq1 : Below w.heap.size w (World.alloc w (.cells #[.slice A0 m.rules.length c0, .slice A1 m.pend.length c1, .int .i64 m.turns, .int .i64 m.secs, .int .i64 m.spk, .slice A2 m.wait.length c2, .slice A3 m.shares.length c3, .slice A4 m.outs.length c4] 40)) := bl1 w _
    have hM : Blk (World.alloc w (.cells #[.slice A0 m.rules.length c0, .slice A1 m.pend.length c1, .int .i64 m.turns, .int .i64 m.secs, .int .i64 m.spk, .slice A2 m.wait.length c2, .slice A3 m.shares.length c3, .slice A4 m.outs.length c4] 40)) (w.heap.size) 40 #[.slice A0 m.rules.length c0, .slice A1 m.pend.length c1, .int .i64 m.turns, .int .i64 m.secs, .int .i64 m.spk, .slice A2 m.wait.length c2, .slice A3 m.shares.length c3, .slice A4 m.outs.length c4] := by repeat (first | exact Blk.new _ _ _ | exact Blk.new2 _ _ _ _ | exact Blk.new3 _ _ _ _ _ | exact Blk.new4 _ _ _ _ _ _ | refine Blk.alloc ?_ _)
    replace R0 := R0.below hq1
    replace R1 := R1.below hq1
    replace R2 := R2.below hq1
    replace R3 := R3.below hq1
    replace R4 := R4.below hq1
    generalize World.alloc w (.cells #[.slice A0 m.rules.length c0, .slice A1 m.pend.length c1, .int .i64 m.turns, .int .i64 m.secs, .int .i64 m.spk, .slice A2 m.wait.length c2, .slice A3 m.shares.length c3, .slice A4 m.outs.length c4] 40) = wX at *
    have HB := hq1
    have b0 := (hM.cell 0).trans (show _ = some (.slice A0 m.rules.length c0) from rfl)
    have b1 := (hM.cell 1).trans (show _ = some (.slice A1 m.pend.length c1) from rfl)
    have b2 := (hM.cell 2).trans (show _ = some (.int .i64 m.turns) from rfl)
    have b3 := (hM.cell 3).trans (show _ = some (.int .i64 m.secs) from rfl)
    have b4 := (hM.cell 4).trans (show _ = some (.int .i64 m.spk) from rfl)
    have b5 := (hM.cell 5).trans (show _ = some (.slice A2 m.wait.length c2) from rfl)
    have b6 := (hM.cell 6).trans (show _ = some (.slice A3 m.shares.length c3) from rfl)
    have b7 := (hM.cell 7).trans (show _ = some (.slice A4 m.outs.length c4) from rfl)
    go_wp2_with fail
    refine (iIsValidMeeting_is m A0 A1 A2 A3 A4 c0 c1 c2 c3 c4 h0 h1 h2 h3 h4 _ HV.out _ (R0.below (by repeat (first | exact Below.refl _ _ | refine Below.alloc ?_ (by first | exact Nat.le_refl _ | (simp <;> omega)) _ | refine Below.setCell ?_ (by first | exact Nat.le_refl _ | (simp <;> omega)) _))) (R1.below (by repeat (first | exact Below.refl _ _ | refine Below.alloc ?_ (by first | exact Nat.le_refl _ | (simp <;> omega)) _ | refine Below.setCell ?_ (by first | exact Nat.le_refl _ | (simp <;> omega)) _))) (R2.below (by repeat (first | exact Below.refl _ _ | refine Below.alloc ?_ (by first | exact Nat.le_refl _ | (simp <;> omega)) _ | refine Below.setCell ?_ (by first | exact Nat.le_refl _ | (simp <;> omega)) _))) (R3.below (by repeat (first | exact Below.refl _ _ | refine Below.alloc ?_ (by first | exact Nat.le_refl _ | (simp <;> omega)) _ | refine Below.setCell ?_ (by first | exact Nat.le_refl _ | (simp <;> omega)) _))) (R4.below (by repeat (first | exact Below.refl _ _ | refine Below.alloc ?_ (by first | exact Nat.le_refl _ | (simp <;> omega)) _ | refine Below.setCell ?_ (by first | exact Nat.le_refl _ | (simp <;> omega)) _))) k0 k1 k2 k3 k4).mono ?_
    rintro e w2 ⟨rfl, hb2⟩
    have hq2 : Below wX.heap.size wX w2 := bth (by repeat (first | exact Below.refl _ _ | refine Below.alloc ?_ (by first | exact Nat.le_refl _ | (simp <;> omega)) _ | refine Below.setCell ?_ (by first | exact Nat.le_refl _ | (simp <;> omega)) _)) hb2
    replace HB := bth HB hq2
    replace R0 := R0.below hq2
    replace R1 := R1.below hq2
    replace R2 := R2.below hq2
    replace R3 := R3.below hq2
    replace R4 := R4.below hq2
    replace hM := hM.below hq2 hM.lt
    replace b0 := (hM.cell 0).trans (show _ = some (.slice A0 m.rules.length c0) from rfl)
    replace b1 := (hM.cell 1).trans (show _ = some (.slice A1 m.pend.length c1) from rfl)
    replace b2 := (hM.cell 2).trans (show _ = some (.int .i64 m.turns) from rfl)
    replace b3 := (hM.cell 3).trans (show _ = some (.int .i64 m.secs) from rfl)
    replace b4 := (hM.cell 4).trans (show _ = some (.int .i64 m.spk) from rfl)
    replace b5 := (hM.cell 5).trans (show _ = some (.slice A2 m.wait.length c2) from rfl)
    replace b6 := (hM.cell 6).trans (show _ = some (.slice A3 m.shares.length c3) from rfl)
    replace b7 := (hM.cell 7).trans (show _ = some (.slice A4 m.outs.length c4) from rfl)
    go_wp2
    go_ret2
    exact ⟨none, 0, rfl, OwnV.nil, (bth HB (by repeat (first | exact Below.refl _ _ | refine Below.alloc ?_ (by first | exact Nat.le_refl _ | (simp <;> omega)) _ | refine Below.setCell ?_ (by first | exact Nat.le_refl _ | (simp <;> omega)) _)))⟩
  · have HV := Lib.hid hb
    have hA : arL m = ar m.outs m.outs.length := by simp [arL, hb]
    rw [hA]
    clear hb hA
    go_enter Try.func35, Try.ntmps35
    go_upto_region 1 with fail
    have hq1 : Below w.heap.size w (World.alloc w (.cells #[.slice A0 m.rules.length c0, .slice A1 m.pend.length c1, .int .i64 m.turns, .int .i64 m.secs, .int .i64 m.spk, .slice A2 m.wait.length c2, .slice A3 m.shares.length c3, .slice A4 m.outs.length c4] 40)) := bl1 w _
    have hM : Blk (World.alloc w (.cells #[.slice A0 m.rules.length c0, .slice A1 m.pend.length c1, .int .i64 m.turns, .int .i64 m.secs, .int .i64 m.spk, .slice A2 m.wait.length c2, .slice A3 m.shares.length c3, .slice A4 m.outs.length c4] 40)) (w.heap.size) 40 #[.slice A0 m.rules.length c0, .slice A1 m.pend.length c1, .int .i64 m.turns, .int .i64 m.secs, .int .i64 m.spk, .slice A2 m.wait.length c2, .slice A3 m.shares.length c3, .slice A4 m.outs.length c4] := by repeat (first | exact Blk.new _ _ _ | exact Blk.new2 _ _ _ _ | exact Blk.new3 _ _ _ _ _ | exact Blk.new4 _ _ _ _ _ _ | refine Blk.alloc ?_ _)
    replace R0 := R0.below hq1
    replace R1 := R1.below hq1
    replace R2 := R2.below hq1
    replace R3 := R3.below hq1
    replace R4 := R4.below hq1
    generalize World.alloc w (.cells #[.slice A0 m.rules.length c0, .slice A1 m.pend.length c1, .int .i64 m.turns, .int .i64 m.secs, .int .i64 m.spk, .slice A2 m.wait.length c2, .slice A3 m.shares.length c3, .slice A4 m.outs.length c4] 40) = wX at *
    have HB := hq1
    have b0 := (hM.cell 0).trans (show _ = some (.slice A0 m.rules.length c0) from rfl)
    have b1 := (hM.cell 1).trans (show _ = some (.slice A1 m.pend.length c1) from rfl)
    have b2 := (hM.cell 2).trans (show _ = some (.int .i64 m.turns) from rfl)
    have b3 := (hM.cell 3).trans (show _ = some (.int .i64 m.secs) from rfl)
    have b4 := (hM.cell 4).trans (show _ = some (.int .i64 m.spk) from rfl)
    have b5 := (hM.cell 5).trans (show _ = some (.slice A2 m.wait.length c2) from rfl)
    have b6 := (hM.cell 6).trans (show _ = some (.slice A3 m.shares.length c3) from rfl)
    have b7 := (hM.cell 7).trans (show _ = some (.slice A4 m.outs.length c4) from rfl)
    go_wp2_with fail
    refine (iIsValidMeeting_is m A0 A1 A2 A3 A4 c0 c1 c2 c3 c4 h0 h1 h2 h3 h4 _ HV.out _ (R0.below (by repeat (first | exact Below.refl _ _ | refine Below.alloc ?_ (by first | exact Nat.le_refl _ | (simp <;> omega)) _ | refine Below.setCell ?_ (by first | exact Nat.le_refl _ | (simp <;> omega)) _))) (R1.below (by repeat (first | exact Below.refl _ _ | refine Below.alloc ?_ (by first | exact Nat.le_refl _ | (simp <;> omega)) _ | refine Below.setCell ?_ (by first | exact Nat.le_refl _ | (simp <;> omega)) _))) (R2.below (by repeat (first | exact Below.refl _ _ | refine Below.alloc ?_ (by first | exact Nat.le_refl _ | (simp <;> omega)) _ | refine Below.setCell ?_ (by first | exact Nat.le_refl _ | (simp <;> omega)) _))) (R3.below (by repeat (first | exact Below.refl _ _ | refine Below.alloc ?_ (by first | exact Nat.le_refl _ | (simp <;> omega)) _ | refine Below.setCell ?_ (by first | exact Nat.le_refl _ | (simp <;> omega)) _))) (R4.below (by repeat (first | exact Below.refl _ _ | refine Below.alloc ?_ (by first | exact Nat.le_refl _ | (simp <;> omega)) _ | refine Below.setCell ?_ (by first | exact Nat.le_refl _ | (simp <;> omega)) _))) k0 k1 k2 k3 k4).mono ?_
    rintro e w2 ⟨rfl, hb2⟩
    have hq2 : Below wX.heap.size wX w2 := bth (by repeat (first | exact Below.refl _ _ | refine Below.alloc ?_ (by first | exact Nat.le_refl _ | (simp <;> omega)) _ | refine Below.setCell ?_ (by first | exact Nat.le_refl _ | (simp <;> omega)) _)) hb2
    replace HB := bth HB hq2
    replace R0 := R0.below hq2
    replace R1 := R1.below hq2
    replace R2 := R2.below hq2
    replace R3 := R3.below hq2
    replace R4 := R4.below hq2
    replace hM := hM.below hq2 hM.lt
    replace b0 := (hM.cell 0).trans (show _ = some (.slice A0 m.rules.length c0) from rfl)
    replace b1 := (hM.cell 1).trans (show _ = some (.slice A1 m.pend.length c1) from rfl)
    replace b2 := (hM.cell 2).trans (show _ = some (.int .i64 m.turns) from rfl)
    replace b3 := (hM.cell 3).trans (show _ = some (.int .i64 m.secs) from rfl)
    replace b4 := (hM.cell 4).trans (show _ = some (.int .i64 m.spk) from rfl)
    replace b5 := (hM.cell 5).trans (show _ = some (.slice A2 m.wait.length c2) from rfl)
    replace b6 := (hM.cell 6).trans (show _ = some (.slice A3 m.shares.length c3) from rfl)
    replace b7 := (hM.cell 7).trans (show _ = some (.slice A4 m.outs.length c4) from rfl)
    have hO0 := OwnV.made (f := intC) (sz := 1) w2 (B := w2.heap.size) (Nat.le_refl _) 3
    have hBs := HB.size
    have yhM := hM.lt
    go_wp2
    clear b0 b1 b2 b3 b4 b5 b6 b7
    go_loopw [4, 14] (fun y i wr => ∃ k : Nat, k ≤ m.outs.length ∧ i = .int .i64 k ∧ OwnV w2.heap.size 3 1 intC wr y (ar m.outs k) ∧ Below w2.heap.size w2 wr) (fun _ i _ => m.outs.length - (intOf i).toNat)
    case atStart => exact ⟨0, Nat.zero_le _, rfl, hO0, bl1 _ _⟩
    case round =>
      obtain ⟨k, hk, rfl, hO, hb⟩ := hrel
      by_cases hlt : k < m.outs.length
      · obtain ⟨bq, oq, x, rfl, hbl, hx, hcx⟩ := R4.at_ hb hlt
        obtain ⟨xr, xm, xa⟩ := x
        have p0 := hcx 0 _ rfl
        have p1 := hcx 1 _ rfl
        have p2 := hcx 2 _ rfl
        simp only [Nat.add_zero] at p0
        have g0 := p0 (Kin.self _)
        have g1 := p1 (Kin.self _)
        have g2 := p2 (Kin.self _)
        simp only [Kin.self] at g0
        simp only [Kin.self] at g1
        simp only [Kin.self] at g2
        have HX := Lib.hid hx; clear hx hcx p0 p1 p2
        go_upto_region 7 with fail
        have hOv := hO.alloc (.cells #[.int .i64 xr, .int .i64 xm, .bool xa] 81)
        have hB := Blk.new wr 81 #[.int .i64 xr, .int .i64 xm, .bool xa]
        have hbv := hb.alloc hb.size (.cells #[.int .i64 xr, .int .i64 xm, .bool xa] 81)
        generalize wr.alloc (.cells #[.int .i64 xr, .int .i64 xm, .bool xa] 81) = wv at *
        clear g0 g1 g2 hO
        have x0 := (hB.cell 0).trans (show _ = some (.int .i64 xr) from rfl)
        have x2 := (hB.cell 2).trans (show _ = some (.bool xa) from rfl)
        have hBl := hB.lt
        cases xa
        · have ha := ar_no HX.out rfl
          have HA := Lib.hid ha; clear ha
          go_wp2
          go_roundw
          case rel => exact ⟨k + 1, by omega, by go_num, by rw [HA.out]; exact hOv, hbv⟩
          case measure => simp [intOf]; omega
        · have ha := ar_yes HX.out rfl
          have HA := Lib.hid ha; clear ha
          go_wp2_with ((at_builtin; refine wpList_app1 rfl _ _ 24 rfl w2.heap.size 3 i0 _ 1 8 Try.underlying24 hi hz0 hz1 hz2 rfl (by decide) intC intC_len intC_one _ (ar m.outs k) rfl (hOv.alloc _) ⟨wv.heap.size, 0, none⟩ 1 xr rfl (Rds.one _ _) (by have := ar_len m.outs k; unfold maxLen; omega) (by have := ar_len m.outs k; omega) (by have := hbv.size; simp; omega) ?_; intro v4 w4 hO4 hg4 ha4))
          have hrs : Below w2.heap.size w2 w4 := (hbv.alloc hbv.size _).grown hg4 (by have := hbv.size; simp; omega) (fun q hq => (hOv.lt q hq).1)
          go_roundw
          case rel => exact ⟨k + 1, by omega, by go_num, by rw [HA.out]; exact hO4, hrs⟩
          case measure => simp [intOf]; omega
      · obtain rfl : k = m.outs.length := by omega
        obtain ⟨Y, yc, rfl, _, _, _⟩ := hO.form intC_len
        go_wp2
        go_ret2
        exact ⟨Y, yc, rfl, hO.base hBs, bth HB hb⟩
set_option maxHeartbeats 4000000 in
set_option maxRecDepth 100000 in
theorem sAdoptedRules_is (m : Mee) (A0 A1 A2 A3 A4 : Option Addr) (c0 c1 c2 c3 c4 : Nat) (h0 : m.rules.length ≤ 1048576) (h1 : m.pend.length ≤ 1048576) (h2 : m.wait.length ≤ 1048576) (h3 : m.shares.length ≤ 1048576) (h4 : m.outs.length ≤ 1048576) (w : World) (R0 : Rds 7 Rul.cells w A0 m.rules) (R1 : Rds 3 Que.cells w A1 m.pend) (R2 : Rds 1 intC w A2 m.wait) (R3 : Rds 3 Sha.cells w A3 m.shares) (R4 : Rds 3 Out.cells w A4 m.outs) (k0 : m.rules.length ≤ c0) (k1 : m.pend.length ≤ c1) (k2 : m.wait.length ≤ c2) (k3 : m.shares.length ≤ c3) (k4 : m.outs.length ≤ c4) :
  Calls Try.prog 34 #[.agg #[.slice A0 m.rules.length c0, .slice A1 m.pend.length c1, .int .i64 m.turns, .int .i64 m.secs, .int .i64 m.spk, .slice A2 m.wait.length c2, .slice A3 m.shares.length c3, .slice A4 m.outs.length c4]] w fun e w' => ∃ A c, e = .returned (.tuple #[.slice A (arL m).length c, .bool (meetB m)]) ∧ OwnV w.heap.size 3 1 intC w' (.slice A (arL m).length c) (arL m) ∧ Below w.heap.size w w' := by
  obtain ⟨i0, hi, hz0, hz1, hz2⟩ := info_parts info_int
  cases hb : meetB m
  · have HV := Lib.hid hb
    have hA : arL m = [] := by simp [arL, hb]
    rw [hA]
    clear hb hA
    go_enter Try.func34, Try.ntmps34
    go_upto_region 1 with fail
    have hq1 : Below w.heap.size w (World.alloc w (.cells #[.slice A0 m.rules.length c0, .slice A1 m.pend.length c1, .int .i64 m.turns, .int .i64 m.secs, .int .i64 m.spk, .slice A2 m.wait.length c2, .slice A3 m.shares.length c3, .slice A4 m.outs.length c4] 40)) := bl1 w _
    have hM : Blk (World.alloc w (.cells #[.slice A0 m.rules.length c0, .slice A1 m.pend.length c1, .int .i64 m.turns, .int .i64 m.secs, .int .i64 m.spk, .slice A2 m.wait.length c2, .slice A3 m.shares.length c3, .slice A4 m.outs.length c4] 40)) (w.heap.size) 40 #[.slice A0 m.rules.length c0, .slice A1 m.pend.length c1, .int .i64 m.turns, .int .i64 m.secs, .int .i64 m.spk, .slice A2 m.wait.length c2, .slice A3 m.shares.length c3, .slice A4 m.outs.length c4] := by repeat (first | exact Blk.new _ _ _ | exact Blk.new2 _ _ _ _ | exact Blk.new3 _ _ _ _ _ | exact Blk.new4 _ _ _ _ _ _ | refine Blk.alloc ?_ _)
    replace R0 := R0.below hq1
    replace R1 := R1.below hq1
    replace R2 := R2.below hq1
    replace R3 := R3.below hq1
    replace R4 := R4.below hq1
    generalize World.alloc w (.cells #[.slice A0 m.rules.length c0, .slice A1 m.pend.length c1, .int .i64 m.turns, .int .i64 m.secs, .int .i64 m.spk, .slice A2 m.wait.length c2, .slice A3 m.shares.length c3, .slice A4 m.outs.length c4] 40) = wX at *
    have HB := hq1
    have b0 := (hM.cell 0).trans (show _ = some (.slice A0 m.rules.length c0) from rfl)
    have b1 := (hM.cell 1).trans (show _ = some (.slice A1 m.pend.length c1) from rfl)
    have b2 := (hM.cell 2).trans (show _ = some (.int .i64 m.turns) from rfl)
    have b3 := (hM.cell 3).trans (show _ = some (.int .i64 m.secs) from rfl)
    have b4 := (hM.cell 4).trans (show _ = some (.int .i64 m.spk) from rfl)
    have b5 := (hM.cell 5).trans (show _ = some (.slice A2 m.wait.length c2) from rfl)
    have b6 := (hM.cell 6).trans (show _ = some (.slice A3 m.shares.length c3) from rfl)
    have b7 := (hM.cell 7).trans (show _ = some (.slice A4 m.outs.length c4) from rfl)
    go_upto_region 2 with fail
    have hO := OwnV.made (f := intC) (sz := 1) wX (B := wX.heap.size) (Nat.le_refl _) 3
    have HM := Lib.hid hM
    have S4 := Lib.hid R4
    have HBX := Lib.hid HB
    have hXs := HB.size
    have hE : Below wX.heap.size wX (wX.alloc (.cells #[] 3)) := bl1 _ _
    generalize hWE : wX.alloc (.cells #[] 3) = wE at *
    have hO' := Lib.hid hO
    clear hO
    have hq2 : Below wX.heap.size wX wE := bth (by repeat (first | exact Below.refl _ _ | refine Below.alloc ?_ (by first | exact Nat.le_refl _ | (simp <;> omega)) _ | refine Below.setCell ?_ (by first | exact Nat.le_refl _ | (simp <;> omega)) _)) hE
    replace HB := bth HB hq2
    replace R0 := R0.below hq2
    replace R1 := R1.below hq2
    replace R2 := R2.below hq2
    replace R3 := R3.below hq2
    replace R4 := R4.below hq2
    replace hM := hM.below hq2 hM.lt
    replace b0 := (hM.cell 0).trans (show _ = some (.slice A0 m.rules.length c0) from rfl)
    replace b1 := (hM.cell 1).trans (show _ = some (.slice A1 m.pend.length c1) from rfl)
    replace b2 := (hM.cell 2).trans (show _ = some (.int .i64 m.turns) from rfl)
    replace b3 := (hM.cell 3).trans (show _ = some (.int .i64 m.secs) from rfl)
    replace b4 := (hM.cell 4).trans (show _ = some (.int .i64 m.spk) from rfl)
    replace b5 := (hM.cell 5).trans (show _ = some (.slice A2 m.wait.length c2) from rfl)
    replace b6 := (hM.cell 6).trans (show _ = some (.slice A3 m.shares.length c3) from rfl)
    replace b7 := (hM.cell 7).trans (show _ = some (.slice A4 m.outs.length c4) from rfl)
    go_wp2_with fail
    refine (l25Good_is m A0 A1 A2 A3 A4 c0 c1 c2 c3 c4 h0 h1 h2 h3 h4 _ HV.out _ (R0.below (by repeat (first | exact Below.refl _ _ | refine Below.alloc ?_ (by first | exact Nat.le_refl _ | (simp <;> omega)) _ | refine Below.setCell ?_ (by first | exact Nat.le_refl _ | (simp <;> omega)) _))) (R1.below (by repeat (first | exact Below.refl _ _ | refine Below.alloc ?_ (by first | exact Nat.le_refl _ | (simp <;> omega)) _ | refine Below.setCell ?_ (by first | exact Nat.le_refl _ | (simp <;> omega)) _))) (R2.below (by repeat (first | exact Below.refl _ _ | refine Below.alloc ?_ (by first | exact Nat.le_refl _ | (simp <;> omega)) _ | refine Below.setCell ?_ (by first | exact Nat.le_refl _ | (simp <;> omega)) _))) (R3.below (by repeat (first | exact Below.refl _ _ | refine Below.alloc ?_ (by first | exact Nat.le_refl _ | (simp <;> omega)) _ | refine Below.setCell ?_ (by first | exact Nat.le_refl _ | (simp <;> omega)) _))) (R4.below (by repeat (first | exact Below.refl _ _ | refine Below.alloc ?_ (by first | exact Nat.le_refl _ | (simp <;> omega)) _ | refine Below.setCell ?_ (by first | exact Nat.le_refl _ | (simp <;> omega)) _))) k0 k1 k2 k3 k4).mono ?_
    rintro e w3 ⟨rfl, hb3⟩
    have hq3 : Below wE.heap.size wE w3 := bth (by repeat (first | exact Below.refl _ _ | refine Below.alloc ?_ (by first | exact Nat.le_refl _ | (simp <;> omega)) _ | refine Below.setCell ?_ (by first | exact Nat.le_refl _ | (simp <;> omega)) _)) hb3
    replace HB := bth HB hq3
    replace R0 := R0.below hq3
    replace R1 := R1.below hq3
    replace R2 := R2.below hq3
    replace R3 := R3.below hq3
    replace R4 := R4.below hq3
    replace hM := hM.below hq3 hM.lt
    replace b0 := (hM.cell 0).trans (show _ = some (.slice A0 m.rules.length c0) from rfl)
    replace b1 := (hM.cell 1).trans (show _ = some (.slice A1 m.pend.length c1) from rfl)
    replace b2 := (hM.cell 2).trans (show _ = some (.int .i64 m.turns) from rfl)
    replace b3 := (hM.cell 3).trans (show _ = some (.int .i64 m.secs) from rfl)
    replace b4 := (hM.cell 4).trans (show _ = some (.int .i64 m.spk) from rfl)
    replace b5 := (hM.cell 5).trans (show _ = some (.slice A2 m.wait.length c2) from rfl)
    replace b6 := (hM.cell 6).trans (show _ = some (.slice A3 m.shares.length c3) from rfl)
    replace b7 := (hM.cell 7).trans (show _ = some (.slice A4 m.outs.length c4) from rfl)
    have hO := hO'.out.later hq3
    go_wp2
    go_ret2
    exact ⟨_, 0, rfl, hO.base hXs, (bth HB (by repeat (first | exact Below.refl _ _ | refine Below.alloc ?_ (by first | exact Nat.le_refl _ | (simp <;> omega)) _ | refine Below.setCell ?_ (by first | exact Nat.le_refl _ | (simp <;> omega)) _)))⟩
  · have HV := Lib.hid hb
    have hA : arL m = ar m.outs m.outs.length := by simp [arL, hb]
    rw [hA]
    clear hb hA
    go_enter Try.func34, Try.ntmps34
    go_upto_region 1 with fail
    have hq1 : Below w.heap.size w (World.alloc w (.cells #[.slice A0 m.rules.length c0, .slice A1 m.pend.length c1, .int .i64 m.turns, .int .i64 m.secs, .int .i64 m.spk, .slice A2 m.wait.length c2, .slice A3 m.shares.length c3, .slice A4 m.outs.length c4] 40)) := bl1 w _
    have hM : Blk (World.alloc w (.cells #[.slice A0 m.rules.length c0, .slice A1 m.pend.length c1, .int .i64 m.turns, .int .i64 m.secs, .int .i64 m.spk, .slice A2 m.wait.length c2, .slice A3 m.shares.length c3, .slice A4 m.outs.length c4] 40)) (w.heap.size) 40 #[.slice A0 m.rules.length c0, .slice A1 m.pend.length c1, .int .i64 m.turns, .int .i64 m.secs, .int .i64 m.spk, .slice A2 m.wait.length c2, .slice A3 m.shares.length c3, .slice A4 m.outs.length c4] := by repeat (first | exact Blk.new _ _ _ | exact Blk.new2 _ _ _ _ | exact Blk.new3 _ _ _ _ _ | exact Blk.new4 _ _ _ _ _ _ | refine Blk.alloc ?_ _)
    replace R0 := R0.below hq1
    replace R1 := R1.below hq1
    replace R2 := R2.below hq1
    replace R3 := R3.below hq1
    replace R4 := R4.below hq1
    generalize World.alloc w (.cells #[.slice A0 m.rules.length c0, .slice A1 m.pend.length c1, .int .i64 m.turns, .int .i64 m.secs, .int .i64 m.spk, .slice A2 m.wait.length c2, .slice A3 m.shares.length c3, .slice A4 m.outs.length c4] 40) = wX at *
    have HB := hq1
    have b0 := (hM.cell 0).trans (show _ = some (.slice A0 m.rules.length c0) from rfl)
    have b1 := (hM.cell 1).trans (show _ = some (.slice A1 m.pend.length c1) from rfl)
    have b2 := (hM.cell 2).trans (show _ = some (.int .i64 m.turns) from rfl)
    have b3 := (hM.cell 3).trans (show _ = some (.int .i64 m.secs) from rfl)
    have b4 := (hM.cell 4).trans (show _ = some (.int .i64 m.spk) from rfl)
    have b5 := (hM.cell 5).trans (show _ = some (.slice A2 m.wait.length c2) from rfl)
    have b6 := (hM.cell 6).trans (show _ = some (.slice A3 m.shares.length c3) from rfl)
    have b7 := (hM.cell 7).trans (show _ = some (.slice A4 m.outs.length c4) from rfl)
    go_upto_region 2 with fail
    have hO := OwnV.made (f := intC) (sz := 1) wX (B := wX.heap.size) (Nat.le_refl _) 3
    have HM := Lib.hid hM
    have S4 := Lib.hid R4
    have HBX := Lib.hid HB
    have hXs := HB.size
    have hE : Below wX.heap.size wX (wX.alloc (.cells #[] 3)) := bl1 _ _
    generalize hWE : wX.alloc (.cells #[] 3) = wE at *
    have hO' := Lib.hid hO
    clear hO
    have hq2 : Below wX.heap.size wX wE := bth (by repeat (first | exact Below.refl _ _ | refine Below.alloc ?_ (by first | exact Nat.le_refl _ | (simp <;> omega)) _ | refine Below.setCell ?_ (by first | exact Nat.le_refl _ | (simp <;> omega)) _)) hE
    replace HB := bth HB hq2
    replace R0 := R0.below hq2
    replace R1 := R1.below hq2
    replace R2 := R2.below hq2
    replace R3 := R3.below hq2
    replace R4 := R4.below hq2
    replace hM := hM.below hq2 hM.lt
    replace b0 := (hM.cell 0).trans (show _ = some (.slice A0 m.rules.length c0) from rfl)
    replace b1 := (hM.cell 1).trans (show _ = some (.slice A1 m.pend.length c1) from rfl)
    replace b2 := (hM.cell 2).trans (show _ = some (.int .i64 m.turns) from rfl)
    replace b3 := (hM.cell 3).trans (show _ = some (.int .i64 m.secs) from rfl)
    replace b4 := (hM.cell 4).trans (show _ = some (.int .i64 m.spk) from rfl)
    replace b5 := (hM.cell 5).trans (show _ = some (.slice A2 m.wait.length c2) from rfl)
    replace b6 := (hM.cell 6).trans (show _ = some (.slice A3 m.shares.length c3) from rfl)
    replace b7 := (hM.cell 7).trans (show _ = some (.slice A4 m.outs.length c4) from rfl)
    go_wp2_with fail
    refine (l25Good_is m A0 A1 A2 A3 A4 c0 c1 c2 c3 c4 h0 h1 h2 h3 h4 _ HV.out _ (R0.below (by repeat (first | exact Below.refl _ _ | refine Below.alloc ?_ (by first | exact Nat.le_refl _ | (simp <;> omega)) _ | refine Below.setCell ?_ (by first | exact Nat.le_refl _ | (simp <;> omega)) _))) (R1.below (by repeat (first | exact Below.refl _ _ | refine Below.alloc ?_ (by first | exact Nat.le_refl _ | (simp <;> omega)) _ | refine Below.setCell ?_ (by first | exact Nat.le_refl _ | (simp <;> omega)) _))) (R2.below (by repeat (first | exact Below.refl _ _ | refine Below.alloc ?_ (by first | exact Nat.le_refl _ | (simp <;> omega)) _ | refine Below.setCell ?_ (by first | exact Nat.le_refl _ | (simp <;> omega)) _))) (R3.below (by repeat (first | exact Below.refl _ _ | refine Below.alloc ?_ (by first | exact Nat.le_refl _ | (simp <;> omega)) _ | refine Below.setCell ?_ (by first | exact Nat.le_refl _ | (simp <;> omega)) _))) (R4.below (by repeat (first | exact Below.refl _ _ | refine Below.alloc ?_ (by first | exact Nat.le_refl _ | (simp <;> omega)) _ | refine Below.setCell ?_ (by first | exact Nat.le_refl _ | (simp <;> omega)) _))) k0 k1 k2 k3 k4).mono ?_
    rintro e w3 ⟨rfl, hb3⟩
    have hq3 : Below wE.heap.size wE w3 := bth (by repeat (first | exact Below.refl _ _ | refine Below.alloc ?_ (by first | exact Nat.le_refl _ | (simp <;> omega)) _ | refine Below.setCell ?_ (by first | exact Nat.le_refl _ | (simp <;> omega)) _)) hb3
    replace HB := bth HB hq3
    replace R0 := R0.below hq3
    replace R1 := R1.below hq3
    replace R2 := R2.below hq3
    replace R3 := R3.below hq3
    replace R4 := R4.below hq3
    replace hM := hM.below hq3 hM.lt
    replace b0 := (hM.cell 0).trans (show _ = some (.slice A0 m.rules.length c0) from rfl)
    replace b1 := (hM.cell 1).trans (show _ = some (.slice A1 m.pend.length c1) from rfl)
    replace b2 := (hM.cell 2).trans (show _ = some (.int .i64 m.turns) from rfl)
    replace b3 := (hM.cell 3).trans (show _ = some (.int .i64 m.secs) from rfl)
    replace b4 := (hM.cell 4).trans (show _ = some (.int .i64 m.spk) from rfl)
    replace b5 := (hM.cell 5).trans (show _ = some (.slice A2 m.wait.length c2) from rfl)
    replace b6 := (hM.cell 6).trans (show _ = some (.slice A3 m.shares.length c3) from rfl)
    replace b7 := (hM.cell 7).trans (show _ = some (.slice A4 m.outs.length c4) from rfl)
    have hO := hO'.out.later hq3
    have hE3 := bth hE hq3
    go_wp2
    clear b0 b1 b2 b3 b4 b5 b6 b7 hM R0 R1 R2 R3 R4 HB
    go_loopw [4, 5] (fun y i wr => ∃ k : Nat, k ≤ m.outs.length ∧ i = .int .i64 k ∧ OwnV wX.heap.size 3 1 intC wr y (ar m.outs k) ∧ Below wX.heap.size wX wr) (fun _ i _ => m.outs.length - (intOf i).toNat)
    case atStart => exact ⟨0, Nat.zero_le _, rfl, hO, hE3⟩
    case round =>
      clear hO
      obtain ⟨k, hk, rfl, hO, hb⟩ := hrel
      have hM := HM.out.below hb HM.out.lt
      have hMl := hM.lt
      by_cases hlt : k < m.outs.length
      · obtain ⟨bq, oq, x, hAe, hbl, hx, hcx⟩ := S4.out.at_ hb hlt
        obtain ⟨xr, xm, xa⟩ := x
        have b7 := (hM.cell 7).trans (show _ = some (.slice A4 m.outs.length c4) from rfl)
        subst hAe
        have p0 := hcx 0 _ rfl
        have p1 := hcx 1 _ rfl
        have p2 := hcx 2 _ rfl
        simp only [Nat.add_zero] at p0
        have g0 := p0 (Kin.self _)
        have g1 := p1 (Kin.self _)
        have g2 := p2 (Kin.self _)
        simp only [Kin.self] at g0
        simp only [Kin.self] at g1
        simp only [Kin.self] at g2
        have HX := Lib.hid hx; clear hx hcx p0 p1 p2
        cases xa
        · have ha := ar_no HX.out rfl
          have HA := Lib.hid ha; clear ha
          go_wp2
          go_roundw
          case rel => exact ⟨k + 1, by omega, by go_num, by rw [HA.out]; exact hO, hb⟩
          case measure => simp [intOf]; omega
        · have ha := ar_yes HX.out rfl
          have HA := Lib.hid ha; clear ha
          have hOv := hO
          have hbv := hb
          go_wp2_with ((at_builtin; refine wpList_app1 rfl _ _ 24 rfl wX.heap.size 3 i0 _ 1 8 Try.underlying24 hi hz0 hz1 hz2 rfl (by decide) intC intC_len intC_one _ (ar m.outs k) rfl (hOv.alloc _) ⟨wr.heap.size, 0, none⟩ 1 xr rfl (Rds.one _ _) (by have := ar_len m.outs k; unfold maxLen; omega) (by have := ar_len m.outs k; omega) (by have := hbv.size; simp; omega) ?_; intro v4 w4 hO4 hg4 ha4))
          have hrs : Below wX.heap.size wX w4 := (hbv.alloc hbv.size _).grown hg4 (by have := hbv.size; simp; omega) (fun q hq => (hOv.lt q hq).1)
          go_roundw
          case rel => exact ⟨k + 1, by omega, by go_num, by rw [HA.out]; exact hO4, hrs⟩
          case measure => simp [intOf]; omega
      · obtain rfl : k = m.outs.length := by omega
        obtain ⟨Y, yc, rfl, _, _, _⟩ := hO.form intC_len
        have b7 := (hM.cell 7).trans (show _ = some (.slice A4 m.outs.length c4) from rfl)
        go_wp2
        go_ret2
        exact ⟨Y, yc, rfl, hO.base hXs, bth HBX.out hb⟩
end Go.Proofs.Ytkkdegmfmimdgaa
