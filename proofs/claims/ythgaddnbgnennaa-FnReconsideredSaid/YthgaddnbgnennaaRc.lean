/- The law of reconsidered questions. -/
import Derived.Test.YthgaddnbgnennaaCurT
import Derived.Test.YthgaddnbgnennaaRe
import Derived.Test.YthgaddnbgnennaaAbI
import Derived.Test.YthgaddnbgnennaaAbS
import Derived.Test.YthgaddnbgnennaaDec5
import Derived.Test.YthgaddnbgnennaaRdU
import Derived.Deep.Cut
namespace Go.Proofs.Ythgaddnbgnennaa
open Go.RowKit Go.G9
theorem rBigR_is (A : Option Addr) (c n : Nat) (v : Bool) (hv : decide (65536 < n) = v) (w : World) : Calls Try.prog 42 #[.slice A n c] w fun e w' => e = .returned (.bool v) ∧ w' = w := by
  subst hv
  go_enter Try.func42, Try.ntmps42
  go_wp2
  go_ret
  exact ⟨by first | rfl | (congr 2; simp; omega) | (refine ret_bool ?_; simp; omega), rfl⟩
set_option maxHeartbeats 1000000 in
theorem rInts_is (A A' : Option Addr) (c c' : Nat) (xs : List Int) (hn : xs.length ≤ 1048576) (w : World) (hR : Rds 1 intC w A xs) (hR' : Rds 1 intC w A' xs) :
  Calls Try.prog 48 #[.slice A xs.length c, .slice A' xs.length c'] w fun e w' => e = .returned (.bool true) ∧ Below w.heap.size w w' := by
  go_enter Try.func48, Try.ntmps48
  go_wp2
  go_loopw [5] (fun i wr => ∃ (k : Nat), k ≤ xs.length ∧ i = .int .i64 k ∧ Below w.heap.size w wr) (fun i _ => xs.length - (intOf i).toNat)
  case atStart => exact ⟨0, Nat.zero_le _, rfl, Below.refl _ _⟩
  case round =>
    obtain ⟨k, hk, rfl, hb⟩ := hrel
    by_cases hlt : k < xs.length
    · obtain ⟨b, off, x, rfl, hbl, hx, hcx⟩ := hR.at_ hb hlt
      obtain ⟨b', off', x', rfl, _, hx', hcx'⟩ := hR'.at_ hb hlt
      obtain rfl : x = x' := Option.some.inj (hx.symm.trans hx')
      have f0 := hcx 0 _ rfl
      have e0 := hcx' 0 _ rfl
      simp only [Nat.mul_one, Nat.add_zero] at f0 e0
      clear hx hcx hx' hcx'
      go_wp2
      refine wp_region_kin (by kernel_rfl) (by kernel_rfl) ?_
      repeat (go_big_quiet_step ((fail)))
      refine wpQuiet_nil ?_
      intro K
      go_wp2
      go_roundw
      case rel => exact ⟨k + 1, by omega, by go_num, bth hb K.below⟩
      case measure => simp [intOf]; omega
    · go_wp2
      go_ret
      exact ⟨rfl, hb⟩
set_option maxHeartbeats 1000000 in
theorem rHas_is (A : Option Addr) (c : Nat) (xs : List Int) (n : Int) (hn : xs.length ≤ 1048576) (v : Bool) (hv : hasB xs n = v) (w : World) (hR : Rds 1 intC w A xs) :
  Calls Try.prog 49 #[.slice A xs.length c, .int .i64 n] w fun e w' => e = .returned (.bool v) ∧ w' = w := by
  subst hv
  go_enter Try.func49, Try.ntmps49
  go_wp2
  go_loop [5] (fun i => ∃ k : Nat, k ≤ xs.length ∧ i = .int .i64 k ∧ allTo (fun i => !atB (fun x => x == n) xs i) k = true) (fun i => xs.length - (intOf i).toNat)
  case atStart => exact ⟨0, Nat.zero_le _, rfl, rfl⟩
  case round =>
    obtain ⟨k, hk, rfl, hl⟩ := hrel
    have HL := Lib.hid hl; clear hl
    by_cases hlt : k < xs.length
    · obtain ⟨b, off, x, rfl, hbl, hx, hcx⟩ := hR.at_ (Below.refl _ _) hlt
      have g0 := hcx 0 _ rfl (Kin.self _)
      simp only [Nat.mul_one, Nat.add_zero, Kin.self] at g0
      have HX := Lib.hid hx; clear hx hcx
      by_cases he : x = n
      · have he' : (x == n) = true := beq_iff_eq.2 he
        have HE := Lib.hid he; clear he
        go_wp2
        go_ret
        exact ⟨ret_bool (hasB_yes HX.out HE.out).symm, rfl⟩
      · have he' : (x == n) = false := beq_eq_false_iff_ne.2 he
        go_wp2
        go_round
        case rel => exact ⟨k + 1, by omega, by go_num, allTo_go HL.out (by simp [atB, HX.out, he])⟩
        case measure => simp [intOf]; omega
    · obtain rfl : k = xs.length := by omega
      go_wp2
      go_ret
      exact ⟨ret_bool (hasB_no HL.out).symm, rfl⟩
set_option maxHeartbeats 2000000 in
theorem rDecided_is (d : Dec) (Y N Y' N' : Option Addr) (yc nc yc' nc' : Nat) (hy : d.yes.length ≤ 1048576) (hn : d.no.length ≤ 1048576) (w : World) (hRy : Rds 1 intC w Y d.yes) (hRn : Rds 1 intC w N d.no) (hRy' : Rds 1 intC w Y' d.yes) (hRn' : Rds 1 intC w N' d.no) :
  Calls Try.prog 44 #[.agg #[.int .i64 d.id, .int .i64 d.day, .int .i64 d.need, .slice Y d.yes.length yc, .slice N d.no.length nc, .bool d.done], .agg #[.int .i64 d.id, .int .i64 d.day, .int .i64 d.need, .slice Y' d.yes.length yc', .slice N' d.no.length nc', .bool d.done]] w fun e w' => e = .returned (.bool true) ∧ Below w.heap.size w w' := by
  obtain ⟨id, day, need, ys, ns, dn⟩ := d
  go_enter Try.func44, Try.ntmps44
  go_wp2_with fail
  refine (rInts_is Y Y' yc yc' ys hy _ (hRy.below (bl2 _ _ _)) (hRy'.below (bl2 _ _ _))).mono ?_
  rintro e w1 ⟨rfl, hb1⟩
  have hA := ((Blk.new w _ #[.int .i64 id, .int .i64 day, .int .i64 need, .slice Y ys.length yc, .slice N ns.length nc, .bool dn]).alloc _).below hb1 (by simp <;> omega)
  have hB := (Blk.new (w.alloc _) _ #[.int .i64 id, .int .i64 day, .int .i64 need, .slice Y' ys.length yc', .slice N' ns.length nc', .bool dn]).below hb1 (by simp)
  have a4 := hA.cell 4
  have b4 := hB.cell 4
  simp at a4 b4
  go_wp2_with fail
  refine (rInts_is N N' nc nc' ns hn _ (hRn.below (bth (bl2 _ _ _) hb1)) (hRn'.below (bth (bl2 _ _ _) hb1))).mono ?_
  rintro e w2 ⟨rfl, hb2⟩
  go_wp2
  go_ret
  exact ⟨rfl, bth (bl2 _ _ _) (bth hb1 hb2)⟩
theorem reD_ok {d : Dec} {es fs : List Int} (h : reOk d es fs = true) : reOk (reD d es fs) es fs = false ∧ decB (reD d es fs) = true := by
  have h2 : reD d es fs = ⟨d.id, d.day, d.need, es, fs, true⟩ := by unfold reD; rw [h]; rfl
  rw [h2]
  unfold reOk decB at h
  simp only [Bool.and_eq_true, Bool.not_eq_true'] at h
  refine ⟨?_, ?_⟩
  · unfold reOk; simp
  · unfold decB
    simp only [Bool.and_eq_true]
    exact ⟨h.1.1, h.1.2.1, h.1.2.2.1, h.2.2⟩
theorem cmL_len' (d : Dec) (es fs : List Int) : (cmL d es fs).length ≤ 99 := by
  unfold cmL; split
  · exact mems_len _ _
  · simp
theorem cm_fact' {d : Dec} {ys ns : List Int} {x : Int} (hx : x ∈ cmL d ys ns) : hasB d.yes x = hasB ns x ∧ hasB d.no x = hasB ys x ∧ hasB (abL d ys ns) x = false := by
  cases h : cmOk d ys ns
  · unfold cmL at hx; rw [h] at hx; simp at hx
  · exact cm_fact h hx
set_option maxHeartbeats 8000000 in
set_option maxRecDepth 100000 in
theorem law_reconsidered (A : Option Addr) (c : Nat) (cs : List UInt8) (w : World) (hR : Rds 1 u8C w A cs) :
  Calls Try.prog 10 #[.slice A cs.length c] w fun e w' => e = .returned (.bool true) ∧ Below w.heap.size w w' := by
  cases hv : decide (65536 < cs.length)
  case true =>
    go_enter Try.func10, Try.ntmps10
    go_wp2_with fail
    refine (rBigR_is A c cs.length _ hv _).mono ?_
    rintro e _ ⟨rfl, rfl⟩
    go_wp2
    go_ret
    exact ⟨rfl, (by repeat (first | exact Below.refl _ _ | refine Below.alloc ?_ (by first | exact Nat.le_refl _ | (simp <;> omega)) _ | refine Below.setCell ?_ (by first | exact Nat.le_refl _ | (simp <;> omega)) _))⟩
  have hcs : cs.length ≤ 1048576 := by have := of_decide_eq_false hv; omega
  go_enter Try.func10, Try.ntmps10
  go_wp2_with fail
  refine (rBigR_is A c cs.length _ hv _).mono ?_
  rintro e w0 ⟨rfl, h0⟩
  rw [h0]
  clear h0 w0
  go_wp2_with fail
  refine (drawReconsider_is A c cs hcs _ (hR.below (by repeat (first | exact Below.refl _ _ | refine Below.alloc ?_ (by first | exact Nat.le_refl _ | (simp <;> omega)) _ | refine Below.setCell ?_ (by first | exact Nat.le_refl _ | (simp <;> omega)) _)))).mono ?_
  rintro e w1 ⟨d, Y, N', yc, nc, es, fs, E, ec, F, fc, rfl, hly, hln, hle, hlf, hYs, hNs, hEs, hFs, hb1⟩
  have hq1 : Below w.heap.size w w1 := bth (by repeat (first | exact Below.refl _ _ | refine Below.alloc ?_ (by first | exact Nat.le_refl _ | (simp <;> omega)) _ | refine Below.setCell ?_ (by first | exact Nat.le_refl _ | (simp <;> omega)) _)) hb1
  have HB : Below w.heap.size w w1 := hq1
  replace hR := hR.below hq1
  have RY := hYs.rds
  have RN := hNs.rds
  have RE := hEs.rds
  have RF := hFs.rds
  have hYn := Lib.hid hYs.nil
  have hNn := Lib.hid hNs.nil
  have hEn := Lib.hid hEs.nil
  have hFn := Lib.hid hFs.nil
  clear hYs hNs hEs hFs
  have hy : d.yes.length ≤ 1048576 := by omega
  have hn : d.no.length ≤ 1048576 := by omega
  have he : es.length ≤ 1048576 := by omega
  have hf : fs.length ≤ 1048576 := by omega
  have h2y := reD_yes d es fs he
  have h2n := reD_no d es fs hf
  go_wp2_with fail
  refine (iReconsider_is d Y N' yc nc hy hn E ec es he F fc fs hf _ (RY.below (by repeat (first | exact Below.refl _ _ | refine Below.alloc ?_ (by first | exact Nat.le_refl _ | (simp <;> omega)) _ | refine Below.setCell ?_ (by first | exact Nat.le_refl _ | (simp <;> omega)) _))) (RN.below (by repeat (first | exact Below.refl _ _ | refine Below.alloc ?_ (by first | exact Nat.le_refl _ | (simp <;> omega)) _ | refine Below.setCell ?_ (by first | exact Nat.le_refl _ | (simp <;> omega)) _))) (RE.below (by repeat (first | exact Below.refl _ _ | refine Below.alloc ?_ (by first | exact Nat.le_refl _ | (simp <;> omega)) _ | refine Below.setCell ?_ (by first | exact Nat.le_refl _ | (simp <;> omega)) _))) (RF.below (by repeat (first | exact Below.refl _ _ | refine Below.alloc ?_ (by first | exact Nat.le_refl _ | (simp <;> omega)) _ | refine Below.setCell ?_ (by first | exact Nat.le_refl _ | (simp <;> omega)) _))) hYn.out hNn.out hEn.out hFn.out).mono ?_
  rintro e w2 ⟨Y2, yc2, N2, nc2, rfl, O2, O3, _, hb2⟩
  have hq2 : Below w1.heap.size w1 w2 := bth (by repeat (first | exact Below.refl _ _ | refine Below.alloc ?_ (by first | exact Nat.le_refl _ | (simp <;> omega)) _ | refine Below.setCell ?_ (by first | exact Nat.le_refl _ | (simp <;> omega)) _)) hb2
  replace HB := bth HB hq2
  replace hR := hR.below hq2
  replace RY := RY.below hq2
  replace RN := RN.below hq2
  replace RE := RE.below hq2
  replace RF := RF.below hq2
  have hD : Blk w2 (w1.heap.size) 28 #[.int .i64 d.id, .int .i64 d.day, .int .i64 d.need, .slice Y d.yes.length yc, .slice N' d.no.length nc, .bool d.done] := Blk.below (by repeat (first | exact Blk.new _ _ _ | exact Blk.new2 _ _ _ _ | exact Blk.new3 _ _ _ _ _ | exact Blk.new4 _ _ _ _ _ _ | refine Blk.alloc ?_ _)) hb2 (by simp <;> omega)
  have b0 := (hD.cell 0).trans (show _ = some (.int .i64 d.id) from rfl)
  have b1 := (hD.cell 1).trans (show _ = some (.int .i64 d.day) from rfl)
  have b2 := (hD.cell 2).trans (show _ = some (.int .i64 d.need) from rfl)
  have b3 := (hD.cell 3).trans (show _ = some (.slice Y d.yes.length yc) from rfl)
  have b4 := (hD.cell 4).trans (show _ = some (.slice N' d.no.length nc) from rfl)
  have b5 := (hD.cell 5).trans (show _ = some (.bool d.done) from rfl)
  have Q2 := O2.rds (hf := intC_len)
  have Q3 := O3.rds (hf := intC_len)
  have hn2 := Lib.hid O2.nilOk
  have hn3 := Lib.hid O3.nilOk
  clear O2 O3
  have yhD := hD.lt
  go_wp2_with fail
  refine (sReconsider_is d Y N' yc nc hy hn E ec es he F fc fs hf _ (RY.below (by repeat (first | exact Below.refl _ _ | refine Below.alloc ?_ (by first | exact Nat.le_refl _ | (simp <;> omega)) _ | refine Below.setCell ?_ (by first | exact Nat.le_refl _ | (simp <;> omega)) _))) (RN.below (by repeat (first | exact Below.refl _ _ | refine Below.alloc ?_ (by first | exact Nat.le_refl _ | (simp <;> omega)) _ | refine Below.setCell ?_ (by first | exact Nat.le_refl _ | (simp <;> omega)) _))) (RE.below (by repeat (first | exact Below.refl _ _ | refine Below.alloc ?_ (by first | exact Nat.le_refl _ | (simp <;> omega)) _ | refine Below.setCell ?_ (by first | exact Nat.le_refl _ | (simp <;> omega)) _))) (RF.below (by repeat (first | exact Below.refl _ _ | refine Below.alloc ?_ (by first | exact Nat.le_refl _ | (simp <;> omega)) _ | refine Below.setCell ?_ (by first | exact Nat.le_refl _ | (simp <;> omega)) _))) hYn.out hNn.out hEn.out hFn.out).mono ?_
  rintro e w3 ⟨Y3, yc3, N3, nc3, rfl, O4, O5, _, hb3⟩
  have hq3 : Below w2.heap.size w2 w3 := bth (by repeat (first | exact Below.refl _ _ | refine Below.alloc ?_ (by first | exact Nat.le_refl _ | (simp <;> omega)) _ | refine Below.setCell ?_ (by first | exact Nat.le_refl _ | (simp <;> omega)) _)) hb3
  replace HB := bth HB hq3
  replace hR := hR.below hq3
  replace RY := RY.below hq3
  replace RN := RN.below hq3
  replace RE := RE.below hq3
  replace RF := RF.below hq3
  replace Q2 := Q2.below hq3
  replace Q3 := Q3.below hq3
  replace hD := hD.below hq3 hD.lt
  replace b0 := (hD.cell 0).trans (show _ = some (.int .i64 d.id) from rfl)
  replace b1 := (hD.cell 1).trans (show _ = some (.int .i64 d.day) from rfl)
  replace b2 := (hD.cell 2).trans (show _ = some (.int .i64 d.need) from rfl)
  replace b3 := (hD.cell 3).trans (show _ = some (.slice Y d.yes.length yc) from rfl)
  replace b4 := (hD.cell 4).trans (show _ = some (.slice N' d.no.length nc) from rfl)
  replace b5 := (hD.cell 5).trans (show _ = some (.bool d.done) from rfl)
  have hX : Blk w3 (w2.heap.size) 28 #[.int .i64 (reD d es fs).id, .int .i64 (reD d es fs).day, .int .i64 (reD d es fs).need, .slice Y2 (reD d es fs).yes.length yc2, .slice N2 (reD d es fs).no.length nc2, .bool (reD d es fs).done] := Blk.below (by repeat (first | exact Blk.new _ _ _ | exact Blk.new2 _ _ _ _ | exact Blk.new3 _ _ _ _ _ | exact Blk.new4 _ _ _ _ _ _ | refine Blk.alloc ?_ _)) hb3 (by simp <;> omega)
  have x0 := (hX.cell 0).trans (show _ = some (.int .i64 (reD d es fs).id) from rfl)
  have x1 := (hX.cell 1).trans (show _ = some (.int .i64 (reD d es fs).day) from rfl)
  have x2 := (hX.cell 2).trans (show _ = some (.int .i64 (reD d es fs).need) from rfl)
  have x3 := (hX.cell 3).trans (show _ = some (.slice Y2 (reD d es fs).yes.length yc2) from rfl)
  have x4 := (hX.cell 4).trans (show _ = some (.slice N2 (reD d es fs).no.length nc2) from rfl)
  have x5 := (hX.cell 5).trans (show _ = some (.bool (reD d es fs).done) from rfl)
  have Q4 := O4.rds (hf := intC_len)
  have Q5 := O5.rds (hf := intC_len)
  clear O4 O5
  have yhD := hD.lt
  have yhX := hX.lt
  go_wp2_with fail
  refine (rDecided_is (reD d es fs) Y2 N2 Y3 N3 yc2 nc2 yc3 nc3 h2y h2n _ (Q2.below (by repeat (first | exact Below.refl _ _ | refine Below.alloc ?_ (by first | exact Nat.le_refl _ | (simp <;> omega)) _ | refine Below.setCell ?_ (by first | exact Nat.le_refl _ | (simp <;> omega)) _))) (Q3.below (by repeat (first | exact Below.refl _ _ | refine Below.alloc ?_ (by first | exact Nat.le_refl _ | (simp <;> omega)) _ | refine Below.setCell ?_ (by first | exact Nat.le_refl _ | (simp <;> omega)) _))) (Q4.below (by repeat (first | exact Below.refl _ _ | refine Below.alloc ?_ (by first | exact Nat.le_refl _ | (simp <;> omega)) _ | refine Below.setCell ?_ (by first | exact Nat.le_refl _ | (simp <;> omega)) _))) (Q5.below (by repeat (first | exact Below.refl _ _ | refine Below.alloc ?_ (by first | exact Nat.le_refl _ | (simp <;> omega)) _ | refine Below.setCell ?_ (by first | exact Nat.le_refl _ | (simp <;> omega)) _)))).mono ?_
  rintro e w4 ⟨rfl, hb4⟩
  have hq4 : Below w3.heap.size w3 w4 := bth (by repeat (first | exact Below.refl _ _ | refine Below.alloc ?_ (by first | exact Nat.le_refl _ | (simp <;> omega)) _ | refine Below.setCell ?_ (by first | exact Nat.le_refl _ | (simp <;> omega)) _)) hb4
  replace HB := bth HB hq4
  replace hR := hR.below hq4
  replace RY := RY.below hq4
  replace RN := RN.below hq4
  replace RE := RE.below hq4
  replace RF := RF.below hq4
  replace Q2 := Q2.below hq4
  replace Q3 := Q3.below hq4
  replace Q4 := Q4.below hq4
  replace Q5 := Q5.below hq4
  replace hD := hD.below hq4 hD.lt
  replace b0 := (hD.cell 0).trans (show _ = some (.int .i64 d.id) from rfl)
  replace b1 := (hD.cell 1).trans (show _ = some (.int .i64 d.day) from rfl)
  replace b2 := (hD.cell 2).trans (show _ = some (.int .i64 d.need) from rfl)
  replace b3 := (hD.cell 3).trans (show _ = some (.slice Y d.yes.length yc) from rfl)
  replace b4 := (hD.cell 4).trans (show _ = some (.slice N' d.no.length nc) from rfl)
  replace b5 := (hD.cell 5).trans (show _ = some (.bool d.done) from rfl)
  replace hX := hX.below hq4 hX.lt
  replace x0 := (hX.cell 0).trans (show _ = some (.int .i64 (reD d es fs).id) from rfl)
  replace x1 := (hX.cell 1).trans (show _ = some (.int .i64 (reD d es fs).day) from rfl)
  replace x2 := (hX.cell 2).trans (show _ = some (.int .i64 (reD d es fs).need) from rfl)
  replace x3 := (hX.cell 3).trans (show _ = some (.slice Y2 (reD d es fs).yes.length yc2) from rfl)
  replace x4 := (hX.cell 4).trans (show _ = some (.slice N2 (reD d es fs).no.length nc2) from rfl)
  replace x5 := (hX.cell 5).trans (show _ = some (.bool (reD d es fs).done) from rfl)
  clear Q4 Q5
  have yhD := hD.lt
  have yhX := hX.lt
  cases hok : reOk d es fs
  · skip
    clear Q2 Q3
    have yhD := hD.lt
    have yhX := hX.lt
    go_wp2_with fail
    refine (changedMinds_is d Y N' yc nc hy hn E F ec fc es fs he hf _ (RY.below (by repeat (first | exact Below.refl _ _ | refine Below.alloc ?_ (by first | exact Nat.le_refl _ | (simp <;> omega)) _ | refine Below.setCell ?_ (by first | exact Nat.le_refl _ | (simp <;> omega)) _))) (RN.below (by repeat (first | exact Below.refl _ _ | refine Below.alloc ?_ (by first | exact Nat.le_refl _ | (simp <;> omega)) _ | refine Below.setCell ?_ (by first | exact Nat.le_refl _ | (simp <;> omega)) _))) (RE.below (by repeat (first | exact Below.refl _ _ | refine Below.alloc ?_ (by first | exact Nat.le_refl _ | (simp <;> omega)) _ | refine Below.setCell ?_ (by first | exact Nat.le_refl _ | (simp <;> omega)) _))) (RF.below (by repeat (first | exact Below.refl _ _ | refine Below.alloc ?_ (by first | exact Nat.le_refl _ | (simp <;> omega)) _ | refine Below.setCell ?_ (by first | exact Nat.le_refl _ | (simp <;> omega)) _)))).mono ?_
    rintro e w5 ⟨A7, c7, rfl, O7, hb5⟩
    have hq5 : Below w4.heap.size w4 w5 := bth (by repeat (first | exact Below.refl _ _ | refine Below.alloc ?_ (by first | exact Nat.le_refl _ | (simp <;> omega)) _ | refine Below.setCell ?_ (by first | exact Nat.le_refl _ | (simp <;> omega)) _)) hb5
    replace HB := bth HB hq5
    replace hR := hR.below hq5
    replace RY := RY.below hq5
    replace RN := RN.below hq5
    replace RE := RE.below hq5
    replace RF := RF.below hq5
    replace hD := hD.below hq5 hD.lt
    replace b0 := (hD.cell 0).trans (show _ = some (.int .i64 d.id) from rfl)
    replace b1 := (hD.cell 1).trans (show _ = some (.int .i64 d.day) from rfl)
    replace b2 := (hD.cell 2).trans (show _ = some (.int .i64 d.need) from rfl)
    replace b3 := (hD.cell 3).trans (show _ = some (.slice Y d.yes.length yc) from rfl)
    replace b4 := (hD.cell 4).trans (show _ = some (.slice N' d.no.length nc) from rfl)
    replace b5 := (hD.cell 5).trans (show _ = some (.bool d.done) from rfl)
    replace hX := hX.below hq5 hX.lt
    replace x0 := (hX.cell 0).trans (show _ = some (.int .i64 (reD d es fs).id) from rfl)
    replace x1 := (hX.cell 1).trans (show _ = some (.int .i64 (reD d es fs).day) from rfl)
    replace x2 := (hX.cell 2).trans (show _ = some (.int .i64 (reD d es fs).need) from rfl)
    replace x3 := (hX.cell 3).trans (show _ = some (.slice Y2 (reD d es fs).yes.length yc2) from rfl)
    replace x4 := (hX.cell 4).trans (show _ = some (.slice N2 (reD d es fs).no.length nc2) from rfl)
    replace x5 := (hX.cell 5).trans (show _ = some (.bool (reD d es fs).done) from rfl)
    have Q7 := O7.rds (hf := intC_len)
    clear O7
    have yhD := hD.lt
    have yhX := hX.lt
    go_wp2_with fail
    refine (iAbsent_is d Y N' yc nc hy hn E F ec fc es fs he hf _ (RY.below (by repeat (first | exact Below.refl _ _ | refine Below.alloc ?_ (by first | exact Nat.le_refl _ | (simp <;> omega)) _ | refine Below.setCell ?_ (by first | exact Nat.le_refl _ | (simp <;> omega)) _))) (RN.below (by repeat (first | exact Below.refl _ _ | refine Below.alloc ?_ (by first | exact Nat.le_refl _ | (simp <;> omega)) _ | refine Below.setCell ?_ (by first | exact Nat.le_refl _ | (simp <;> omega)) _))) (RE.below (by repeat (first | exact Below.refl _ _ | refine Below.alloc ?_ (by first | exact Nat.le_refl _ | (simp <;> omega)) _ | refine Below.setCell ?_ (by first | exact Nat.le_refl _ | (simp <;> omega)) _))) (RF.below (by repeat (first | exact Below.refl _ _ | refine Below.alloc ?_ (by first | exact Nat.le_refl _ | (simp <;> omega)) _ | refine Below.setCell ?_ (by first | exact Nat.le_refl _ | (simp <;> omega)) _))) hEn.out hFn.out).mono ?_
    rintro e w6 ⟨A8, c8, rfl, O8, hb6⟩
    have hq6 : Below w5.heap.size w5 w6 := bth (by repeat (first | exact Below.refl _ _ | refine Below.alloc ?_ (by first | exact Nat.le_refl _ | (simp <;> omega)) _ | refine Below.setCell ?_ (by first | exact Nat.le_refl _ | (simp <;> omega)) _)) hb6
    replace HB := bth HB hq6
    replace hR := hR.below hq6
    replace RY := RY.below hq6
    replace RN := RN.below hq6
    replace RE := RE.below hq6
    replace RF := RF.below hq6
    replace Q7 := Q7.below hq6
    replace hD := hD.below hq6 hD.lt
    replace b0 := (hD.cell 0).trans (show _ = some (.int .i64 d.id) from rfl)
    replace b1 := (hD.cell 1).trans (show _ = some (.int .i64 d.day) from rfl)
    replace b2 := (hD.cell 2).trans (show _ = some (.int .i64 d.need) from rfl)
    replace b3 := (hD.cell 3).trans (show _ = some (.slice Y d.yes.length yc) from rfl)
    replace b4 := (hD.cell 4).trans (show _ = some (.slice N' d.no.length nc) from rfl)
    replace b5 := (hD.cell 5).trans (show _ = some (.bool d.done) from rfl)
    replace hX := hX.below hq6 hX.lt
    replace x0 := (hX.cell 0).trans (show _ = some (.int .i64 (reD d es fs).id) from rfl)
    replace x1 := (hX.cell 1).trans (show _ = some (.int .i64 (reD d es fs).day) from rfl)
    replace x2 := (hX.cell 2).trans (show _ = some (.int .i64 (reD d es fs).need) from rfl)
    replace x3 := (hX.cell 3).trans (show _ = some (.slice Y2 (reD d es fs).yes.length yc2) from rfl)
    replace x4 := (hX.cell 4).trans (show _ = some (.slice N2 (reD d es fs).no.length nc2) from rfl)
    replace x5 := (hX.cell 5).trans (show _ = some (.bool (reD d es fs).done) from rfl)
    have Q8 := O8.rds (hf := intC_len)
    clear O8
    have yhD := hD.lt
    have yhX := hX.lt
    go_wp2_with fail
    refine (sChangedMinds_is d Y N' yc nc hy hn E F ec fc es fs he hf _ (RY.below (by repeat (first | exact Below.refl _ _ | refine Below.alloc ?_ (by first | exact Nat.le_refl _ | (simp <;> omega)) _ | refine Below.setCell ?_ (by first | exact Nat.le_refl _ | (simp <;> omega)) _))) (RN.below (by repeat (first | exact Below.refl _ _ | refine Below.alloc ?_ (by first | exact Nat.le_refl _ | (simp <;> omega)) _ | refine Below.setCell ?_ (by first | exact Nat.le_refl _ | (simp <;> omega)) _))) (RE.below (by repeat (first | exact Below.refl _ _ | refine Below.alloc ?_ (by first | exact Nat.le_refl _ | (simp <;> omega)) _ | refine Below.setCell ?_ (by first | exact Nat.le_refl _ | (simp <;> omega)) _))) (RF.below (by repeat (first | exact Below.refl _ _ | refine Below.alloc ?_ (by first | exact Nat.le_refl _ | (simp <;> omega)) _ | refine Below.setCell ?_ (by first | exact Nat.le_refl _ | (simp <;> omega)) _)))).mono ?_
    rintro e w7 ⟨A9, c9, rfl, O9, hb7⟩
    have hq7 : Below w6.heap.size w6 w7 := bth (by repeat (first | exact Below.refl _ _ | refine Below.alloc ?_ (by first | exact Nat.le_refl _ | (simp <;> omega)) _ | refine Below.setCell ?_ (by first | exact Nat.le_refl _ | (simp <;> omega)) _)) hb7
    replace HB := bth HB hq7
    replace hR := hR.below hq7
    replace RY := RY.below hq7
    replace RN := RN.below hq7
    replace RE := RE.below hq7
    replace RF := RF.below hq7
    replace Q7 := Q7.below hq7
    replace Q8 := Q8.below hq7
    replace hD := hD.below hq7 hD.lt
    replace b0 := (hD.cell 0).trans (show _ = some (.int .i64 d.id) from rfl)
    replace b1 := (hD.cell 1).trans (show _ = some (.int .i64 d.day) from rfl)
    replace b2 := (hD.cell 2).trans (show _ = some (.int .i64 d.need) from rfl)
    replace b3 := (hD.cell 3).trans (show _ = some (.slice Y d.yes.length yc) from rfl)
    replace b4 := (hD.cell 4).trans (show _ = some (.slice N' d.no.length nc) from rfl)
    replace b5 := (hD.cell 5).trans (show _ = some (.bool d.done) from rfl)
    replace hX := hX.below hq7 hX.lt
    replace x0 := (hX.cell 0).trans (show _ = some (.int .i64 (reD d es fs).id) from rfl)
    replace x1 := (hX.cell 1).trans (show _ = some (.int .i64 (reD d es fs).day) from rfl)
    replace x2 := (hX.cell 2).trans (show _ = some (.int .i64 (reD d es fs).need) from rfl)
    replace x3 := (hX.cell 3).trans (show _ = some (.slice Y2 (reD d es fs).yes.length yc2) from rfl)
    replace x4 := (hX.cell 4).trans (show _ = some (.slice N2 (reD d es fs).no.length nc2) from rfl)
    replace x5 := (hX.cell 5).trans (show _ = some (.bool (reD d es fs).done) from rfl)
    have Q9 := O9.rds (hf := intC_len)
    clear O9
    have hlc := cmL_len' d es fs
    have hla := abL_len d es fs
    have yhD := hD.lt
    have yhX := hX.lt
    go_wp2_with fail
    refine (rInts_is A7 A9 c7 c9 (cmL d es fs) (by omega) _ (Q7.below (by repeat (first | exact Below.refl _ _ | refine Below.alloc ?_ (by first | exact Nat.le_refl _ | (simp <;> omega)) _ | refine Below.setCell ?_ (by first | exact Nat.le_refl _ | (simp <;> omega)) _))) (Q9.below (by repeat (first | exact Below.refl _ _ | refine Below.alloc ?_ (by first | exact Nat.le_refl _ | (simp <;> omega)) _ | refine Below.setCell ?_ (by first | exact Nat.le_refl _ | (simp <;> omega)) _)))).mono ?_
    rintro e w8 ⟨rfl, hb8⟩
    have hq8 : Below w7.heap.size w7 w8 := bth (by repeat (first | exact Below.refl _ _ | refine Below.alloc ?_ (by first | exact Nat.le_refl _ | (simp <;> omega)) _ | refine Below.setCell ?_ (by first | exact Nat.le_refl _ | (simp <;> omega)) _)) hb8
    replace HB := bth HB hq8
    replace hR := hR.below hq8
    replace RY := RY.below hq8
    replace RN := RN.below hq8
    replace RE := RE.below hq8
    replace RF := RF.below hq8
    replace Q7 := Q7.below hq8
    replace Q8 := Q8.below hq8
    replace Q9 := Q9.below hq8
    replace hD := hD.below hq8 hD.lt
    replace b0 := (hD.cell 0).trans (show _ = some (.int .i64 d.id) from rfl)
    replace b1 := (hD.cell 1).trans (show _ = some (.int .i64 d.day) from rfl)
    replace b2 := (hD.cell 2).trans (show _ = some (.int .i64 d.need) from rfl)
    replace b3 := (hD.cell 3).trans (show _ = some (.slice Y d.yes.length yc) from rfl)
    replace b4 := (hD.cell 4).trans (show _ = some (.slice N' d.no.length nc) from rfl)
    replace b5 := (hD.cell 5).trans (show _ = some (.bool d.done) from rfl)
    replace hX := hX.below hq8 hX.lt
    replace x0 := (hX.cell 0).trans (show _ = some (.int .i64 (reD d es fs).id) from rfl)
    replace x1 := (hX.cell 1).trans (show _ = some (.int .i64 (reD d es fs).day) from rfl)
    replace x2 := (hX.cell 2).trans (show _ = some (.int .i64 (reD d es fs).need) from rfl)
    replace x3 := (hX.cell 3).trans (show _ = some (.slice Y2 (reD d es fs).yes.length yc2) from rfl)
    replace x4 := (hX.cell 4).trans (show _ = some (.slice N2 (reD d es fs).no.length nc2) from rfl)
    replace x5 := (hX.cell 5).trans (show _ = some (.bool (reD d es fs).done) from rfl)
    clear Q9
    have yhD := hD.lt
    have yhX := hX.lt
    go_wp2_with fail
    refine (sAbsent_is d Y N' yc nc hy hn E F ec fc es fs he hf _ (RY.below (by repeat (first | exact Below.refl _ _ | refine Below.alloc ?_ (by first | exact Nat.le_refl _ | (simp <;> omega)) _ | refine Below.setCell ?_ (by first | exact Nat.le_refl _ | (simp <;> omega)) _))) (RN.below (by repeat (first | exact Below.refl _ _ | refine Below.alloc ?_ (by first | exact Nat.le_refl _ | (simp <;> omega)) _ | refine Below.setCell ?_ (by first | exact Nat.le_refl _ | (simp <;> omega)) _))) (RE.below (by repeat (first | exact Below.refl _ _ | refine Below.alloc ?_ (by first | exact Nat.le_refl _ | (simp <;> omega)) _ | refine Below.setCell ?_ (by first | exact Nat.le_refl _ | (simp <;> omega)) _))) (RF.below (by repeat (first | exact Below.refl _ _ | refine Below.alloc ?_ (by first | exact Nat.le_refl _ | (simp <;> omega)) _ | refine Below.setCell ?_ (by first | exact Nat.le_refl _ | (simp <;> omega)) _)))).mono ?_
    rintro e w9 ⟨A10, c10, rfl, O10, hb9⟩
    have hq9 : Below w8.heap.size w8 w9 := bth (by repeat (first | exact Below.refl _ _ | refine Below.alloc ?_ (by first | exact Nat.le_refl _ | (simp <;> omega)) _ | refine Below.setCell ?_ (by first | exact Nat.le_refl _ | (simp <;> omega)) _)) hb9
    replace HB := bth HB hq9
    replace hR := hR.below hq9
    replace RY := RY.below hq9
    replace RN := RN.below hq9
    replace RE := RE.below hq9
    replace RF := RF.below hq9
    replace Q7 := Q7.below hq9
    replace Q8 := Q8.below hq9
    replace hD := hD.below hq9 hD.lt
    replace b0 := (hD.cell 0).trans (show _ = some (.int .i64 d.id) from rfl)
    replace b1 := (hD.cell 1).trans (show _ = some (.int .i64 d.day) from rfl)
    replace b2 := (hD.cell 2).trans (show _ = some (.int .i64 d.need) from rfl)
    replace b3 := (hD.cell 3).trans (show _ = some (.slice Y d.yes.length yc) from rfl)
    replace b4 := (hD.cell 4).trans (show _ = some (.slice N' d.no.length nc) from rfl)
    replace b5 := (hD.cell 5).trans (show _ = some (.bool d.done) from rfl)
    replace hX := hX.below hq9 hX.lt
    replace x0 := (hX.cell 0).trans (show _ = some (.int .i64 (reD d es fs).id) from rfl)
    replace x1 := (hX.cell 1).trans (show _ = some (.int .i64 (reD d es fs).day) from rfl)
    replace x2 := (hX.cell 2).trans (show _ = some (.int .i64 (reD d es fs).need) from rfl)
    replace x3 := (hX.cell 3).trans (show _ = some (.slice Y2 (reD d es fs).yes.length yc2) from rfl)
    replace x4 := (hX.cell 4).trans (show _ = some (.slice N2 (reD d es fs).no.length nc2) from rfl)
    replace x5 := (hX.cell 5).trans (show _ = some (.bool (reD d es fs).done) from rfl)
    have Q10 := O10.rds (hf := intC_len)
    clear O10
    have yhD := hD.lt
    have yhX := hX.lt
    go_wp2_with fail
    refine (rInts_is A8 A10 c8 c10 (abL d es fs) (by omega) _ (Q8.below (by repeat (first | exact Below.refl _ _ | refine Below.alloc ?_ (by first | exact Nat.le_refl _ | (simp <;> omega)) _ | refine Below.setCell ?_ (by first | exact Nat.le_refl _ | (simp <;> omega)) _))) (Q10.below (by repeat (first | exact Below.refl _ _ | refine Below.alloc ?_ (by first | exact Nat.le_refl _ | (simp <;> omega)) _ | refine Below.setCell ?_ (by first | exact Nat.le_refl _ | (simp <;> omega)) _)))).mono ?_
    rintro e w10 ⟨rfl, hb10⟩
    have hq10 : Below w9.heap.size w9 w10 := bth (by repeat (first | exact Below.refl _ _ | refine Below.alloc ?_ (by first | exact Nat.le_refl _ | (simp <;> omega)) _ | refine Below.setCell ?_ (by first | exact Nat.le_refl _ | (simp <;> omega)) _)) hb10
    replace HB := bth HB hq10
    replace hR := hR.below hq10
    replace RY := RY.below hq10
    replace RN := RN.below hq10
    replace RE := RE.below hq10
    replace RF := RF.below hq10
    replace Q7 := Q7.below hq10
    replace Q8 := Q8.below hq10
    replace Q10 := Q10.below hq10
    replace hD := hD.below hq10 hD.lt
    replace b0 := (hD.cell 0).trans (show _ = some (.int .i64 d.id) from rfl)
    replace b1 := (hD.cell 1).trans (show _ = some (.int .i64 d.day) from rfl)
    replace b2 := (hD.cell 2).trans (show _ = some (.int .i64 d.need) from rfl)
    replace b3 := (hD.cell 3).trans (show _ = some (.slice Y d.yes.length yc) from rfl)
    replace b4 := (hD.cell 4).trans (show _ = some (.slice N' d.no.length nc) from rfl)
    replace b5 := (hD.cell 5).trans (show _ = some (.bool d.done) from rfl)
    replace hX := hX.below hq10 hX.lt
    replace x0 := (hX.cell 0).trans (show _ = some (.int .i64 (reD d es fs).id) from rfl)
    replace x1 := (hX.cell 1).trans (show _ = some (.int .i64 (reD d es fs).day) from rfl)
    replace x2 := (hX.cell 2).trans (show _ = some (.int .i64 (reD d es fs).need) from rfl)
    replace x3 := (hX.cell 3).trans (show _ = some (.slice Y2 (reD d es fs).yes.length yc2) from rfl)
    replace x4 := (hX.cell 4).trans (show _ = some (.slice N2 (reD d es fs).no.length nc2) from rfl)
    replace x5 := (hX.cell 5).trans (show _ = some (.bool (reD d es fs).done) from rfl)
    clear Q10
    have yhD := hD.lt
    have yhX := hX.lt
    generalize cmOk d es fs = ok at *
    go_wp2
    go_loop [2, 20, 21] (fun _ i _ => ∃ k : Nat, k ≤ (cmL d es fs).length ∧ i = .int .i64 k) (fun _ i _ => (cmL d es fs).length - (intOf i).toNat)
    case atStart => exact ⟨0, Nat.zero_le _, rfl⟩
    case round =>
      obtain ⟨k, hk, rfl⟩ := hrel
      by_cases hlt : k < (cmL d es fs).length
      · obtain ⟨b1, o1, x, rfl, hbl, hx, hcx⟩ := Q7.at_ (Below.refl _ _) hlt
        obtain ⟨e1, e2, e3⟩ := cm_fact' (List.mem_of_getElem? hx)
        have g0 := hcx 0 _ rfl (Kin.self _)
        simp only [Nat.mul_one, Nat.add_zero, Kin.self] at g0
        clear hx hcx
        have C1 := Lib.hid (rHas_is Y yc d.yes x hy _ e1 w10 RY)
        have C2 := Lib.hid (rHas_is F fc fs x hf _ rfl w10 RF)
        have C3 := Lib.hid (rHas_is N' nc d.no x hn _ e2 w10 RN)
        have C4 := Lib.hid (rHas_is E ec es x he _ rfl w10 RE)
        have C5 := Lib.hid (rHas_is A8 c8 (abL d es fs) x (by omega) _ e3 w10 Q8)
        clear e1 e2 e3
        generalize hasB fs x = v1 at *
        generalize hasB es x = v2 at *
        go_wp2_with fail
        refine (C1.out).mono ?_
        rintro e w0 ⟨rfl, h0⟩
        rw [h0]
        clear h0 w0
        go_wp2_with fail
        refine (C2.out).mono ?_
        rintro e w0 ⟨rfl, h0⟩
        rw [h0]
        clear h0 w0
        go_wp2_with fail
        refine (C3.out).mono ?_
        rintro e w0 ⟨rfl, h0⟩
        rw [h0]
        clear h0 w0
        go_wp2_with fail
        refine (C4.out).mono ?_
        rintro e w0 ⟨rfl, h0⟩
        rw [h0]
        clear h0 w0
        go_wp2_with fail
        refine (C5.out).mono ?_
        rintro e w0 ⟨rfl, h0⟩
        rw [h0]
        clear h0 w0
        go_wp2
        go_round
        case rel => exact ⟨k + 1, by omega, by go_num⟩
        case measure => simp [intOf]; omega
      · have hke : k = (cmL d es fs).length := by omega
        subst hke
        clear hlt
        have hbd := hD
        go_wp2
        go_loopw [2, 22] (fun _ i wr => ∃ k : Nat, k ≤ (abL d es fs).length ∧ i = .int .i64 k ∧ Below w10.heap.size w10 wr) (fun _ i _ => (abL d es fs).length - (intOf i).toNat)
        case atStart => exact ⟨0, Nat.zero_le _, rfl, Below.refl _ _⟩
        case round =>
          obtain ⟨k, hk, rfl, hb⟩ := hrel
          clear b0 b1 b2 b3 b4 b5
          by_cases hlt : k < (abL d es fs).length
          · obtain ⟨b1, o1, x, rfl, hbl, hx, hcx⟩ := Q8.at_ hb hlt
            obtain ⟨e1, e2⟩ := ab_fact (List.mem_of_getElem? hx)
            have g0 := hcx 0 _ rfl
            simp only [Nat.mul_one, Nat.add_zero] at g0
            clear hx hcx
            have hD2 := hD.below hb hD.lt
            have b3 := fun K : Kin wr.heap.size wr => ((hD2.below K.below hD2.lt).cell 3).trans (show _ = some (.slice Y d.yes.length yc) from rfl)
            have b4 := fun K : Kin wr.heap.size wr => ((hD2.below K.below hD2.lt).cell 4).trans (show _ = some (.slice N' d.no.length nc) from rfl)
            have PY := Lib.hid (RY.below hb); have PN := Lib.hid (RN.below hb)
            go_wp2
            refine wp_region_kin (by kernel_rfl) (by kernel_rfl) ?_
            repeat (go_big_quiet_step ((first | (go_at_call_of 49 (Value.slice Y d.yes.length yc); exact Kin.same _ (rHas_is Y yc d.yes _ hy _ e1 _ (PY.out.below (Kin.below _)))) | (go_at_call_of 49 (Value.slice N' d.no.length nc); exact Kin.same _ (rHas_is N' nc d.no _ hn _ e2 _ (PN.out.below (Kin.below _)))))))
            refine wpQuiet_nil ?_
            intro K
            go_wp2
            go_roundw
            case rel => exact ⟨k + 1, by omega, by go_num, bth hb K.below⟩
            case measure => simp [intOf]; omega
          · have hke : k = (abL d es fs).length := by omega
            subst hke
            go_wp2
            go_ret
            exact ⟨rfl, bth HB hb⟩
  · obtain ⟨hno, hdec⟩ := reD_ok hok
    have iX := fun W q1 q2 q3 q4 => iReconsider_is (reD d es fs) Y2 N2 yc2 nc2 h2y h2n E ec es he F fc fs hf W q1 q2 q3 q4 hn2.out hn3.out hEn.out hFn.out
    rw [hno] at iX
    have IX := Lib.hid iX
    clear iX hno
    go_wp2_with fail
    refine (IX.out _ (Q2.below (by repeat (first | exact Below.refl _ _ | refine Below.alloc ?_ (by first | exact Nat.le_refl _ | (simp <;> omega)) _ | refine Below.setCell ?_ (by first | exact Nat.le_refl _ | (simp <;> omega)) _))) (Q3.below (by repeat (first | exact Below.refl _ _ | refine Below.alloc ?_ (by first | exact Nat.le_refl _ | (simp <;> omega)) _ | refine Below.setCell ?_ (by first | exact Nat.le_refl _ | (simp <;> omega)) _))) (RE.below (by repeat (first | exact Below.refl _ _ | refine Below.alloc ?_ (by first | exact Nat.le_refl _ | (simp <;> omega)) _ | refine Below.setCell ?_ (by first | exact Nat.le_refl _ | (simp <;> omega)) _))) (RF.below (by repeat (first | exact Below.refl _ _ | refine Below.alloc ?_ (by first | exact Nat.le_refl _ | (simp <;> omega)) _ | refine Below.setCell ?_ (by first | exact Nat.le_refl _ | (simp <;> omega)) _)))).mono ?_
    rintro e w5 ⟨Y6, yc6, N6, nc6, rfl, O6, O7, _, hb5⟩
    have hq5 : Below w4.heap.size w4 w5 := bth (by repeat (first | exact Below.refl _ _ | refine Below.alloc ?_ (by first | exact Nat.le_refl _ | (simp <;> omega)) _ | refine Below.setCell ?_ (by first | exact Nat.le_refl _ | (simp <;> omega)) _)) hb5
    replace HB := bth HB hq5
    replace hR := hR.below hq5
    replace RY := RY.below hq5
    replace RN := RN.below hq5
    replace RE := RE.below hq5
    replace RF := RF.below hq5
    replace Q2 := Q2.below hq5
    replace Q3 := Q3.below hq5
    replace hD := hD.below hq5 hD.lt
    replace b0 := (hD.cell 0).trans (show _ = some (.int .i64 d.id) from rfl)
    replace b1 := (hD.cell 1).trans (show _ = some (.int .i64 d.day) from rfl)
    replace b2 := (hD.cell 2).trans (show _ = some (.int .i64 d.need) from rfl)
    replace b3 := (hD.cell 3).trans (show _ = some (.slice Y d.yes.length yc) from rfl)
    replace b4 := (hD.cell 4).trans (show _ = some (.slice N' d.no.length nc) from rfl)
    replace b5 := (hD.cell 5).trans (show _ = some (.bool d.done) from rfl)
    replace hX := hX.below hq5 hX.lt
    replace x0 := (hX.cell 0).trans (show _ = some (.int .i64 (reD d es fs).id) from rfl)
    replace x1 := (hX.cell 1).trans (show _ = some (.int .i64 (reD d es fs).day) from rfl)
    replace x2 := (hX.cell 2).trans (show _ = some (.int .i64 (reD d es fs).need) from rfl)
    replace x3 := (hX.cell 3).trans (show _ = some (.slice Y2 (reD d es fs).yes.length yc2) from rfl)
    replace x4 := (hX.cell 4).trans (show _ = some (.slice N2 (reD d es fs).no.length nc2) from rfl)
    replace x5 := (hX.cell 5).trans (show _ = some (.bool (reD d es fs).done) from rfl)
    clear O6 O7 IX
    have yhD := hD.lt
    have yhX := hX.lt
    go_wp2_with fail
    refine (isValidDecided_is (reD d es fs) Y2 N2 yc2 nc2 h2y h2n _ hdec _ (Q2.below (by repeat (first | exact Below.refl _ _ | refine Below.alloc ?_ (by first | exact Nat.le_refl _ | (simp <;> omega)) _ | refine Below.setCell ?_ (by first | exact Nat.le_refl _ | (simp <;> omega)) _))) (Q3.below (by repeat (first | exact Below.refl _ _ | refine Below.alloc ?_ (by first | exact Nat.le_refl _ | (simp <;> omega)) _ | refine Below.setCell ?_ (by first | exact Nat.le_refl _ | (simp <;> omega)) _)))).mono ?_
    rintro e w6 ⟨rfl, hb6⟩
    have hq6 : Below w5.heap.size w5 w6 := bth (by repeat (first | exact Below.refl _ _ | refine Below.alloc ?_ (by first | exact Nat.le_refl _ | (simp <;> omega)) _ | refine Below.setCell ?_ (by first | exact Nat.le_refl _ | (simp <;> omega)) _)) hb6
    replace HB := bth HB hq6
    replace hR := hR.below hq6
    replace RY := RY.below hq6
    replace RN := RN.below hq6
    replace RE := RE.below hq6
    replace RF := RF.below hq6
    replace Q2 := Q2.below hq6
    replace Q3 := Q3.below hq6
    replace hD := hD.below hq6 hD.lt
    replace b0 := (hD.cell 0).trans (show _ = some (.int .i64 d.id) from rfl)
    replace b1 := (hD.cell 1).trans (show _ = some (.int .i64 d.day) from rfl)
    replace b2 := (hD.cell 2).trans (show _ = some (.int .i64 d.need) from rfl)
    replace b3 := (hD.cell 3).trans (show _ = some (.slice Y d.yes.length yc) from rfl)
    replace b4 := (hD.cell 4).trans (show _ = some (.slice N' d.no.length nc) from rfl)
    replace b5 := (hD.cell 5).trans (show _ = some (.bool d.done) from rfl)
    replace hX := hX.below hq6 hX.lt
    replace x0 := (hX.cell 0).trans (show _ = some (.int .i64 (reD d es fs).id) from rfl)
    replace x1 := (hX.cell 1).trans (show _ = some (.int .i64 (reD d es fs).day) from rfl)
    replace x2 := (hX.cell 2).trans (show _ = some (.int .i64 (reD d es fs).need) from rfl)
    replace x3 := (hX.cell 3).trans (show _ = some (.slice Y2 (reD d es fs).yes.length yc2) from rfl)
    replace x4 := (hX.cell 4).trans (show _ = some (.slice N2 (reD d es fs).no.length nc2) from rfl)
    replace x5 := (hX.cell 5).trans (show _ = some (.bool (reD d es fs).done) from rfl)
    clear hdec
    clear Q2 Q3
    have yhD := hD.lt
    have yhX := hX.lt
    go_wp2_with fail
    refine (changedMinds_is d Y N' yc nc hy hn E F ec fc es fs he hf _ (RY.below (by repeat (first | exact Below.refl _ _ | refine Below.alloc ?_ (by first | exact Nat.le_refl _ | (simp <;> omega)) _ | refine Below.setCell ?_ (by first | exact Nat.le_refl _ | (simp <;> omega)) _))) (RN.below (by repeat (first | exact Below.refl _ _ | refine Below.alloc ?_ (by first | exact Nat.le_refl _ | (simp <;> omega)) _ | refine Below.setCell ?_ (by first | exact Nat.le_refl _ | (simp <;> omega)) _))) (RE.below (by repeat (first | exact Below.refl _ _ | refine Below.alloc ?_ (by first | exact Nat.le_refl _ | (simp <;> omega)) _ | refine Below.setCell ?_ (by first | exact Nat.le_refl _ | (simp <;> omega)) _))) (RF.below (by repeat (first | exact Below.refl _ _ | refine Below.alloc ?_ (by first | exact Nat.le_refl _ | (simp <;> omega)) _ | refine Below.setCell ?_ (by first | exact Nat.le_refl _ | (simp <;> omega)) _)))).mono ?_
    rintro e w7 ⟨A7, c7, rfl, O7, hb7⟩
    have hq7 : Below w6.heap.size w6 w7 := bth (by repeat (first | exact Below.refl _ _ | refine Below.alloc ?_ (by first | exact Nat.le_refl _ | (simp <;> omega)) _ | refine Below.setCell ?_ (by first | exact Nat.le_refl _ | (simp <;> omega)) _)) hb7
    replace HB := bth HB hq7
    replace hR := hR.below hq7
    replace RY := RY.below hq7
    replace RN := RN.below hq7
    replace RE := RE.below hq7
    replace RF := RF.below hq7
    replace hD := hD.below hq7 hD.lt
    replace b0 := (hD.cell 0).trans (show _ = some (.int .i64 d.id) from rfl)
    replace b1 := (hD.cell 1).trans (show _ = some (.int .i64 d.day) from rfl)
    replace b2 := (hD.cell 2).trans (show _ = some (.int .i64 d.need) from rfl)
    replace b3 := (hD.cell 3).trans (show _ = some (.slice Y d.yes.length yc) from rfl)
    replace b4 := (hD.cell 4).trans (show _ = some (.slice N' d.no.length nc) from rfl)
    replace b5 := (hD.cell 5).trans (show _ = some (.bool d.done) from rfl)
    replace hX := hX.below hq7 hX.lt
    replace x0 := (hX.cell 0).trans (show _ = some (.int .i64 (reD d es fs).id) from rfl)
    replace x1 := (hX.cell 1).trans (show _ = some (.int .i64 (reD d es fs).day) from rfl)
    replace x2 := (hX.cell 2).trans (show _ = some (.int .i64 (reD d es fs).need) from rfl)
    replace x3 := (hX.cell 3).trans (show _ = some (.slice Y2 (reD d es fs).yes.length yc2) from rfl)
    replace x4 := (hX.cell 4).trans (show _ = some (.slice N2 (reD d es fs).no.length nc2) from rfl)
    replace x5 := (hX.cell 5).trans (show _ = some (.bool (reD d es fs).done) from rfl)
    have Q7 := O7.rds (hf := intC_len)
    clear O7
    have yhD := hD.lt
    have yhX := hX.lt
    go_wp2_with fail
    refine (iAbsent_is d Y N' yc nc hy hn E F ec fc es fs he hf _ (RY.below (by repeat (first | exact Below.refl _ _ | refine Below.alloc ?_ (by first | exact Nat.le_refl _ | (simp <;> omega)) _ | refine Below.setCell ?_ (by first | exact Nat.le_refl _ | (simp <;> omega)) _))) (RN.below (by repeat (first | exact Below.refl _ _ | refine Below.alloc ?_ (by first | exact Nat.le_refl _ | (simp <;> omega)) _ | refine Below.setCell ?_ (by first | exact Nat.le_refl _ | (simp <;> omega)) _))) (RE.below (by repeat (first | exact Below.refl _ _ | refine Below.alloc ?_ (by first | exact Nat.le_refl _ | (simp <;> omega)) _ | refine Below.setCell ?_ (by first | exact Nat.le_refl _ | (simp <;> omega)) _))) (RF.below (by repeat (first | exact Below.refl _ _ | refine Below.alloc ?_ (by first | exact Nat.le_refl _ | (simp <;> omega)) _ | refine Below.setCell ?_ (by first | exact Nat.le_refl _ | (simp <;> omega)) _))) hEn.out hFn.out).mono ?_
    rintro e w8 ⟨A8, c8, rfl, O8, hb8⟩
    have hq8 : Below w7.heap.size w7 w8 := bth (by repeat (first | exact Below.refl _ _ | refine Below.alloc ?_ (by first | exact Nat.le_refl _ | (simp <;> omega)) _ | refine Below.setCell ?_ (by first | exact Nat.le_refl _ | (simp <;> omega)) _)) hb8
    replace HB := bth HB hq8
    replace hR := hR.below hq8
    replace RY := RY.below hq8
    replace RN := RN.below hq8
    replace RE := RE.below hq8
    replace RF := RF.below hq8
    replace Q7 := Q7.below hq8
    replace hD := hD.below hq8 hD.lt
    replace b0 := (hD.cell 0).trans (show _ = some (.int .i64 d.id) from rfl)
    replace b1 := (hD.cell 1).trans (show _ = some (.int .i64 d.day) from rfl)
    replace b2 := (hD.cell 2).trans (show _ = some (.int .i64 d.need) from rfl)
    replace b3 := (hD.cell 3).trans (show _ = some (.slice Y d.yes.length yc) from rfl)
    replace b4 := (hD.cell 4).trans (show _ = some (.slice N' d.no.length nc) from rfl)
    replace b5 := (hD.cell 5).trans (show _ = some (.bool d.done) from rfl)
    replace hX := hX.below hq8 hX.lt
    replace x0 := (hX.cell 0).trans (show _ = some (.int .i64 (reD d es fs).id) from rfl)
    replace x1 := (hX.cell 1).trans (show _ = some (.int .i64 (reD d es fs).day) from rfl)
    replace x2 := (hX.cell 2).trans (show _ = some (.int .i64 (reD d es fs).need) from rfl)
    replace x3 := (hX.cell 3).trans (show _ = some (.slice Y2 (reD d es fs).yes.length yc2) from rfl)
    replace x4 := (hX.cell 4).trans (show _ = some (.slice N2 (reD d es fs).no.length nc2) from rfl)
    replace x5 := (hX.cell 5).trans (show _ = some (.bool (reD d es fs).done) from rfl)
    have Q8 := O8.rds (hf := intC_len)
    clear O8
    have yhD := hD.lt
    have yhX := hX.lt
    go_wp2_with fail
    refine (sChangedMinds_is d Y N' yc nc hy hn E F ec fc es fs he hf _ (RY.below (by repeat (first | exact Below.refl _ _ | refine Below.alloc ?_ (by first | exact Nat.le_refl _ | (simp <;> omega)) _ | refine Below.setCell ?_ (by first | exact Nat.le_refl _ | (simp <;> omega)) _))) (RN.below (by repeat (first | exact Below.refl _ _ | refine Below.alloc ?_ (by first | exact Nat.le_refl _ | (simp <;> omega)) _ | refine Below.setCell ?_ (by first | exact Nat.le_refl _ | (simp <;> omega)) _))) (RE.below (by repeat (first | exact Below.refl _ _ | refine Below.alloc ?_ (by first | exact Nat.le_refl _ | (simp <;> omega)) _ | refine Below.setCell ?_ (by first | exact Nat.le_refl _ | (simp <;> omega)) _))) (RF.below (by repeat (first | exact Below.refl _ _ | refine Below.alloc ?_ (by first | exact Nat.le_refl _ | (simp <;> omega)) _ | refine Below.setCell ?_ (by first | exact Nat.le_refl _ | (simp <;> omega)) _)))).mono ?_
    rintro e w9 ⟨A9, c9, rfl, O9, hb9⟩
    have hq9 : Below w8.heap.size w8 w9 := bth (by repeat (first | exact Below.refl _ _ | refine Below.alloc ?_ (by first | exact Nat.le_refl _ | (simp <;> omega)) _ | refine Below.setCell ?_ (by first | exact Nat.le_refl _ | (simp <;> omega)) _)) hb9
    replace HB := bth HB hq9
    replace hR := hR.below hq9
    replace RY := RY.below hq9
    replace RN := RN.below hq9
    replace RE := RE.below hq9
    replace RF := RF.below hq9
    replace Q7 := Q7.below hq9
    replace Q8 := Q8.below hq9
    replace hD := hD.below hq9 hD.lt
    replace b0 := (hD.cell 0).trans (show _ = some (.int .i64 d.id) from rfl)
    replace b1 := (hD.cell 1).trans (show _ = some (.int .i64 d.day) from rfl)
    replace b2 := (hD.cell 2).trans (show _ = some (.int .i64 d.need) from rfl)
    replace b3 := (hD.cell 3).trans (show _ = some (.slice Y d.yes.length yc) from rfl)
    replace b4 := (hD.cell 4).trans (show _ = some (.slice N' d.no.length nc) from rfl)
    replace b5 := (hD.cell 5).trans (show _ = some (.bool d.done) from rfl)
    replace hX := hX.below hq9 hX.lt
    replace x0 := (hX.cell 0).trans (show _ = some (.int .i64 (reD d es fs).id) from rfl)
    replace x1 := (hX.cell 1).trans (show _ = some (.int .i64 (reD d es fs).day) from rfl)
    replace x2 := (hX.cell 2).trans (show _ = some (.int .i64 (reD d es fs).need) from rfl)
    replace x3 := (hX.cell 3).trans (show _ = some (.slice Y2 (reD d es fs).yes.length yc2) from rfl)
    replace x4 := (hX.cell 4).trans (show _ = some (.slice N2 (reD d es fs).no.length nc2) from rfl)
    replace x5 := (hX.cell 5).trans (show _ = some (.bool (reD d es fs).done) from rfl)
    have Q9 := O9.rds (hf := intC_len)
    clear O9
    have hlc := cmL_len' d es fs
    have hla := abL_len d es fs
    have yhD := hD.lt
    have yhX := hX.lt
    go_wp2_with fail
    refine (rInts_is A7 A9 c7 c9 (cmL d es fs) (by omega) _ (Q7.below (by repeat (first | exact Below.refl _ _ | refine Below.alloc ?_ (by first | exact Nat.le_refl _ | (simp <;> omega)) _ | refine Below.setCell ?_ (by first | exact Nat.le_refl _ | (simp <;> omega)) _))) (Q9.below (by repeat (first | exact Below.refl _ _ | refine Below.alloc ?_ (by first | exact Nat.le_refl _ | (simp <;> omega)) _ | refine Below.setCell ?_ (by first | exact Nat.le_refl _ | (simp <;> omega)) _)))).mono ?_
    rintro e w10 ⟨rfl, hb10⟩
    have hq10 : Below w9.heap.size w9 w10 := bth (by repeat (first | exact Below.refl _ _ | refine Below.alloc ?_ (by first | exact Nat.le_refl _ | (simp <;> omega)) _ | refine Below.setCell ?_ (by first | exact Nat.le_refl _ | (simp <;> omega)) _)) hb10
    replace HB := bth HB hq10
    replace hR := hR.below hq10
    replace RY := RY.below hq10
    replace RN := RN.below hq10
    replace RE := RE.below hq10
    replace RF := RF.below hq10
    replace Q7 := Q7.below hq10
    replace Q8 := Q8.below hq10
    replace Q9 := Q9.below hq10
    replace hD := hD.below hq10 hD.lt
    replace b0 := (hD.cell 0).trans (show _ = some (.int .i64 d.id) from rfl)
    replace b1 := (hD.cell 1).trans (show _ = some (.int .i64 d.day) from rfl)
    replace b2 := (hD.cell 2).trans (show _ = some (.int .i64 d.need) from rfl)
    replace b3 := (hD.cell 3).trans (show _ = some (.slice Y d.yes.length yc) from rfl)
    replace b4 := (hD.cell 4).trans (show _ = some (.slice N' d.no.length nc) from rfl)
    replace b5 := (hD.cell 5).trans (show _ = some (.bool d.done) from rfl)
    replace hX := hX.below hq10 hX.lt
    replace x0 := (hX.cell 0).trans (show _ = some (.int .i64 (reD d es fs).id) from rfl)
    replace x1 := (hX.cell 1).trans (show _ = some (.int .i64 (reD d es fs).day) from rfl)
    replace x2 := (hX.cell 2).trans (show _ = some (.int .i64 (reD d es fs).need) from rfl)
    replace x3 := (hX.cell 3).trans (show _ = some (.slice Y2 (reD d es fs).yes.length yc2) from rfl)
    replace x4 := (hX.cell 4).trans (show _ = some (.slice N2 (reD d es fs).no.length nc2) from rfl)
    replace x5 := (hX.cell 5).trans (show _ = some (.bool (reD d es fs).done) from rfl)
    clear Q9
    have yhD := hD.lt
    have yhX := hX.lt
    go_wp2_with fail
    refine (sAbsent_is d Y N' yc nc hy hn E F ec fc es fs he hf _ (RY.below (by repeat (first | exact Below.refl _ _ | refine Below.alloc ?_ (by first | exact Nat.le_refl _ | (simp <;> omega)) _ | refine Below.setCell ?_ (by first | exact Nat.le_refl _ | (simp <;> omega)) _))) (RN.below (by repeat (first | exact Below.refl _ _ | refine Below.alloc ?_ (by first | exact Nat.le_refl _ | (simp <;> omega)) _ | refine Below.setCell ?_ (by first | exact Nat.le_refl _ | (simp <;> omega)) _))) (RE.below (by repeat (first | exact Below.refl _ _ | refine Below.alloc ?_ (by first | exact Nat.le_refl _ | (simp <;> omega)) _ | refine Below.setCell ?_ (by first | exact Nat.le_refl _ | (simp <;> omega)) _))) (RF.below (by repeat (first | exact Below.refl _ _ | refine Below.alloc ?_ (by first | exact Nat.le_refl _ | (simp <;> omega)) _ | refine Below.setCell ?_ (by first | exact Nat.le_refl _ | (simp <;> omega)) _)))).mono ?_
    rintro e w11 ⟨A10, c10, rfl, O10, hb11⟩
    have hq11 : Below w10.heap.size w10 w11 := bth (by repeat (first | exact Below.refl _ _ | refine Below.alloc ?_ (by first | exact Nat.le_refl _ | (simp <;> omega)) _ | refine Below.setCell ?_ (by first | exact Nat.le_refl _ | (simp <;> omega)) _)) hb11
    replace HB := bth HB hq11
    replace hR := hR.below hq11
    replace RY := RY.below hq11
    replace RN := RN.below hq11
    replace RE := RE.below hq11
    replace RF := RF.below hq11
    replace Q7 := Q7.below hq11
    replace Q8 := Q8.below hq11
    replace hD := hD.below hq11 hD.lt
    replace b0 := (hD.cell 0).trans (show _ = some (.int .i64 d.id) from rfl)
    replace b1 := (hD.cell 1).trans (show _ = some (.int .i64 d.day) from rfl)
    replace b2 := (hD.cell 2).trans (show _ = some (.int .i64 d.need) from rfl)
    replace b3 := (hD.cell 3).trans (show _ = some (.slice Y d.yes.length yc) from rfl)
    replace b4 := (hD.cell 4).trans (show _ = some (.slice N' d.no.length nc) from rfl)
    replace b5 := (hD.cell 5).trans (show _ = some (.bool d.done) from rfl)
    replace hX := hX.below hq11 hX.lt
    replace x0 := (hX.cell 0).trans (show _ = some (.int .i64 (reD d es fs).id) from rfl)
    replace x1 := (hX.cell 1).trans (show _ = some (.int .i64 (reD d es fs).day) from rfl)
    replace x2 := (hX.cell 2).trans (show _ = some (.int .i64 (reD d es fs).need) from rfl)
    replace x3 := (hX.cell 3).trans (show _ = some (.slice Y2 (reD d es fs).yes.length yc2) from rfl)
    replace x4 := (hX.cell 4).trans (show _ = some (.slice N2 (reD d es fs).no.length nc2) from rfl)
    replace x5 := (hX.cell 5).trans (show _ = some (.bool (reD d es fs).done) from rfl)
    have Q10 := O10.rds (hf := intC_len)
    clear O10
    have yhD := hD.lt
    have yhX := hX.lt
    go_wp2_with fail
    refine (rInts_is A8 A10 c8 c10 (abL d es fs) (by omega) _ (Q8.below (by repeat (first | exact Below.refl _ _ | refine Below.alloc ?_ (by first | exact Nat.le_refl _ | (simp <;> omega)) _ | refine Below.setCell ?_ (by first | exact Nat.le_refl _ | (simp <;> omega)) _))) (Q10.below (by repeat (first | exact Below.refl _ _ | refine Below.alloc ?_ (by first | exact Nat.le_refl _ | (simp <;> omega)) _ | refine Below.setCell ?_ (by first | exact Nat.le_refl _ | (simp <;> omega)) _)))).mono ?_
    rintro e w12 ⟨rfl, hb12⟩
    have hq12 : Below w11.heap.size w11 w12 := bth (by repeat (first | exact Below.refl _ _ | refine Below.alloc ?_ (by first | exact Nat.le_refl _ | (simp <;> omega)) _ | refine Below.setCell ?_ (by first | exact Nat.le_refl _ | (simp <;> omega)) _)) hb12
    replace HB := bth HB hq12
    replace hR := hR.below hq12
    replace RY := RY.below hq12
    replace RN := RN.below hq12
    replace RE := RE.below hq12
    replace RF := RF.below hq12
    replace Q7 := Q7.below hq12
    replace Q8 := Q8.below hq12
    replace Q10 := Q10.below hq12
    replace hD := hD.below hq12 hD.lt
    replace b0 := (hD.cell 0).trans (show _ = some (.int .i64 d.id) from rfl)
    replace b1 := (hD.cell 1).trans (show _ = some (.int .i64 d.day) from rfl)
    replace b2 := (hD.cell 2).trans (show _ = some (.int .i64 d.need) from rfl)
    replace b3 := (hD.cell 3).trans (show _ = some (.slice Y d.yes.length yc) from rfl)
    replace b4 := (hD.cell 4).trans (show _ = some (.slice N' d.no.length nc) from rfl)
    replace b5 := (hD.cell 5).trans (show _ = some (.bool d.done) from rfl)
    replace hX := hX.below hq12 hX.lt
    replace x0 := (hX.cell 0).trans (show _ = some (.int .i64 (reD d es fs).id) from rfl)
    replace x1 := (hX.cell 1).trans (show _ = some (.int .i64 (reD d es fs).day) from rfl)
    replace x2 := (hX.cell 2).trans (show _ = some (.int .i64 (reD d es fs).need) from rfl)
    replace x3 := (hX.cell 3).trans (show _ = some (.slice Y2 (reD d es fs).yes.length yc2) from rfl)
    replace x4 := (hX.cell 4).trans (show _ = some (.slice N2 (reD d es fs).no.length nc2) from rfl)
    replace x5 := (hX.cell 5).trans (show _ = some (.bool (reD d es fs).done) from rfl)
    clear Q10
    have yhD := hD.lt
    have yhX := hX.lt
    generalize cmOk d es fs = ok at *
    go_wp2
    go_loop [2, 20, 21] (fun _ i _ => ∃ k : Nat, k ≤ (cmL d es fs).length ∧ i = .int .i64 k) (fun _ i _ => (cmL d es fs).length - (intOf i).toNat)
    case atStart => exact ⟨0, Nat.zero_le _, rfl⟩
    case round =>
      obtain ⟨k, hk, rfl⟩ := hrel
      by_cases hlt : k < (cmL d es fs).length
      · obtain ⟨b1, o1, x, rfl, hbl, hx, hcx⟩ := Q7.at_ (Below.refl _ _) hlt
        obtain ⟨e1, e2, e3⟩ := cm_fact' (List.mem_of_getElem? hx)
        have g0 := hcx 0 _ rfl (Kin.self _)
        simp only [Nat.mul_one, Nat.add_zero, Kin.self] at g0
        clear hx hcx
        have C1 := Lib.hid (rHas_is Y yc d.yes x hy _ e1 w12 RY)
        have C2 := Lib.hid (rHas_is F fc fs x hf _ rfl w12 RF)
        have C3 := Lib.hid (rHas_is N' nc d.no x hn _ e2 w12 RN)
        have C4 := Lib.hid (rHas_is E ec es x he _ rfl w12 RE)
        have C5 := Lib.hid (rHas_is A8 c8 (abL d es fs) x (by omega) _ e3 w12 Q8)
        clear e1 e2 e3
        generalize hasB fs x = v1 at *
        generalize hasB es x = v2 at *
        go_wp2_with fail
        refine (C1.out).mono ?_
        rintro e w0 ⟨rfl, h0⟩
        rw [h0]
        clear h0 w0
        go_wp2_with fail
        refine (C2.out).mono ?_
        rintro e w0 ⟨rfl, h0⟩
        rw [h0]
        clear h0 w0
        go_wp2_with fail
        refine (C3.out).mono ?_
        rintro e w0 ⟨rfl, h0⟩
        rw [h0]
        clear h0 w0
        go_wp2_with fail
        refine (C4.out).mono ?_
        rintro e w0 ⟨rfl, h0⟩
        rw [h0]
        clear h0 w0
        go_wp2_with fail
        refine (C5.out).mono ?_
        rintro e w0 ⟨rfl, h0⟩
        rw [h0]
        clear h0 w0
        go_wp2
        go_round
        case rel => exact ⟨k + 1, by omega, by go_num⟩
        case measure => simp [intOf]; omega
      · have hke : k = (cmL d es fs).length := by omega
        subst hke
        clear hlt
        have hbd := hD
        go_wp2
        go_loopw [2, 22] (fun _ i wr => ∃ k : Nat, k ≤ (abL d es fs).length ∧ i = .int .i64 k ∧ Below w12.heap.size w12 wr) (fun _ i _ => (abL d es fs).length - (intOf i).toNat)
        case atStart => exact ⟨0, Nat.zero_le _, rfl, Below.refl _ _⟩
        case round =>
          obtain ⟨k, hk, rfl, hb⟩ := hrel
          clear b0 b1 b2 b3 b4 b5
          by_cases hlt : k < (abL d es fs).length
          · obtain ⟨b1, o1, x, rfl, hbl, hx, hcx⟩ := Q8.at_ hb hlt
            obtain ⟨e1, e2⟩ := ab_fact (List.mem_of_getElem? hx)
            have g0 := hcx 0 _ rfl
            simp only [Nat.mul_one, Nat.add_zero] at g0
            clear hx hcx
            have hD2 := hD.below hb hD.lt
            have b3 := fun K : Kin wr.heap.size wr => ((hD2.below K.below hD2.lt).cell 3).trans (show _ = some (.slice Y d.yes.length yc) from rfl)
            have b4 := fun K : Kin wr.heap.size wr => ((hD2.below K.below hD2.lt).cell 4).trans (show _ = some (.slice N' d.no.length nc) from rfl)
            have PY := Lib.hid (RY.below hb); have PN := Lib.hid (RN.below hb)
            go_wp2
            refine wp_region_kin (by kernel_rfl) (by kernel_rfl) ?_
            repeat (go_big_quiet_step ((first | (go_at_call_of 49 (Value.slice Y d.yes.length yc); exact Kin.same _ (rHas_is Y yc d.yes _ hy _ e1 _ (PY.out.below (Kin.below _)))) | (go_at_call_of 49 (Value.slice N' d.no.length nc); exact Kin.same _ (rHas_is N' nc d.no _ hn _ e2 _ (PN.out.below (Kin.below _)))))))
            refine wpQuiet_nil ?_
            intro K
            go_wp2
            go_roundw
            case rel => exact ⟨k + 1, by omega, by go_num, bth hb K.below⟩
            case measure => simp [intOf]; omega
          · have hke : k = (abL d es fs).length := by omega
            subst hke
            go_wp2
            go_ret
            exact ⟨rfl, bth HB hb⟩
open Go.ChangeShapes Go.WideShapes Go.ChangeAt
end Go.Proofs.Ythgaddnbgnennaa
