/- The contracts of PendingName and MovedBy. -/
import Derived.Test.YtkkdegmfmimdgaaMeL
import Derived.Deep.Cut
namespace Go.Proofs.Ytkkdegmfmimdgaa
open Go.RowKit Go.G9
theorem pnOut_bad {m : Mee} (h : meetB m = false) : pnOut m = .tuple #[.string ⟨#[]⟩, .bool false] := by simp [pnOut, h]
theorem pnOut_nil {m : Mee} (h : m.pend.length = 0) : pnOut m = .tuple #[.string ⟨#[]⟩, .bool false] := by
  have : m.pend = [] := List.length_eq_zero_iff.1 h
  simp [pnOut, lastR, this]
theorem pnOut_last {m : Mee} {j : Nat} {q : Que} {r : Rul} (hb : meetB m = true) (hl : m.pend.length = j + 1) (hq : m.pend[j]? = some q) (hr : fnd m.rules q.rule = some r) : pnOut m = .tuple #[.string r.name, .bool true] := by
  have : m.pend.length - 1 = j := by omega
  simp only [pnOut, hb, lastR, this, hq, hr, if_true]
set_option maxHeartbeats 4000000 in
set_option maxRecDepth 100000 in
theorem iPendingName_is (m : Mee) (A0 A1 A2 A3 A4 : Option Addr) (c0 c1 c2 c3 c4 : Nat) (h0 : m.rules.length ≤ 1048576) (h1 : m.pend.length ≤ 1048576) (h2 : m.wait.length ≤ 1048576) (h3 : m.shares.length ≤ 1048576) (h4 : m.outs.length ≤ 1048576) (v : Value) (hv : pnOut m = v) (w : World) (R0 : Rds 7 Rul.cells w A0 m.rules) (R1 : Rds 3 Que.cells w A1 m.pend) (R2 : Rds 1 intC w A2 m.wait) (R3 : Rds 3 Sha.cells w A3 m.shares) (R4 : Rds 3 Out.cells w A4 m.outs) (k0 : m.rules.length ≤ c0) (k1 : m.pend.length ≤ c1) (k2 : m.wait.length ≤ c2) (k3 : m.shares.length ≤ c3) (k4 : m.outs.length ≤ c4) :
  Calls Try.prog 18 #[.agg #[.slice A0 m.rules.length c0, .slice A1 m.pend.length c1, .int .i64 m.turns, .int .i64 m.secs, .int .i64 m.spk, .slice A2 m.wait.length c2, .slice A3 m.shares.length c3, .slice A4 m.outs.length c4]] w fun e w' => e = .returned (v) ∧ Below w.heap.size w w' := by
  subst hv
  cases hb : meetB m
  · have HV := Lib.hid hb
    go_enter Try.func18, Try.ntmps18
    go_upto_region 1 with fail
    have hq1 : Below w.heap.size w (World.alloc w (.cells #[.slice A0 m.rules.length c0, .slice A1 m.pend.length c1, .int .i64 m.turns, .int .i64 m.secs, .int .i64 m.spk, .slice A2 m.wait.length c2, .slice A3 m.shares.length c3, .slice A4 m.outs.length c4] 40)) := bl1 w _
    have hM : Blk (World.alloc w (.cells #[.slice A0 m.rules.length c0, .slice A1 m.pend.length c1, .int .i64 m.turns, .int .i64 m.secs, .int .i64 m.spk, .slice A2 m.wait.length c2, .slice A3 m.shares.length c3, .slice A4 m.outs.length c4] 40)) (w.heap.size) 40 #[.slice A0 m.rules.length c0, .slice A1 m.pend.length c1, .int .i64 m.turns, .int .i64 m.secs, .int .i64 m.spk, .slice A2 m.wait.length c2, .slice A3 m.shares.length c3, .slice A4 m.outs.length c4] := by repeat (first | exact Blk.new _ _ _ | exact Blk.new2 _ _ _ _ | exact Blk.new3 _ _ _ _ _ | exact Blk.new4 _ _ _ _ _ _ | refine Blk.alloc ?_ _)
    replace R0 := R0.below hq1
    replace R1 := R1.below hq1
    replace R2 := R2.below hq1
    replace R3 := R3.below hq1
    replace R4 := R4.below hq1
    generalize World.alloc w (.cells #[.slice A0 m.rules.length c0, .slice A1 m.pend.length c1, .int .i64 m.turns, .int .i64 m.secs, .int .i64 m.spk, .slice A2 m.wait.length c2, .slice A3 m.shares.length c3, .slice A4 m.outs.length c4] 40) = wX at *
    have HB := hq1
    have b0 := (hM.cell 0).trans (show _ = some (.slice A0 m.rules.length c0) from rfl)
    have b1 := (hM.cell 1).trans (show _ = some (.slice A1 m.pend.length c1) from rfl)
    have b2 := (hM.cell 2).trans (show _ = some (.int .i64 m.turns) from rfl)
    have b3 := (hM.cell 3).trans (show _ = some (.int .i64 m.secs) from rfl)
    have b4 := (hM.cell 4).trans (show _ = some (.int .i64 m.spk) from rfl)
    have b5 := (hM.cell 5).trans (show _ = some (.slice A2 m.wait.length c2) from rfl)
    have b6 := (hM.cell 6).trans (show _ = some (.slice A3 m.shares.length c3) from rfl)
    have b7 := (hM.cell 7).trans (show _ = some (.slice A4 m.outs.length c4) from rfl)
    go_wp2_with fail
    refine (iIsValidMeeting_is m A0 A1 A2 A3 A4 c0 c1 c2 c3 c4 h0 h1 h2 h3 h4 _ HV.out _ (R0.below (by repeat (first | exact Below.refl _ _ | refine Below.alloc ?_ (by first | exact Nat.le_refl _ | (simp <;> omega)) _ | refine Below.setCell ?_ (by first | exact Nat.le_refl _ | (simp <;> omega)) _))) (R1.below (by repeat (first | exact Below.refl _ _ | refine Below.alloc ?_ (by first | exact Nat.le_refl _ | (simp <;> omega)) _ | refine Below.setCell ?_ (by first | exact Nat.le_refl _ | (simp <;> omega)) _))) (R2.below (by repeat (first | exact Below.refl _ _ | refine Below.alloc ?_ (by first | exact Nat.le_refl _ | (simp <;> omega)) _ | refine Below.setCell ?_ (by first | exact Nat.le_refl _ | (simp <;> omega)) _))) (R3.below (by repeat (first | exact Below.refl _ _ | refine Below.alloc ?_ (by first | exact Nat.le_refl _ | (simp <;> omega)) _ | refine Below.setCell ?_ (by first | exact Nat.le_refl _ | (simp <;> omega)) _))) (R4.below (by repeat (first | exact Below.refl _ _ | refine Below.alloc ?_ (by first | exact Nat.le_refl _ | (simp <;> omega)) _ | refine Below.setCell ?_ (by first | exact Nat.le_refl _ | (simp <;> omega)) _))) k0 k1 k2 k3 k4).mono ?_
    rintro e w2 ⟨rfl, hb2⟩
    have hq2 : Below wX.heap.size wX w2 := bth (by repeat (first | exact Below.refl _ _ | refine Below.alloc ?_ (by first | exact Nat.le_refl _ | (simp <;> omega)) _ | refine Below.setCell ?_ (by first | exact Nat.le_refl _ | (simp <;> omega)) _)) hb2
    replace HB := bth HB hq2
    replace R0 := R0.below hq2
    replace R1 := R1.below hq2
    replace R2 := R2.below hq2
    replace R3 := R3.below hq2
    replace R4 := R4.below hq2
    replace hM := hM.below hq2 hM.lt
    replace b0 := (hM.cell 0).trans (show _ = some (.slice A0 m.rules.length c0) from rfl)
    replace b1 := (hM.cell 1).trans (show _ = some (.slice A1 m.pend.length c1) from rfl)
    replace b2 := (hM.cell 2).trans (show _ = some (.int .i64 m.turns) from rfl)
    replace b3 := (hM.cell 3).trans (show _ = some (.int .i64 m.secs) from rfl)
    replace b4 := (hM.cell 4).trans (show _ = some (.int .i64 m.spk) from rfl)
    replace b5 := (hM.cell 5).trans (show _ = some (.slice A2 m.wait.length c2) from rfl)
    replace b6 := (hM.cell 6).trans (show _ = some (.slice A3 m.shares.length c3) from rfl)
    replace b7 := (hM.cell 7).trans (show _ = some (.slice A4 m.outs.length c4) from rfl)
    go_wp2
    go_ret2
    rw [pnOut_bad HV.out]
    exact ⟨rfl, (bth HB (by repeat (first | exact Below.refl _ _ | refine Below.alloc ?_ (by first | exact Nat.le_refl _ | (simp <;> omega)) _ | refine Below.setCell ?_ (by first | exact Nat.le_refl _ | (simp <;> omega)) _)))⟩
  have HV := Lib.hid hb
  have hp := meetB_pend hb
  rcases Nat.eq_zero_or_pos m.pend.length with hz | hz
  · have HZ := Lib.hid hz; clear hz
    go_enter Try.func18, Try.ntmps18
    go_upto_region 1 with fail
    have hq1 : Below w.heap.size w (World.alloc w (.cells #[.slice A0 m.rules.length c0, .slice A1 m.pend.length c1, .int .i64 m.turns, .int .i64 m.secs, .int .i64 m.spk, .slice A2 m.wait.length c2, .slice A3 m.shares.length c3, .slice A4 m.outs.length c4] 40)) := bl1 w _
    have hM : Blk (World.alloc w (.cells #[.slice A0 m.rules.length c0, .slice A1 m.pend.length c1, .int .i64 m.turns, .int .i64 m.secs, .int .i64 m.spk, .slice A2 m.wait.length c2, .slice A3 m.shares.length c3, .slice A4 m.outs.length c4] 40)) (w.heap.size) 40 #[.slice A0 m.rules.length c0, .slice A1 m.pend.length c1, .int .i64 m.turns, .int .i64 m.secs, .int .i64 m.spk, .slice A2 m.wait.length c2, .slice A3 m.shares.length c3, .slice A4 m.outs.length c4] := by repeat (first | exact Blk.new _ _ _ | exact Blk.new2 _ _ _ _ | exact Blk.new3 _ _ _ _ _ | exact Blk.new4 _ _ _ _ _ _ | refine Blk.alloc ?_ _)
    replace R0 := R0.below hq1
    replace R1 := R1.below hq1
    replace R2 := R2.below hq1
    replace R3 := R3.below hq1
    replace R4 := R4.below hq1
    generalize World.alloc w (.cells #[.slice A0 m.rules.length c0, .slice A1 m.pend.length c1, .int .i64 m.turns, .int .i64 m.secs, .int .i64 m.spk, .slice A2 m.wait.length c2, .slice A3 m.shares.length c3, .slice A4 m.outs.length c4] 40) = wX at *
    have HB := hq1
    have b0 := (hM.cell 0).trans (show _ = some (.slice A0 m.rules.length c0) from rfl)
    have b1 := (hM.cell 1).trans (show _ = some (.slice A1 m.pend.length c1) from rfl)
    have b2 := (hM.cell 2).trans (show _ = some (.int .i64 m.turns) from rfl)
    have b3 := (hM.cell 3).trans (show _ = some (.int .i64 m.secs) from rfl)
    have b4 := (hM.cell 4).trans (show _ = some (.int .i64 m.spk) from rfl)
    have b5 := (hM.cell 5).trans (show _ = some (.slice A2 m.wait.length c2) from rfl)
    have b6 := (hM.cell 6).trans (show _ = some (.slice A3 m.shares.length c3) from rfl)
    have b7 := (hM.cell 7).trans (show _ = some (.slice A4 m.outs.length c4) from rfl)
    go_wp2_with fail
    refine (iIsValidMeeting_is m A0 A1 A2 A3 A4 c0 c1 c2 c3 c4 h0 h1 h2 h3 h4 _ HV.out _ (R0.below (by repeat (first | exact Below.refl _ _ | refine Below.alloc ?_ (by first | exact Nat.le_refl _ | (simp <;> omega)) _ | refine Below.setCell ?_ (by first | exact Nat.le_refl _ | (simp <;> omega)) _))) (R1.below (by repeat (first | exact Below.refl _ _ | refine Below.alloc ?_ (by first | exact Nat.le_refl _ | (simp <;> omega)) _ | refine Below.setCell ?_ (by first | exact Nat.le_refl _ | (simp <;> omega)) _))) (R2.below (by repeat (first | exact Below.refl _ _ | refine Below.alloc ?_ (by first | exact Nat.le_refl _ | (simp <;> omega)) _ | refine Below.setCell ?_ (by first | exact Nat.le_refl _ | (simp <;> omega)) _))) (R3.below (by repeat (first | exact Below.refl _ _ | refine Below.alloc ?_ (by first | exact Nat.le_refl _ | (simp <;> omega)) _ | refine Below.setCell ?_ (by first | exact Nat.le_refl _ | (simp <;> omega)) _))) (R4.below (by repeat (first | exact Below.refl _ _ | refine Below.alloc ?_ (by first | exact Nat.le_refl _ | (simp <;> omega)) _ | refine Below.setCell ?_ (by first | exact Nat.le_refl _ | (simp <;> omega)) _))) k0 k1 k2 k3 k4).mono ?_
    rintro e w2 ⟨rfl, hb2⟩
    have hq2 : Below wX.heap.size wX w2 := bth (by repeat (first | exact Below.refl _ _ | refine Below.alloc ?_ (by first | exact Nat.le_refl _ | (simp <;> omega)) _ | refine Below.setCell ?_ (by first | exact Nat.le_refl _ | (simp <;> omega)) _)) hb2
    replace HB := bth HB hq2
    replace R0 := R0.below hq2
    replace R1 := R1.below hq2
    replace R2 := R2.below hq2
    replace R3 := R3.below hq2
    replace R4 := R4.below hq2
    replace hM := hM.below hq2 hM.lt
    replace b0 := (hM.cell 0).trans (show _ = some (.slice A0 m.rules.length c0) from rfl)
    replace b1 := (hM.cell 1).trans (show _ = some (.slice A1 m.pend.length c1) from rfl)
    replace b2 := (hM.cell 2).trans (show _ = some (.int .i64 m.turns) from rfl)
    replace b3 := (hM.cell 3).trans (show _ = some (.int .i64 m.secs) from rfl)
    replace b4 := (hM.cell 4).trans (show _ = some (.int .i64 m.spk) from rfl)
    replace b5 := (hM.cell 5).trans (show _ = some (.slice A2 m.wait.length c2) from rfl)
    replace b6 := (hM.cell 6).trans (show _ = some (.slice A3 m.shares.length c3) from rfl)
    replace b7 := (hM.cell 7).trans (show _ = some (.slice A4 m.outs.length c4) from rfl)
    have hz := HZ.out
    go_wp2
    go_ret2
    rw [pnOut_nil HZ.out]
    exact ⟨rfl, (bth HB (by repeat (first | exact Below.refl _ _ | refine Below.alloc ?_ (by first | exact Nat.le_refl _ | (simp <;> omega)) _ | refine Below.setCell ?_ (by first | exact Nat.le_refl _ | (simp <;> omega)) _)))⟩
  · obtain ⟨j, hj⟩ : ∃ j, m.pend.length = j + 1 := ⟨m.pend.length - 1, by omega⟩
    have hjl : j < m.pend.length := by omega
    have hjb : j ≤ 1048576 := by omega
    obtain ⟨q, hq⟩ : ∃ q, m.pend[j]? = some q := ⟨m.pend[j], List.getElem?_eq_getElem hjl⟩
    obtain ⟨r, hr⟩ := pendB_found hp hq
    rw [pnOut_last hb hj hq hr]
    obtain ⟨kk, hm, hmr⟩ := idxB_some hr
    have hml : kk < m.rules.length := (List.getElem?_eq_some_iff.1 hmr).1
    have HQ := Lib.hid hq; have HR := Lib.hid hr; have HJL := Lib.hid hjl; have HJ := Lib.hid hj; have HM := Lib.hid hm; have HMR := Lib.hid hmr; have HML := Lib.hid hml
    clear hp hr hq hz hj hjl hm hmr hml hb
    obtain ⟨id, nm, rk, sd, de, am, nd, hs⟩ := r
    obtain ⟨qr, qm, qd⟩ := q
    go_enter Try.func18, Try.ntmps18
    go_upto_region 1 with fail
    have hq1 : Below w.heap.size w (World.alloc w (.cells #[.slice A0 m.rules.length c0, .slice A1 m.pend.length c1, .int .i64 m.turns, .int .i64 m.secs, .int .i64 m.spk, .slice A2 m.wait.length c2, .slice A3 m.shares.length c3, .slice A4 m.outs.length c4] 40)) := bl1 w _
    have hM : Blk (World.alloc w (.cells #[.slice A0 m.rules.length c0, .slice A1 m.pend.length c1, .int .i64 m.turns, .int .i64 m.secs, .int .i64 m.spk, .slice A2 m.wait.length c2, .slice A3 m.shares.length c3, .slice A4 m.outs.length c4] 40)) (w.heap.size) 40 #[.slice A0 m.rules.length c0, .slice A1 m.pend.length c1, .int .i64 m.turns, .int .i64 m.secs, .int .i64 m.spk, .slice A2 m.wait.length c2, .slice A3 m.shares.length c3, .slice A4 m.outs.length c4] := by repeat (first | exact Blk.new _ _ _ | exact Blk.new2 _ _ _ _ | exact Blk.new3 _ _ _ _ _ | exact Blk.new4 _ _ _ _ _ _ | refine Blk.alloc ?_ _)
    replace R0 := R0.below hq1
    replace R1 := R1.below hq1
    replace R2 := R2.below hq1
    replace R3 := R3.below hq1
    replace R4 := R4.below hq1
    generalize World.alloc w (.cells #[.slice A0 m.rules.length c0, .slice A1 m.pend.length c1, .int .i64 m.turns, .int .i64 m.secs, .int .i64 m.spk, .slice A2 m.wait.length c2, .slice A3 m.shares.length c3, .slice A4 m.outs.length c4] 40) = wX at *
    have HB := hq1
    have b0 := (hM.cell 0).trans (show _ = some (.slice A0 m.rules.length c0) from rfl)
    have b1 := (hM.cell 1).trans (show _ = some (.slice A1 m.pend.length c1) from rfl)
    have b2 := (hM.cell 2).trans (show _ = some (.int .i64 m.turns) from rfl)
    have b3 := (hM.cell 3).trans (show _ = some (.int .i64 m.secs) from rfl)
    have b4 := (hM.cell 4).trans (show _ = some (.int .i64 m.spk) from rfl)
    have b5 := (hM.cell 5).trans (show _ = some (.slice A2 m.wait.length c2) from rfl)
    have b6 := (hM.cell 6).trans (show _ = some (.slice A3 m.shares.length c3) from rfl)
    have b7 := (hM.cell 7).trans (show _ = some (.slice A4 m.outs.length c4) from rfl)
    go_wp2_with fail
    refine (iIsValidMeeting_is m A0 A1 A2 A3 A4 c0 c1 c2 c3 c4 h0 h1 h2 h3 h4 _ HV.out _ (R0.below (by repeat (first | exact Below.refl _ _ | refine Below.alloc ?_ (by first | exact Nat.le_refl _ | (simp <;> omega)) _ | refine Below.setCell ?_ (by first | exact Nat.le_refl _ | (simp <;> omega)) _))) (R1.below (by repeat (first | exact Below.refl _ _ | refine Below.alloc ?_ (by first | exact Nat.le_refl _ | (simp <;> omega)) _ | refine Below.setCell ?_ (by first | exact Nat.le_refl _ | (simp <;> omega)) _))) (R2.below (by repeat (first | exact Below.refl _ _ | refine Below.alloc ?_ (by first | exact Nat.le_refl _ | (simp <;> omega)) _ | refine Below.setCell ?_ (by first | exact Nat.le_refl _ | (simp <;> omega)) _))) (R3.below (by repeat (first | exact Below.refl _ _ | refine Below.alloc ?_ (by first | exact Nat.le_refl _ | (simp <;> omega)) _ | refine Below.setCell ?_ (by first | exact Nat.le_refl _ | (simp <;> omega)) _))) (R4.below (by repeat (first | exact Below.refl _ _ | refine Below.alloc ?_ (by first | exact Nat.le_refl _ | (simp <;> omega)) _ | refine Below.setCell ?_ (by first | exact Nat.le_refl _ | (simp <;> omega)) _))) k0 k1 k2 k3 k4).mono ?_
    rintro e w2 ⟨rfl, hb2⟩
    have hq2 : Below wX.heap.size wX w2 := bth (by repeat (first | exact Below.refl _ _ | refine Below.alloc ?_ (by first | exact Nat.le_refl _ | (simp <;> omega)) _ | refine Below.setCell ?_ (by first | exact Nat.le_refl _ | (simp <;> omega)) _)) hb2
    replace HB := bth HB hq2
    replace R0 := R0.below hq2
    replace R1 := R1.below hq2
    replace R2 := R2.below hq2
    replace R3 := R3.below hq2
    replace R4 := R4.below hq2
    replace hM := hM.below hq2 hM.lt
    replace b0 := (hM.cell 0).trans (show _ = some (.slice A0 m.rules.length c0) from rfl)
    replace b1 := (hM.cell 1).trans (show _ = some (.slice A1 m.pend.length c1) from rfl)
    replace b2 := (hM.cell 2).trans (show _ = some (.int .i64 m.turns) from rfl)
    replace b3 := (hM.cell 3).trans (show _ = some (.int .i64 m.secs) from rfl)
    replace b4 := (hM.cell 4).trans (show _ = some (.int .i64 m.spk) from rfl)
    replace b5 := (hM.cell 5).trans (show _ = some (.slice A2 m.wait.length c2) from rfl)
    replace b6 := (hM.cell 6).trans (show _ = some (.slice A3 m.shares.length c3) from rfl)
    replace b7 := (hM.cell 7).trans (show _ = some (.slice A4 m.outs.length c4) from rfl)
    have hj := HJ.out
    go_upto_region 3 with fail
    obtain ⟨bq, oq, q', rfl, hbl, hx, hcx⟩ := R1.at_ (Below.refl _ _) HJL.out
    obtain rfl := Option.some.inj (HQ.out.symm.trans hx)
    clear b0 b1 b2 b3 b4 b5 b6 b7
    have b0 := (hM.cell 0).trans (show _ = some (.slice A0 m.rules.length c0) from rfl)
    have b1 := (hM.cell 1).trans (show _ = some (.slice (some ⟨bq, oq, none⟩) m.pend.length c1) from rfl)
    have b2 := (hM.cell 2).trans (show _ = some (.int .i64 m.turns) from rfl)
    have b3 := (hM.cell 3).trans (show _ = some (.int .i64 m.secs) from rfl)
    have b4 := (hM.cell 4).trans (show _ = some (.int .i64 m.spk) from rfl)
    have b5 := (hM.cell 5).trans (show _ = some (.slice A2 m.wait.length c2) from rfl)
    have b6 := (hM.cell 6).trans (show _ = some (.slice A3 m.shares.length c3) from rfl)
    have b7 := (hM.cell 7).trans (show _ = some (.slice A4 m.outs.length c4) from rfl)
    have p0 := hcx 0 _ rfl
    have p1 := hcx 1 _ rfl
    have p2 := hcx 2 _ rfl
    simp only [Nat.add_zero] at p0
    clear hx hcx
    have PR := Lib.hid R0
    have hfd : ∀ W : World, (Instr.field 88 (.agg #[.int .i64 id, .string nm, .int .i64 rk, .bool sd, .bool de, .bool am, .int .i64 nd]) 1).run Try.prog W = .ok (.string nm) W := fun _ => by kernel_rfl
    clear b0 b1 b2 b3 b4 b5 b6 b7
    have b0 := fun K : Kin w2.heap.size w2 => ((hM.below K.below hM.lt).cell 0).trans (show _ = some (.slice A0 m.rules.length c0) from rfl)
    have b1 := fun K : Kin w2.heap.size w2 => ((hM.below K.below hM.lt).cell 1).trans (show _ = some (.slice (some ⟨bq, oq, none⟩) m.pend.length c1) from rfl)
    have b2 := fun K : Kin w2.heap.size w2 => ((hM.below K.below hM.lt).cell 2).trans (show _ = some (.int .i64 m.turns) from rfl)
    have b3 := fun K : Kin w2.heap.size w2 => ((hM.below K.below hM.lt).cell 3).trans (show _ = some (.int .i64 m.secs) from rfl)
    have b4 := fun K : Kin w2.heap.size w2 => ((hM.below K.below hM.lt).cell 4).trans (show _ = some (.int .i64 m.spk) from rfl)
    have b5 := fun K : Kin w2.heap.size w2 => ((hM.below K.below hM.lt).cell 5).trans (show _ = some (.slice A2 m.wait.length c2) from rfl)
    have b6 := fun K : Kin w2.heap.size w2 => ((hM.below K.below hM.lt).cell 6).trans (show _ = some (.slice A3 m.shares.length c3) from rfl)
    have b7 := fun K : Kin w2.heap.size w2 => ((hM.below K.below hM.lt).cell 7).trans (show _ = some (.slice A4 m.outs.length c4) from rfl)
    refine wp_region_kin (by kernel_rfl) (by kernel_rfl) ?_
    repeat (go_big_quiet_step (fail))
    go_big_quiet_step ((go_at_call 58; exact Kin.call _ (by first | exact Nat.le_refl _ | omega) (ruleOf_is A0 c0 m.rules h0 ⟨qr, qm, qd⟩ ⟨id, nm, rk, sd, de, am, nd, hs⟩ HR.out _ (PR.out.below (Kin.below _)))))
    repeat (go_big_quiet_step (fail))
    refine wpQuiet_nil ?_
    intro K
    go_wp2
    go_ret2
    exact ⟨rfl, bth HB K.below⟩
set_option maxHeartbeats 4000000 in
set_option maxRecDepth 100000 in
theorem sPendingName_is (m : Mee) (A0 A1 A2 A3 A4 : Option Addr) (c0 c1 c2 c3 c4 : Nat) (h0 : m.rules.length ≤ 1048576) (h1 : m.pend.length ≤ 1048576) (h2 : m.wait.length ≤ 1048576) (h3 : m.shares.length ≤ 1048576) (h4 : m.outs.length ≤ 1048576) (v : Value) (hv : pnOut m = v) (w : World) (R0 : Rds 7 Rul.cells w A0 m.rules) (R1 : Rds 3 Que.cells w A1 m.pend) (R2 : Rds 1 intC w A2 m.wait) (R3 : Rds 3 Sha.cells w A3 m.shares) (R4 : Rds 3 Out.cells w A4 m.outs) (k0 : m.rules.length ≤ c0) (k1 : m.pend.length ≤ c1) (k2 : m.wait.length ≤ c2) (k3 : m.shares.length ≤ c3) (k4 : m.outs.length ≤ c4) :
  Calls Try.prog 17 #[.agg #[.slice A0 m.rules.length c0, .slice A1 m.pend.length c1, .int .i64 m.turns, .int .i64 m.secs, .int .i64 m.spk, .slice A2 m.wait.length c2, .slice A3 m.shares.length c3, .slice A4 m.outs.length c4]] w fun e w' => e = .returned (v) ∧ Below w.heap.size w w' := by
  subst hv
  cases hb : meetB m
  · have HV := Lib.hid hb
    go_enter Try.func17, Try.ntmps17
    go_upto_region 1 with fail
    have hq1 : Below w.heap.size w (World.alloc w (.cells #[.slice A0 m.rules.length c0, .slice A1 m.pend.length c1, .int .i64 m.turns, .int .i64 m.secs, .int .i64 m.spk, .slice A2 m.wait.length c2, .slice A3 m.shares.length c3, .slice A4 m.outs.length c4] 40)) := bl1 w _
    have hM : Blk (World.alloc w (.cells #[.slice A0 m.rules.length c0, .slice A1 m.pend.length c1, .int .i64 m.turns, .int .i64 m.secs, .int .i64 m.spk, .slice A2 m.wait.length c2, .slice A3 m.shares.length c3, .slice A4 m.outs.length c4] 40)) (w.heap.size) 40 #[.slice A0 m.rules.length c0, .slice A1 m.pend.length c1, .int .i64 m.turns, .int .i64 m.secs, .int .i64 m.spk, .slice A2 m.wait.length c2, .slice A3 m.shares.length c3, .slice A4 m.outs.length c4] := by repeat (first | exact Blk.new _ _ _ | exact Blk.new2 _ _ _ _ | exact Blk.new3 _ _ _ _ _ | exact Blk.new4 _ _ _ _ _ _ | refine Blk.alloc ?_ _)
    replace R0 := R0.below hq1
    replace R1 := R1.below hq1
    replace R2 := R2.below hq1
    replace R3 := R3.below hq1
    replace R4 := R4.below hq1
    generalize World.alloc w (.cells #[.slice A0 m.rules.length c0, .slice A1 m.pend.length c1, .int .i64 m.turns, .int .i64 m.secs, .int .i64 m.spk, .slice A2 m.wait.length c2, .slice A3 m.shares.length c3, .slice A4 m.outs.length c4] 40) = wX at *
    have HB := hq1
    have b0 := (hM.cell 0).trans (show _ = some (.slice A0 m.rules.length c0) from rfl)
    have b1 := (hM.cell 1).trans (show _ = some (.slice A1 m.pend.length c1) from rfl)
    have b2 := (hM.cell 2).trans (show _ = some (.int .i64 m.turns) from rfl)
    have b3 := (hM.cell 3).trans (show _ = some (.int .i64 m.secs) from rfl)
    have b4 := (hM.cell 4).trans (show _ = some (.int .i64 m.spk) from rfl)
    have b5 := (hM.cell 5).trans (show _ = some (.slice A2 m.wait.length c2) from rfl)
    have b6 := (hM.cell 6).trans (show _ = some (.slice A3 m.shares.length c3) from rfl)
    have b7 := (hM.cell 7).trans (show _ = some (.slice A4 m.outs.length c4) from rfl)
    go_wp2_with fail
    refine (l25Good_is m A0 A1 A2 A3 A4 c0 c1 c2 c3 c4 h0 h1 h2 h3 h4 _ HV.out _ (R0.below (by repeat (first | exact Below.refl _ _ | refine Below.alloc ?_ (by first | exact Nat.le_refl _ | (simp <;> omega)) _ | refine Below.setCell ?_ (by first | exact Nat.le_refl _ | (simp <;> omega)) _))) (R1.below (by repeat (first | exact Below.refl _ _ | refine Below.alloc ?_ (by first | exact Nat.le_refl _ | (simp <;> omega)) _ | refine Below.setCell ?_ (by first | exact Nat.le_refl _ | (simp <;> omega)) _))) (R2.below (by repeat (first | exact Below.refl _ _ | refine Below.alloc ?_ (by first | exact Nat.le_refl _ | (simp <;> omega)) _ | refine Below.setCell ?_ (by first | exact Nat.le_refl _ | (simp <;> omega)) _))) (R3.below (by repeat (first | exact Below.refl _ _ | refine Below.alloc ?_ (by first | exact Nat.le_refl _ | (simp <;> omega)) _ | refine Below.setCell ?_ (by first | exact Nat.le_refl _ | (simp <;> omega)) _))) (R4.below (by repeat (first | exact Below.refl _ _ | refine Below.alloc ?_ (by first | exact Nat.le_refl _ | (simp <;> omega)) _ | refine Below.setCell ?_ (by first | exact Nat.le_refl _ | (simp <;> omega)) _))) k0 k1 k2 k3 k4).mono ?_
    rintro e w2 ⟨rfl, hb2⟩
    have hq2 : Below wX.heap.size wX w2 := bth (by repeat (first | exact Below.refl _ _ | refine Below.alloc ?_ (by first | exact Nat.le_refl _ | (simp <;> omega)) _ | refine Below.setCell ?_ (by first | exact Nat.le_refl _ | (simp <;> omega)) _)) hb2
    replace HB := bth HB hq2
    replace R0 := R0.below hq2
    replace R1 := R1.below hq2
    replace R2 := R2.below hq2
    replace R3 := R3.below hq2
    replace R4 := R4.below hq2
    replace hM := hM.below hq2 hM.lt
    replace b0 := (hM.cell 0).trans (show _ = some (.slice A0 m.rules.length c0) from rfl)
    replace b1 := (hM.cell 1).trans (show _ = some (.slice A1 m.pend.length c1) from rfl)
    replace b2 := (hM.cell 2).trans (show _ = some (.int .i64 m.turns) from rfl)
    replace b3 := (hM.cell 3).trans (show _ = some (.int .i64 m.secs) from rfl)
    replace b4 := (hM.cell 4).trans (show _ = some (.int .i64 m.spk) from rfl)
    replace b5 := (hM.cell 5).trans (show _ = some (.slice A2 m.wait.length c2) from rfl)
    replace b6 := (hM.cell 6).trans (show _ = some (.slice A3 m.shares.length c3) from rfl)
    replace b7 := (hM.cell 7).trans (show _ = some (.slice A4 m.outs.length c4) from rfl)
    go_wp2
    go_ret2
    rw [pnOut_bad HV.out]
    exact ⟨rfl, (bth HB (by repeat (first | exact Below.refl _ _ | refine Below.alloc ?_ (by first | exact Nat.le_refl _ | (simp <;> omega)) _ | refine Below.setCell ?_ (by first | exact Nat.le_refl _ | (simp <;> omega)) _)))⟩
  have HV := Lib.hid hb
  have hp := meetB_pend hb
  rcases Nat.eq_zero_or_pos m.pend.length with hz | hz
  · have HZ := Lib.hid hz; clear hz
    go_enter Try.func17, Try.ntmps17
    go_upto_region 1 with fail
    have hq1 : Below w.heap.size w (World.alloc w (.cells #[.slice A0 m.rules.length c0, .slice A1 m.pend.length c1, .int .i64 m.turns, .int .i64 m.secs, .int .i64 m.spk, .slice A2 m.wait.length c2, .slice A3 m.shares.length c3, .slice A4 m.outs.length c4] 40)) := bl1 w _
    have hM : Blk (World.alloc w (.cells #[.slice A0 m.rules.length c0, .slice A1 m.pend.length c1, .int .i64 m.turns, .int .i64 m.secs, .int .i64 m.spk, .slice A2 m.wait.length c2, .slice A3 m.shares.length c3, .slice A4 m.outs.length c4] 40)) (w.heap.size) 40 #[.slice A0 m.rules.length c0, .slice A1 m.pend.length c1, .int .i64 m.turns, .int .i64 m.secs, .int .i64 m.spk, .slice A2 m.wait.length c2, .slice A3 m.shares.length c3, .slice A4 m.outs.length c4] := by repeat (first | exact Blk.new _ _ _ | exact Blk.new2 _ _ _ _ | exact Blk.new3 _ _ _ _ _ | exact Blk.new4 _ _ _ _ _ _ | refine Blk.alloc ?_ _)
    replace R0 := R0.below hq1
    replace R1 := R1.below hq1
    replace R2 := R2.below hq1
    replace R3 := R3.below hq1
    replace R4 := R4.below hq1
    generalize World.alloc w (.cells #[.slice A0 m.rules.length c0, .slice A1 m.pend.length c1, .int .i64 m.turns, .int .i64 m.secs, .int .i64 m.spk, .slice A2 m.wait.length c2, .slice A3 m.shares.length c3, .slice A4 m.outs.length c4] 40) = wX at *
    have HB := hq1
    have b0 := (hM.cell 0).trans (show _ = some (.slice A0 m.rules.length c0) from rfl)
    have b1 := (hM.cell 1).trans (show _ = some (.slice A1 m.pend.length c1) from rfl)
    have b2 := (hM.cell 2).trans (show _ = some (.int .i64 m.turns) from rfl)
    have b3 := (hM.cell 3).trans (show _ = some (.int .i64 m.secs) from rfl)
    have b4 := (hM.cell 4).trans (show _ = some (.int .i64 m.spk) from rfl)
    have b5 := (hM.cell 5).trans (show _ = some (.slice A2 m.wait.length c2) from rfl)
    have b6 := (hM.cell 6).trans (show _ = some (.slice A3 m.shares.length c3) from rfl)
    have b7 := (hM.cell 7).trans (show _ = some (.slice A4 m.outs.length c4) from rfl)
    go_wp2_with fail
    refine (l25Good_is m A0 A1 A2 A3 A4 c0 c1 c2 c3 c4 h0 h1 h2 h3 h4 _ HV.out _ (R0.below (by repeat (first | exact Below.refl _ _ | refine Below.alloc ?_ (by first | exact Nat.le_refl _ | (simp <;> omega)) _ | refine Below.setCell ?_ (by first | exact Nat.le_refl _ | (simp <;> omega)) _))) (R1.below (by repeat (first | exact Below.refl _ _ | refine Below.alloc ?_ (by first | exact Nat.le_refl _ | (simp <;> omega)) _ | refine Below.setCell ?_ (by first | exact Nat.le_refl _ | (simp <;> omega)) _))) (R2.below (by repeat (first | exact Below.refl _ _ | refine Below.alloc ?_ (by first | exact Nat.le_refl _ | (simp <;> omega)) _ | refine Below.setCell ?_ (by first | exact Nat.le_refl _ | (simp <;> omega)) _))) (R3.below (by repeat (first | exact Below.refl _ _ | refine Below.alloc ?_ (by first | exact Nat.le_refl _ | (simp <;> omega)) _ | refine Below.setCell ?_ (by first | exact Nat.le_refl _ | (simp <;> omega)) _))) (R4.below (by repeat (first | exact Below.refl _ _ | refine Below.alloc ?_ (by first | exact Nat.le_refl _ | (simp <;> omega)) _ | refine Below.setCell ?_ (by first | exact Nat.le_refl _ | (simp <;> omega)) _))) k0 k1 k2 k3 k4).mono ?_
    rintro e w2 ⟨rfl, hb2⟩
    have hq2 : Below wX.heap.size wX w2 := bth (by repeat (first | exact Below.refl _ _ | refine Below.alloc ?_ (by first | exact Nat.le_refl _ | (simp <;> omega)) _ | refine Below.setCell ?_ (by first | exact Nat.le_refl _ | (simp <;> omega)) _)) hb2
    replace HB := bth HB hq2
    replace R0 := R0.below hq2
    replace R1 := R1.below hq2
    replace R2 := R2.below hq2
    replace R3 := R3.below hq2
    replace R4 := R4.below hq2
    replace hM := hM.below hq2 hM.lt
    replace b0 := (hM.cell 0).trans (show _ = some (.slice A0 m.rules.length c0) from rfl)
    replace b1 := (hM.cell 1).trans (show _ = some (.slice A1 m.pend.length c1) from rfl)
    replace b2 := (hM.cell 2).trans (show _ = some (.int .i64 m.turns) from rfl)
    replace b3 := (hM.cell 3).trans (show _ = some (.int .i64 m.secs) from rfl)
    replace b4 := (hM.cell 4).trans (show _ = some (.int .i64 m.spk) from rfl)
    replace b5 := (hM.cell 5).trans (show _ = some (.slice A2 m.wait.length c2) from rfl)
    replace b6 := (hM.cell 6).trans (show _ = some (.slice A3 m.shares.length c3) from rfl)
    replace b7 := (hM.cell 7).trans (show _ = some (.slice A4 m.outs.length c4) from rfl)
    have hz := HZ.out
    go_wp2
    go_ret2
    rw [pnOut_nil HZ.out]
    exact ⟨rfl, (bth HB (by repeat (first | exact Below.refl _ _ | refine Below.alloc ?_ (by first | exact Nat.le_refl _ | (simp <;> omega)) _ | refine Below.setCell ?_ (by first | exact Nat.le_refl _ | (simp <;> omega)) _)))⟩
  · obtain ⟨j, hj⟩ : ∃ j, m.pend.length = j + 1 := ⟨m.pend.length - 1, by omega⟩
    have hjl : j < m.pend.length := by omega
    have hjb : j ≤ 1048576 := by omega
    obtain ⟨q, hq⟩ : ∃ q, m.pend[j]? = some q := ⟨m.pend[j], List.getElem?_eq_getElem hjl⟩
    obtain ⟨r, hr⟩ := pendB_found hp hq
    rw [pnOut_last hb hj hq hr]
    obtain ⟨kk, hm, hmr⟩ := idxB_some hr
    have hml : kk < m.rules.length := (List.getElem?_eq_some_iff.1 hmr).1
    have HQ := Lib.hid hq; have HR := Lib.hid hr; have HJL := Lib.hid hjl; have HJ := Lib.hid hj; have HM := Lib.hid hm; have HMR := Lib.hid hmr; have HML := Lib.hid hml
    clear hp hr hq hz hj hjl hm hmr hml hb
    obtain ⟨id, nm, rk, sd, de, am, nd, hs⟩ := r
    obtain ⟨qr, qm, qd⟩ := q
    go_enter Try.func17, Try.ntmps17
    go_upto_region 1 with fail
    have hq1 : Below w.heap.size w (World.alloc w (.cells #[.slice A0 m.rules.length c0, .slice A1 m.pend.length c1, .int .i64 m.turns, .int .i64 m.secs, .int .i64 m.spk, .slice A2 m.wait.length c2, .slice A3 m.shares.length c3, .slice A4 m.outs.length c4] 40)) := bl1 w _
    have hM : Blk (World.alloc w (.cells #[.slice A0 m.rules.length c0, .slice A1 m.pend.length c1, .int .i64 m.turns, .int .i64 m.secs, .int .i64 m.spk, .slice A2 m.wait.length c2, .slice A3 m.shares.length c3, .slice A4 m.outs.length c4] 40)) (w.heap.size) 40 #[.slice A0 m.rules.length c0, .slice A1 m.pend.length c1, .int .i64 m.turns, .int .i64 m.secs, .int .i64 m.spk, .slice A2 m.wait.length c2, .slice A3 m.shares.length c3, .slice A4 m.outs.length c4] := by repeat (first | exact Blk.new _ _ _ | exact Blk.new2 _ _ _ _ | exact Blk.new3 _ _ _ _ _ | exact Blk.new4 _ _ _ _ _ _ | refine Blk.alloc ?_ _)
    replace R0 := R0.below hq1
    replace R1 := R1.below hq1
    replace R2 := R2.below hq1
    replace R3 := R3.below hq1
    replace R4 := R4.below hq1
    generalize World.alloc w (.cells #[.slice A0 m.rules.length c0, .slice A1 m.pend.length c1, .int .i64 m.turns, .int .i64 m.secs, .int .i64 m.spk, .slice A2 m.wait.length c2, .slice A3 m.shares.length c3, .slice A4 m.outs.length c4] 40) = wX at *
    have HB := hq1
    have b0 := (hM.cell 0).trans (show _ = some (.slice A0 m.rules.length c0) from rfl)
    have b1 := (hM.cell 1).trans (show _ = some (.slice A1 m.pend.length c1) from rfl)
    have b2 := (hM.cell 2).trans (show _ = some (.int .i64 m.turns) from rfl)
    have b3 := (hM.cell 3).trans (show _ = some (.int .i64 m.secs) from rfl)
    have b4 := (hM.cell 4).trans (show _ = some (.int .i64 m.spk) from rfl)
    have b5 := (hM.cell 5).trans (show _ = some (.slice A2 m.wait.length c2) from rfl)
    have b6 := (hM.cell 6).trans (show _ = some (.slice A3 m.shares.length c3) from rfl)
    have b7 := (hM.cell 7).trans (show _ = some (.slice A4 m.outs.length c4) from rfl)
    go_wp2_with fail
    refine (l25Good_is m A0 A1 A2 A3 A4 c0 c1 c2 c3 c4 h0 h1 h2 h3 h4 _ HV.out _ (R0.below (by repeat (first | exact Below.refl _ _ | refine Below.alloc ?_ (by first | exact Nat.le_refl _ | (simp <;> omega)) _ | refine Below.setCell ?_ (by first | exact Nat.le_refl _ | (simp <;> omega)) _))) (R1.below (by repeat (first | exact Below.refl _ _ | refine Below.alloc ?_ (by first | exact Nat.le_refl _ | (simp <;> omega)) _ | refine Below.setCell ?_ (by first | exact Nat.le_refl _ | (simp <;> omega)) _))) (R2.below (by repeat (first | exact Below.refl _ _ | refine Below.alloc ?_ (by first | exact Nat.le_refl _ | (simp <;> omega)) _ | refine Below.setCell ?_ (by first | exact Nat.le_refl _ | (simp <;> omega)) _))) (R3.below (by repeat (first | exact Below.refl _ _ | refine Below.alloc ?_ (by first | exact Nat.le_refl _ | (simp <;> omega)) _ | refine Below.setCell ?_ (by first | exact Nat.le_refl _ | (simp <;> omega)) _))) (R4.below (by repeat (first | exact Below.refl _ _ | refine Below.alloc ?_ (by first | exact Nat.le_refl _ | (simp <;> omega)) _ | refine Below.setCell ?_ (by first | exact Nat.le_refl _ | (simp <;> omega)) _))) k0 k1 k2 k3 k4).mono ?_
    rintro e w2 ⟨rfl, hb2⟩
    have hq2 : Below wX.heap.size wX w2 := bth (by repeat (first | exact Below.refl _ _ | refine Below.alloc ?_ (by first | exact Nat.le_refl _ | (simp <;> omega)) _ | refine Below.setCell ?_ (by first | exact Nat.le_refl _ | (simp <;> omega)) _)) hb2
    replace HB := bth HB hq2
    replace R0 := R0.below hq2
    replace R1 := R1.below hq2
    replace R2 := R2.below hq2
    replace R3 := R3.below hq2
    replace R4 := R4.below hq2
    replace hM := hM.below hq2 hM.lt
    replace b0 := (hM.cell 0).trans (show _ = some (.slice A0 m.rules.length c0) from rfl)
    replace b1 := (hM.cell 1).trans (show _ = some (.slice A1 m.pend.length c1) from rfl)
    replace b2 := (hM.cell 2).trans (show _ = some (.int .i64 m.turns) from rfl)
    replace b3 := (hM.cell 3).trans (show _ = some (.int .i64 m.secs) from rfl)
    replace b4 := (hM.cell 4).trans (show _ = some (.int .i64 m.spk) from rfl)
    replace b5 := (hM.cell 5).trans (show _ = some (.slice A2 m.wait.length c2) from rfl)
    replace b6 := (hM.cell 6).trans (show _ = some (.slice A3 m.shares.length c3) from rfl)
    replace b7 := (hM.cell 7).trans (show _ = some (.slice A4 m.outs.length c4) from rfl)
    have hj := HJ.out
    go_upto_region 4 with fail
    obtain ⟨bq, oq, q', rfl, hbl, hx, hcx⟩ := R1.at_ (Below.refl _ _) HJL.out
    obtain rfl := Option.some.inj (HQ.out.symm.trans hx)
    clear b0 b1 b2 b3 b4 b5 b6 b7
    have b0 := (hM.cell 0).trans (show _ = some (.slice A0 m.rules.length c0) from rfl)
    have b1 := (hM.cell 1).trans (show _ = some (.slice (some ⟨bq, oq, none⟩) m.pend.length c1) from rfl)
    have b2 := (hM.cell 2).trans (show _ = some (.int .i64 m.turns) from rfl)
    have b3 := (hM.cell 3).trans (show _ = some (.int .i64 m.secs) from rfl)
    have b4 := (hM.cell 4).trans (show _ = some (.int .i64 m.spk) from rfl)
    have b5 := (hM.cell 5).trans (show _ = some (.slice A2 m.wait.length c2) from rfl)
    have b6 := (hM.cell 6).trans (show _ = some (.slice A3 m.shares.length c3) from rfl)
    have b7 := (hM.cell 7).trans (show _ = some (.slice A4 m.outs.length c4) from rfl)
    have p0 := hcx 0 _ rfl
    have p1 := hcx 1 _ rfl
    have p2 := hcx 2 _ rfl
    simp only [Nat.add_zero] at p0
    clear hx hcx
    have PR := Lib.hid R0
    obtain ⟨bz, oz, r', hAe, hbl2, hx2, hcx2⟩ := R0.at_ (Below.refl _ _) HML.out
    obtain rfl := Option.some.inj (HMR.out.symm.trans hx2)
    have y1 := hcx2 1 _ rfl
    have hml := HML.out
    clear hx2 hcx2
    subst hAe
    clear b0 b1 b2 b3 b4 b5 b6 b7
    have b0 := (hM.cell 0).trans (show _ = some (.slice (some ⟨bz, oz, none⟩) m.rules.length c0) from rfl)
    have b1 := (hM.cell 1).trans (show _ = some (.slice (some ⟨bq, oq, none⟩) m.pend.length c1) from rfl)
    have b2 := (hM.cell 2).trans (show _ = some (.int .i64 m.turns) from rfl)
    have b3 := (hM.cell 3).trans (show _ = some (.int .i64 m.secs) from rfl)
    have b4 := (hM.cell 4).trans (show _ = some (.int .i64 m.spk) from rfl)
    have b5 := (hM.cell 5).trans (show _ = some (.slice A2 m.wait.length c2) from rfl)
    have b6 := (hM.cell 6).trans (show _ = some (.slice A3 m.shares.length c3) from rfl)
    have b7 := (hM.cell 7).trans (show _ = some (.slice A4 m.outs.length c4) from rfl)
    clear b0 b1 b2 b3 b4 b5 b6 b7
    have b0 := fun K : Kin w2.heap.size w2 => ((hM.below K.below hM.lt).cell 0).trans (show _ = some (.slice (some ⟨bz, oz, none⟩) m.rules.length c0) from rfl)
    have b1 := fun K : Kin w2.heap.size w2 => ((hM.below K.below hM.lt).cell 1).trans (show _ = some (.slice (some ⟨bq, oq, none⟩) m.pend.length c1) from rfl)
    have b2 := fun K : Kin w2.heap.size w2 => ((hM.below K.below hM.lt).cell 2).trans (show _ = some (.int .i64 m.turns) from rfl)
    have b3 := fun K : Kin w2.heap.size w2 => ((hM.below K.below hM.lt).cell 3).trans (show _ = some (.int .i64 m.secs) from rfl)
    have b4 := fun K : Kin w2.heap.size w2 => ((hM.below K.below hM.lt).cell 4).trans (show _ = some (.int .i64 m.spk) from rfl)
    have b5 := fun K : Kin w2.heap.size w2 => ((hM.below K.below hM.lt).cell 5).trans (show _ = some (.slice A2 m.wait.length c2) from rfl)
    have b6 := fun K : Kin w2.heap.size w2 => ((hM.below K.below hM.lt).cell 6).trans (show _ = some (.slice A3 m.shares.length c3) from rfl)
    have b7 := fun K : Kin w2.heap.size w2 => ((hM.below K.below hM.lt).cell 7).trans (show _ = some (.slice A4 m.outs.length c4) from rfl)
    refine wp_region_kin (by kernel_rfl) (by kernel_rfl) ?_
    repeat (go_big_quiet_step (fail))
    go_big_quiet_step ((go_at_call 57; exact Kin.same _ (l2Find_is _ c0 m.rules h0 qr _ HM.out _ (PR.out.below (Kin.below _)))))
    repeat (go_big_quiet_step (fail))
    refine wpQuiet_nil ?_
    intro K
    go_wp2
    go_ret2
    exact ⟨rfl, bth HB K.below⟩
theorem movd_skip {os : List Out} {n : Int} {k : Nat} {o : Out} (hx : os[k]? = some o) (h : (o.mover == n) = false) : movd os n (k + 1) = movd os n k := by simp [movd, hx, h]
theorem movd_yes {os : List Out} {n : Int} {k : Nat} {o : Out} (hx : os[k]? = some o) (h : (o.mover == n) = true) : movd os n (k + 1) = ((movd os n k).1 + 1, (movd os n k).2 + (if o.ado then 1 else 0)) := by simp [movd, hx, h]
set_option maxHeartbeats 4000000 in
set_option maxRecDepth 100000 in
theorem iMovedBy_is (m : Mee) (A0 A1 A2 A3 A4 : Option Addr) (c0 c1 c2 c3 c4 : Nat) (h0 : m.rules.length ≤ 1048576) (h1 : m.pend.length ≤ 1048576) (h2 : m.wait.length ≤ 1048576) (h3 : m.shares.length ≤ 1048576) (h4 : m.outs.length ≤ 1048576) (n : Int) (v : Value) (hv : mvOut m n = v) (w : World) (R0 : Rds 7 Rul.cells w A0 m.rules) (R1 : Rds 3 Que.cells w A1 m.pend) (R2 : Rds 1 intC w A2 m.wait) (R3 : Rds 3 Sha.cells w A3 m.shares) (R4 : Rds 3 Out.cells w A4 m.outs) (k0 : m.rules.length ≤ c0) (k1 : m.pend.length ≤ c1) (k2 : m.wait.length ≤ c2) (k3 : m.shares.length ≤ c3) (k4 : m.outs.length ≤ c4) :
  Calls Try.prog 20 #[.agg #[.slice A0 m.rules.length c0, .slice A1 m.pend.length c1, .int .i64 m.turns, .int .i64 m.secs, .int .i64 m.spk, .slice A2 m.wait.length c2, .slice A3 m.shares.length c3, .slice A4 m.outs.length c4], .int .i64 n] w fun e w' => e = .returned (v) ∧ Below w.heap.size w w' := by
  subst hv
  cases hb : meetB m
  · have HV := Lib.hid hb
    go_enter Try.func20, Try.ntmps20
    go_upto_region 1 with fail
    have hq1 : Below w.heap.size w (World.alloc w (.cells #[.slice A0 m.rules.length c0, .slice A1 m.pend.length c1, .int .i64 m.turns, .int .i64 m.secs, .int .i64 m.spk, .slice A2 m.wait.length c2, .slice A3 m.shares.length c3, .slice A4 m.outs.length c4] 40)) := bl1 w _
    have hM : Blk (World.alloc w (.cells #[.slice A0 m.rules.length c0, .slice A1 m.pend.length c1, .int .i64 m.turns, .int .i64 m.secs, .int .i64 m.spk, .slice A2 m.wait.length c2, .slice A3 m.shares.length c3, .slice A4 m.outs.length c4] 40)) (w.heap.size) 40 #[.slice A0 m.rules.length c0, .slice A1 m.pend.length c1, .int .i64 m.turns, .int .i64 m.secs, .int .i64 m.spk, .slice A2 m.wait.length c2, .slice A3 m.shares.length c3, .slice A4 m.outs.length c4] := by repeat (first | exact Blk.new _ _ _ | exact Blk.new2 _ _ _ _ | exact Blk.new3 _ _ _ _ _ | exact Blk.new4 _ _ _ _ _ _ | refine Blk.alloc ?_ _)
    replace R0 := R0.below hq1
    replace R1 := R1.below hq1
    replace R2 := R2.below hq1
    replace R3 := R3.below hq1
    replace R4 := R4.below hq1
    generalize World.alloc w (.cells #[.slice A0 m.rules.length c0, .slice A1 m.pend.length c1, .int .i64 m.turns, .int .i64 m.secs, .int .i64 m.spk, .slice A2 m.wait.length c2, .slice A3 m.shares.length c3, .slice A4 m.outs.length c4] 40) = wX at *
    have HB := hq1
    have b0 := (hM.cell 0).trans (show _ = some (.slice A0 m.rules.length c0) from rfl)
    have b1 := (hM.cell 1).trans (show _ = some (.slice A1 m.pend.length c1) from rfl)
    have b2 := (hM.cell 2).trans (show _ = some (.int .i64 m.turns) from rfl)
    have b3 := (hM.cell 3).trans (show _ = some (.int .i64 m.secs) from rfl)
    have b4 := (hM.cell 4).trans (show _ = some (.int .i64 m.spk) from rfl)
    have b5 := (hM.cell 5).trans (show _ = some (.slice A2 m.wait.length c2) from rfl)
    have b6 := (hM.cell 6).trans (show _ = some (.slice A3 m.shares.length c3) from rfl)
    have b7 := (hM.cell 7).trans (show _ = some (.slice A4 m.outs.length c4) from rfl)
    go_wp2_with fail
    refine (iIsValidMeeting_is m A0 A1 A2 A3 A4 c0 c1 c2 c3 c4 h0 h1 h2 h3 h4 _ HV.out _ (R0.below (by repeat (first | exact Below.refl _ _ | refine Below.alloc ?_ (by first | exact Nat.le_refl _ | (simp <;> omega)) _ | refine Below.setCell ?_ (by first | exact Nat.le_refl _ | (simp <;> omega)) _))) (R1.below (by repeat (first | exact Below.refl _ _ | refine Below.alloc ?_ (by first | exact Nat.le_refl _ | (simp <;> omega)) _ | refine Below.setCell ?_ (by first | exact Nat.le_refl _ | (simp <;> omega)) _))) (R2.below (by repeat (first | exact Below.refl _ _ | refine Below.alloc ?_ (by first | exact Nat.le_refl _ | (simp <;> omega)) _ | refine Below.setCell ?_ (by first | exact Nat.le_refl _ | (simp <;> omega)) _))) (R3.below (by repeat (first | exact Below.refl _ _ | refine Below.alloc ?_ (by first | exact Nat.le_refl _ | (simp <;> omega)) _ | refine Below.setCell ?_ (by first | exact Nat.le_refl _ | (simp <;> omega)) _))) (R4.below (by repeat (first | exact Below.refl _ _ | refine Below.alloc ?_ (by first | exact Nat.le_refl _ | (simp <;> omega)) _ | refine Below.setCell ?_ (by first | exact Nat.le_refl _ | (simp <;> omega)) _))) k0 k1 k2 k3 k4).mono ?_
    rintro e w2 ⟨rfl, hb2⟩
    have hq2 : Below wX.heap.size wX w2 := bth (by repeat (first | exact Below.refl _ _ | refine Below.alloc ?_ (by first | exact Nat.le_refl _ | (simp <;> omega)) _ | refine Below.setCell ?_ (by first | exact Nat.le_refl _ | (simp <;> omega)) _)) hb2
    replace HB := bth HB hq2
    replace R0 := R0.below hq2
    replace R1 := R1.below hq2
    replace R2 := R2.below hq2
    replace R3 := R3.below hq2
    replace R4 := R4.below hq2
    replace hM := hM.below hq2 hM.lt
    replace b0 := (hM.cell 0).trans (show _ = some (.slice A0 m.rules.length c0) from rfl)
    replace b1 := (hM.cell 1).trans (show _ = some (.slice A1 m.pend.length c1) from rfl)
    replace b2 := (hM.cell 2).trans (show _ = some (.int .i64 m.turns) from rfl)
    replace b3 := (hM.cell 3).trans (show _ = some (.int .i64 m.secs) from rfl)
    replace b4 := (hM.cell 4).trans (show _ = some (.int .i64 m.spk) from rfl)
    replace b5 := (hM.cell 5).trans (show _ = some (.slice A2 m.wait.length c2) from rfl)
    replace b6 := (hM.cell 6).trans (show _ = some (.slice A3 m.shares.length c3) from rfl)
    replace b7 := (hM.cell 7).trans (show _ = some (.slice A4 m.outs.length c4) from rfl)
    go_wp2
    simp only [mvOut, HV.out]
    exact bodyPost_ret (v := .tuple #[.int .i64 0, .int .i64 0, .bool false]) (by simp [results, Try.results20, go_sem]) rfl ⟨rfl, (bth HB (by repeat (first | exact Below.refl _ _ | refine Below.alloc ?_ (by first | exact Nat.le_refl _ | (simp <;> omega)) _ | refine Below.setCell ?_ (by first | exact Nat.le_refl _ | (simp <;> omega)) _)))⟩
  have HV := Lib.hid hb; clear hb
  cases hn : memB n
  · have HN := Lib.hid hn; clear hn
    go_enter Try.func20, Try.ntmps20
    go_upto_region 1 with fail
    have hq1 : Below w.heap.size w (World.alloc w (.cells #[.slice A0 m.rules.length c0, .slice A1 m.pend.length c1, .int .i64 m.turns, .int .i64 m.secs, .int .i64 m.spk, .slice A2 m.wait.length c2, .slice A3 m.shares.length c3, .slice A4 m.outs.length c4] 40)) := bl1 w _
    have hM : Blk (World.alloc w (.cells #[.slice A0 m.rules.length c0, .slice A1 m.pend.length c1, .int .i64 m.turns, .int .i64 m.secs, .int .i64 m.spk, .slice A2 m.wait.length c2, .slice A3 m.shares.length c3, .slice A4 m.outs.length c4] 40)) (w.heap.size) 40 #[.slice A0 m.rules.length c0, .slice A1 m.pend.length c1, .int .i64 m.turns, .int .i64 m.secs, .int .i64 m.spk, .slice A2 m.wait.length c2, .slice A3 m.shares.length c3, .slice A4 m.outs.length c4] := by repeat (first | exact Blk.new _ _ _ | exact Blk.new2 _ _ _ _ | exact Blk.new3 _ _ _ _ _ | exact Blk.new4 _ _ _ _ _ _ | refine Blk.alloc ?_ _)
    replace R0 := R0.below hq1
    replace R1 := R1.below hq1
    replace R2 := R2.below hq1
    replace R3 := R3.below hq1
    replace R4 := R4.below hq1
    generalize World.alloc w (.cells #[.slice A0 m.rules.length c0, .slice A1 m.pend.length c1, .int .i64 m.turns, .int .i64 m.secs, .int .i64 m.spk, .slice A2 m.wait.length c2, .slice A3 m.shares.length c3, .slice A4 m.outs.length c4] 40) = wX at *
    have HB := hq1
    have b0 := (hM.cell 0).trans (show _ = some (.slice A0 m.rules.length c0) from rfl)
    have b1 := (hM.cell 1).trans (show _ = some (.slice A1 m.pend.length c1) from rfl)
    have b2 := (hM.cell 2).trans (show _ = some (.int .i64 m.turns) from rfl)
    have b3 := (hM.cell 3).trans (show _ = some (.int .i64 m.secs) from rfl)
    have b4 := (hM.cell 4).trans (show _ = some (.int .i64 m.spk) from rfl)
    have b5 := (hM.cell 5).trans (show _ = some (.slice A2 m.wait.length c2) from rfl)
    have b6 := (hM.cell 6).trans (show _ = some (.slice A3 m.shares.length c3) from rfl)
    have b7 := (hM.cell 7).trans (show _ = some (.slice A4 m.outs.length c4) from rfl)
    go_wp2_with fail
    refine (iIsValidMeeting_is m A0 A1 A2 A3 A4 c0 c1 c2 c3 c4 h0 h1 h2 h3 h4 _ HV.out _ (R0.below (by repeat (first | exact Below.refl _ _ | refine Below.alloc ?_ (by first | exact Nat.le_refl _ | (simp <;> omega)) _ | refine Below.setCell ?_ (by first | exact Nat.le_refl _ | (simp <;> omega)) _))) (R1.below (by repeat (first | exact Below.refl _ _ | refine Below.alloc ?_ (by first | exact Nat.le_refl _ | (simp <;> omega)) _ | refine Below.setCell ?_ (by first | exact Nat.le_refl _ | (simp <;> omega)) _))) (R2.below (by repeat (first | exact Below.refl _ _ | refine Below.alloc ?_ (by first | exact Nat.le_refl _ | (simp <;> omega)) _ | refine Below.setCell ?_ (by first | exact Nat.le_refl _ | (simp <;> omega)) _))) (R3.below (by repeat (first | exact Below.refl _ _ | refine Below.alloc ?_ (by first | exact Nat.le_refl _ | (simp <;> omega)) _ | refine Below.setCell ?_ (by first | exact Nat.le_refl _ | (simp <;> omega)) _))) (R4.below (by repeat (first | exact Below.refl _ _ | refine Below.alloc ?_ (by first | exact Nat.le_refl _ | (simp <;> omega)) _ | refine Below.setCell ?_ (by first | exact Nat.le_refl _ | (simp <;> omega)) _))) k0 k1 k2 k3 k4).mono ?_
    rintro e w2 ⟨rfl, hb2⟩
    have hq2 : Below wX.heap.size wX w2 := bth (by repeat (first | exact Below.refl _ _ | refine Below.alloc ?_ (by first | exact Nat.le_refl _ | (simp <;> omega)) _ | refine Below.setCell ?_ (by first | exact Nat.le_refl _ | (simp <;> omega)) _)) hb2
    replace HB := bth HB hq2
    replace R0 := R0.below hq2
    replace R1 := R1.below hq2
    replace R2 := R2.below hq2
    replace R3 := R3.below hq2
    replace R4 := R4.below hq2
    replace hM := hM.below hq2 hM.lt
    replace b0 := (hM.cell 0).trans (show _ = some (.slice A0 m.rules.length c0) from rfl)
    replace b1 := (hM.cell 1).trans (show _ = some (.slice A1 m.pend.length c1) from rfl)
    replace b2 := (hM.cell 2).trans (show _ = some (.int .i64 m.turns) from rfl)
    replace b3 := (hM.cell 3).trans (show _ = some (.int .i64 m.secs) from rfl)
    replace b4 := (hM.cell 4).trans (show _ = some (.int .i64 m.spk) from rfl)
    replace b5 := (hM.cell 5).trans (show _ = some (.slice A2 m.wait.length c2) from rfl)
    replace b6 := (hM.cell 6).trans (show _ = some (.slice A3 m.shares.length c3) from rfl)
    replace b7 := (hM.cell 7).trans (show _ = some (.slice A4 m.outs.length c4) from rfl)
    go_wp2_with fail
    refine (isMember_is n _ HN.out _).mono ?_
    rintro e w0 ⟨rfl, h0⟩
    rw [h0]
    clear h0 w0
    go_wp2
    simp only [mvOut, HV.out, HN.out]
    exact bodyPost_ret (v := .tuple #[.int .i64 0, .int .i64 0, .bool false]) (by simp [results, Try.results20, go_sem]) rfl ⟨rfl, (bth HB (by repeat (first | exact Below.refl _ _ | refine Below.alloc ?_ (by first | exact Nat.le_refl _ | (simp <;> omega)) _ | refine Below.setCell ?_ (by first | exact Nat.le_refl _ | (simp <;> omega)) _)))⟩
  have HN := Lib.hid hn; clear hn
  go_enter Try.func20, Try.ntmps20
  go_upto_region 1 with fail
  have hq1 : Below w.heap.size w (World.alloc w (.cells #[.slice A0 m.rules.length c0, .slice A1 m.pend.length c1, .int .i64 m.turns, .int .i64 m.secs, .int .i64 m.spk, .slice A2 m.wait.length c2, .slice A3 m.shares.length c3, .slice A4 m.outs.length c4] 40)) := bl1 w _
  have hM : Blk (World.alloc w (.cells #[.slice A0 m.rules.length c0, .slice A1 m.pend.length c1, .int .i64 m.turns, .int .i64 m.secs, .int .i64 m.spk, .slice A2 m.wait.length c2, .slice A3 m.shares.length c3, .slice A4 m.outs.length c4] 40)) (w.heap.size) 40 #[.slice A0 m.rules.length c0, .slice A1 m.pend.length c1, .int .i64 m.turns, .int .i64 m.secs, .int .i64 m.spk, .slice A2 m.wait.length c2, .slice A3 m.shares.length c3, .slice A4 m.outs.length c4] := by repeat (first | exact Blk.new _ _ _ | exact Blk.new2 _ _ _ _ | exact Blk.new3 _ _ _ _ _ | exact Blk.new4 _ _ _ _ _ _ | refine Blk.alloc ?_ _)
  replace R0 := R0.below hq1
  replace R1 := R1.below hq1
  replace R2 := R2.below hq1
  replace R3 := R3.below hq1
  replace R4 := R4.below hq1
  generalize World.alloc w (.cells #[.slice A0 m.rules.length c0, .slice A1 m.pend.length c1, .int .i64 m.turns, .int .i64 m.secs, .int .i64 m.spk, .slice A2 m.wait.length c2, .slice A3 m.shares.length c3, .slice A4 m.outs.length c4] 40) = wX at *
  have HB := hq1
  have b0 := (hM.cell 0).trans (show _ = some (.slice A0 m.rules.length c0) from rfl)
  have b1 := (hM.cell 1).trans (show _ = some (.slice A1 m.pend.length c1) from rfl)
  have b2 := (hM.cell 2).trans (show _ = some (.int .i64 m.turns) from rfl)
  have b3 := (hM.cell 3).trans (show _ = some (.int .i64 m.secs) from rfl)
  have b4 := (hM.cell 4).trans (show _ = some (.int .i64 m.spk) from rfl)
  have b5 := (hM.cell 5).trans (show _ = some (.slice A2 m.wait.length c2) from rfl)
  have b6 := (hM.cell 6).trans (show _ = some (.slice A3 m.shares.length c3) from rfl)
  have b7 := (hM.cell 7).trans (show _ = some (.slice A4 m.outs.length c4) from rfl)
  go_wp2_with fail
  refine (iIsValidMeeting_is m A0 A1 A2 A3 A4 c0 c1 c2 c3 c4 h0 h1 h2 h3 h4 _ HV.out _ (R0.below (by repeat (first | exact Below.refl _ _ | refine Below.alloc ?_ (by first | exact Nat.le_refl _ | (simp <;> omega)) _ | refine Below.setCell ?_ (by first | exact Nat.le_refl _ | (simp <;> omega)) _))) (R1.below (by repeat (first | exact Below.refl _ _ | refine Below.alloc ?_ (by first | exact Nat.le_refl _ | (simp <;> omega)) _ | refine Below.setCell ?_ (by first | exact Nat.le_refl _ | (simp <;> omega)) _))) (R2.below (by repeat (first | exact Below.refl _ _ | refine Below.alloc ?_ (by first | exact Nat.le_refl _ | (simp <;> omega)) _ | refine Below.setCell ?_ (by first | exact Nat.le_refl _ | (simp <;> omega)) _))) (R3.below (by repeat (first | exact Below.refl _ _ | refine Below.alloc ?_ (by first | exact Nat.le_refl _ | (simp <;> omega)) _ | refine Below.setCell ?_ (by first | exact Nat.le_refl _ | (simp <;> omega)) _))) (R4.below (by repeat (first | exact Below.refl _ _ | refine Below.alloc ?_ (by first | exact Nat.le_refl _ | (simp <;> omega)) _ | refine Below.setCell ?_ (by first | exact Nat.le_refl _ | (simp <;> omega)) _))) k0 k1 k2 k3 k4).mono ?_
  rintro e w2 ⟨rfl, hb2⟩
  have hq2 : Below wX.heap.size wX w2 := bth (by repeat (first | exact Below.refl _ _ | refine Below.alloc ?_ (by first | exact Nat.le_refl _ | (simp <;> omega)) _ | refine Below.setCell ?_ (by first | exact Nat.le_refl _ | (simp <;> omega)) _)) hb2
  replace HB := bth HB hq2
  replace R0 := R0.below hq2
  replace R1 := R1.below hq2
  replace R2 := R2.below hq2
  replace R3 := R3.below hq2
  replace R4 := R4.below hq2
  replace hM := hM.below hq2 hM.lt
  replace b0 := (hM.cell 0).trans (show _ = some (.slice A0 m.rules.length c0) from rfl)
  replace b1 := (hM.cell 1).trans (show _ = some (.slice A1 m.pend.length c1) from rfl)
  replace b2 := (hM.cell 2).trans (show _ = some (.int .i64 m.turns) from rfl)
  replace b3 := (hM.cell 3).trans (show _ = some (.int .i64 m.secs) from rfl)
  replace b4 := (hM.cell 4).trans (show _ = some (.int .i64 m.spk) from rfl)
  replace b5 := (hM.cell 5).trans (show _ = some (.slice A2 m.wait.length c2) from rfl)
  replace b6 := (hM.cell 6).trans (show _ = some (.slice A3 m.shares.length c3) from rfl)
  replace b7 := (hM.cell 7).trans (show _ = some (.slice A4 m.outs.length c4) from rfl)
  go_wp2_with fail
  refine (isMember_is n _ HN.out _).mono ?_
  rintro e w0 ⟨rfl, h0⟩
  rw [h0]
  clear h0 w0
  go_wp2
  clear b0 b1 b2 b3 b4 b5 b6 b7
  go_loopw [7, 8, 22] (fun a b i wr => ∃ k : Nat, k ≤ m.outs.length ∧ i = .int .i64 k ∧ a = .int .i64 (movd m.outs n k).1 ∧ b = .int .i64 (movd m.outs n k).2 ∧ Below w.heap.size w wr ∧ Below w2.heap.size w2 wr) (fun _ _ i _ => m.outs.length - (intOf i).toNat)
  case atStart => exact ⟨0, Nat.zero_le _, rfl, rfl, rfl, HB, Below.refl _ _⟩
  case round =>
    obtain ⟨k, hk, rfl, rfl, rfl, hbw, hb⟩ := hrel
    by_cases hlt : k < m.outs.length
    · obtain ⟨bq, oq, x, rfl, hbl, hx, hcx⟩ := R4.at_ hb hlt
      obtain ⟨xr, xm, xa⟩ := x
      have p0 := hcx 0 _ rfl
      have p1 := hcx 1 _ rfl
      have p2 := hcx 2 _ rfl
      simp only [Nat.add_zero] at p0
      have g0 := p0 (Kin.self _)
      have g1 := p1 (Kin.self _)
      have g2 := p2 (Kin.self _)
      simp only [Kin.self] at g0
      simp only [Kin.self] at g1
      simp only [Kin.self] at g2
      have HX := Lib.hid hx; clear hx hcx p0 p1 p2
      have hbd := movd_bd m.outs n k
      cases hm : (xm == n)
      · have hne : (xm != n) = true := by simp [bne, hm]
        have hs := movd_skip HX.out hm
        have HS := Lib.hid hs; clear hs
        go_wp2
        go_roundw
        case rel => exact ⟨k + 1, by omega, by go_num, by rw [HS.out], by rw [HS.out], bth hbw (bl1 _ _), bth hb (bl1 _ _)⟩
        case measure => simp [intOf]; omega
      · have hne : (xm != n) = false := by simp [bne, hm]
        have hs := movd_yes HX.out hm
        have HS := Lib.hid hs; clear hs HX
        cases xa
        · go_wp2
          go_roundw
          case rel => exact ⟨k + 1, by omega, by go_num, by rw [HS.out], by rw [HS.out]; simp, bth hbw (bl1 _ _), bth hb (bl1 _ _)⟩
          case measure => simp [intOf]; omega
        · go_wp2
          go_roundw
          case rel => exact ⟨k + 1, by omega, by go_num, by rw [HS.out], by rw [HS.out]; simp, bth hbw (bl1 _ _), bth hb (bl1 _ _)⟩
          case measure => simp [intOf]; omega
    · obtain rfl : k = m.outs.length := by omega
      go_wp2
      simp only [mvOut, HV.out, HN.out]
      exact bodyPost_ret (v := .tuple #[.int .i64 (movd m.outs n m.outs.length).1, .int .i64 (movd m.outs n m.outs.length).2, .bool true]) (by simp [results, Try.results20, go_sem]) rfl ⟨rfl, hbw⟩
set_option maxHeartbeats 4000000 in
set_option maxRecDepth 100000 in
theorem sMovedBy_is (m : Mee) (A0 A1 A2 A3 A4 : Option Addr) (c0 c1 c2 c3 c4 : Nat) (h0 : m.rules.length ≤ 1048576) (h1 : m.pend.length ≤ 1048576) (h2 : m.wait.length ≤ 1048576) (h3 : m.shares.length ≤ 1048576) (h4 : m.outs.length ≤ 1048576) (n : Int) (v : Value) (hv : mvOut m n = v) (w : World) (R0 : Rds 7 Rul.cells w A0 m.rules) (R1 : Rds 3 Que.cells w A1 m.pend) (R2 : Rds 1 intC w A2 m.wait) (R3 : Rds 3 Sha.cells w A3 m.shares) (R4 : Rds 3 Out.cells w A4 m.outs) (k0 : m.rules.length ≤ c0) (k1 : m.pend.length ≤ c1) (k2 : m.wait.length ≤ c2) (k3 : m.shares.length ≤ c3) (k4 : m.outs.length ≤ c4) :
  Calls Try.prog 19 #[.agg #[.slice A0 m.rules.length c0, .slice A1 m.pend.length c1, .int .i64 m.turns, .int .i64 m.secs, .int .i64 m.spk, .slice A2 m.wait.length c2, .slice A3 m.shares.length c3, .slice A4 m.outs.length c4], .int .i64 n] w fun e w' => e = .returned (v) ∧ Below w.heap.size w w' := by
  subst hv
  cases hb : meetB m
  · have HV := Lib.hid hb
    go_enter Try.func19, Try.ntmps19
    go_upto_region 1 with fail
    have hq1 : Below w.heap.size w (World.alloc w (.cells #[.slice A0 m.rules.length c0, .slice A1 m.pend.length c1, .int .i64 m.turns, .int .i64 m.secs, .int .i64 m.spk, .slice A2 m.wait.length c2, .slice A3 m.shares.length c3, .slice A4 m.outs.length c4] 40)) := bl1 w _
    have hM : Blk (World.alloc w (.cells #[.slice A0 m.rules.length c0, .slice A1 m.pend.length c1, .int .i64 m.turns, .int .i64 m.secs, .int .i64 m.spk, .slice A2 m.wait.length c2, .slice A3 m.shares.length c3, .slice A4 m.outs.length c4] 40)) (w.heap.size) 40 #[.slice A0 m.rules.length c0, .slice A1 m.pend.length c1, .int .i64 m.turns, .int .i64 m.secs, .int .i64 m.spk, .slice A2 m.wait.length c2, .slice A3 m.shares.length c3, .slice A4 m.outs.length c4] := by repeat (first | exact Blk.new _ _ _ | exact Blk.new2 _ _ _ _ | exact Blk.new3 _ _ _ _ _ | exact Blk.new4 _ _ _ _ _ _ | refine Blk.alloc ?_ _)
    replace R0 := R0.below hq1
    replace R1 := R1.below hq1
    replace R2 := R2.below hq1
    replace R3 := R3.below hq1
    replace R4 := R4.below hq1
    generalize World.alloc w (.cells #[.slice A0 m.rules.length c0, .slice A1 m.pend.length c1, .int .i64 m.turns, .int .i64 m.secs, .int .i64 m.spk, .slice A2 m.wait.length c2, .slice A3 m.shares.length c3, .slice A4 m.outs.length c4] 40) = wX at *
    have HB := hq1
    have b0 := (hM.cell 0).trans (show _ = some (.slice A0 m.rules.length c0) from rfl)
    have b1 := (hM.cell 1).trans (show _ = some (.slice A1 m.pend.length c1) from rfl)
    have b2 := (hM.cell 2).trans (show _ = some (.int .i64 m.turns) from rfl)
    have b3 := (hM.cell 3).trans (show _ = some (.int .i64 m.secs) from rfl)
    have b4 := (hM.cell 4).trans (show _ = some (.int .i64 m.spk) from rfl)
    have b5 := (hM.cell 5).trans (show _ = some (.slice A2 m.wait.length c2) from rfl)
    have b6 := (hM.cell 6).trans (show _ = some (.slice A3 m.shares.length c3) from rfl)
    have b7 := (hM.cell 7).trans (show _ = some (.slice A4 m.outs.length c4) from rfl)
    go_wp2_with fail
    refine (l25Good_is m A0 A1 A2 A3 A4 c0 c1 c2 c3 c4 h0 h1 h2 h3 h4 _ HV.out _ (R0.below (by repeat (first | exact Below.refl _ _ | refine Below.alloc ?_ (by first | exact Nat.le_refl _ | (simp <;> omega)) _ | refine Below.setCell ?_ (by first | exact Nat.le_refl _ | (simp <;> omega)) _))) (R1.below (by repeat (first | exact Below.refl _ _ | refine Below.alloc ?_ (by first | exact Nat.le_refl _ | (simp <;> omega)) _ | refine Below.setCell ?_ (by first | exact Nat.le_refl _ | (simp <;> omega)) _))) (R2.below (by repeat (first | exact Below.refl _ _ | refine Below.alloc ?_ (by first | exact Nat.le_refl _ | (simp <;> omega)) _ | refine Below.setCell ?_ (by first | exact Nat.le_refl _ | (simp <;> omega)) _))) (R3.below (by repeat (first | exact Below.refl _ _ | refine Below.alloc ?_ (by first | exact Nat.le_refl _ | (simp <;> omega)) _ | refine Below.setCell ?_ (by first | exact Nat.le_refl _ | (simp <;> omega)) _))) (R4.below (by repeat (first | exact Below.refl _ _ | refine Below.alloc ?_ (by first | exact Nat.le_refl _ | (simp <;> omega)) _ | refine Below.setCell ?_ (by first | exact Nat.le_refl _ | (simp <;> omega)) _))) k0 k1 k2 k3 k4).mono ?_
    rintro e w2 ⟨rfl, hb2⟩
    have hq2 : Below wX.heap.size wX w2 := bth (by repeat (first | exact Below.refl _ _ | refine Below.alloc ?_ (by first | exact Nat.le_refl _ | (simp <;> omega)) _ | refine Below.setCell ?_ (by first | exact Nat.le_refl _ | (simp <;> omega)) _)) hb2
    replace HB := bth HB hq2
    replace R0 := R0.below hq2
    replace R1 := R1.below hq2
    replace R2 := R2.below hq2
    replace R3 := R3.below hq2
    replace R4 := R4.below hq2
    replace hM := hM.below hq2 hM.lt
    replace b0 := (hM.cell 0).trans (show _ = some (.slice A0 m.rules.length c0) from rfl)
    replace b1 := (hM.cell 1).trans (show _ = some (.slice A1 m.pend.length c1) from rfl)
    replace b2 := (hM.cell 2).trans (show _ = some (.int .i64 m.turns) from rfl)
    replace b3 := (hM.cell 3).trans (show _ = some (.int .i64 m.secs) from rfl)
    replace b4 := (hM.cell 4).trans (show _ = some (.int .i64 m.spk) from rfl)
    replace b5 := (hM.cell 5).trans (show _ = some (.slice A2 m.wait.length c2) from rfl)
    replace b6 := (hM.cell 6).trans (show _ = some (.slice A3 m.shares.length c3) from rfl)
    replace b7 := (hM.cell 7).trans (show _ = some (.slice A4 m.outs.length c4) from rfl)
    go_wp2
    simp only [mvOut, HV.out]
    exact bodyPost_ret (v := .tuple #[.int .i64 0, .int .i64 0, .bool false]) (by simp [results, Try.results19, go_sem]) rfl ⟨rfl, (bth HB (by repeat (first | exact Below.refl _ _ | refine Below.alloc ?_ (by first | exact Nat.le_refl _ | (simp <;> omega)) _ | refine Below.setCell ?_ (by first | exact Nat.le_refl _ | (simp <;> omega)) _)))⟩
  have HV := Lib.hid hb; clear hb
  cases hn : memB n
  · have HN := Lib.hid hn; clear hn
    go_enter Try.func19, Try.ntmps19
    go_upto_region 1 with fail
    have hq1 : Below w.heap.size w (World.alloc w (.cells #[.slice A0 m.rules.length c0, .slice A1 m.pend.length c1, .int .i64 m.turns, .int .i64 m.secs, .int .i64 m.spk, .slice A2 m.wait.length c2, .slice A3 m.shares.length c3, .slice A4 m.outs.length c4] 40)) := bl1 w _
    have hM : Blk (World.alloc w (.cells #[.slice A0 m.rules.length c0, .slice A1 m.pend.length c1, .int .i64 m.turns, .int .i64 m.secs, .int .i64 m.spk, .slice A2 m.wait.length c2, .slice A3 m.shares.length c3, .slice A4 m.outs.length c4] 40)) (w.heap.size) 40 #[.slice A0 m.rules.length c0, .slice A1 m.pend.length c1, .int .i64 m.turns, .int .i64 m.secs, .int .i64 m.spk, .slice A2 m.wait.length c2, .slice A3 m.shares.length c3, .slice A4 m.outs.length c4] := by repeat (first | exact Blk.new _ _ _ | exact Blk.new2 _ _ _ _ | exact Blk.new3 _ _ _ _ _ | exact Blk.new4 _ _ _ _ _ _ | refine Blk.alloc ?_ _)
    replace R0 := R0.below hq1
    replace R1 := R1.below hq1
    replace R2 := R2.below hq1
    replace R3 := R3.below hq1
    replace R4 := R4.below hq1
    generalize World.alloc w (.cells #[.slice A0 m.rules.length c0, .slice A1 m.pend.length c1, .int .i64 m.turns, .int .i64 m.secs, .int .i64 m.spk, .slice A2 m.wait.length c2, .slice A3 m.shares.length c3, .slice A4 m.outs.length c4] 40) = wX at *
    have HB := hq1
    have b0 := (hM.cell 0).trans (show _ = some (.slice A0 m.rules.length c0) from rfl)
    have b1 := (hM.cell 1).trans (show _ = some (.slice A1 m.pend.length c1) from rfl)
    have b2 := (hM.cell 2).trans (show _ = some (.int .i64 m.turns) from rfl)
    have b3 := (hM.cell 3).trans (show _ = some (.int .i64 m.secs) from rfl)
    have b4 := (hM.cell 4).trans (show _ = some (.int .i64 m.spk) from rfl)
    have b5 := (hM.cell 5).trans (show _ = some (.slice A2 m.wait.length c2) from rfl)
    have b6 := (hM.cell 6).trans (show _ = some (.slice A3 m.shares.length c3) from rfl)
    have b7 := (hM.cell 7).trans (show _ = some (.slice A4 m.outs.length c4) from rfl)
    go_wp2_with fail
    refine (l25Good_is m A0 A1 A2 A3 A4 c0 c1 c2 c3 c4 h0 h1 h2 h3 h4 _ HV.out _ (R0.below (by repeat (first | exact Below.refl _ _ | refine Below.alloc ?_ (by first | exact Nat.le_refl _ | (simp <;> omega)) _ | refine Below.setCell ?_ (by first | exact Nat.le_refl _ | (simp <;> omega)) _))) (R1.below (by repeat (first | exact Below.refl _ _ | refine Below.alloc ?_ (by first | exact Nat.le_refl _ | (simp <;> omega)) _ | refine Below.setCell ?_ (by first | exact Nat.le_refl _ | (simp <;> omega)) _))) (R2.below (by repeat (first | exact Below.refl _ _ | refine Below.alloc ?_ (by first | exact Nat.le_refl _ | (simp <;> omega)) _ | refine Below.setCell ?_ (by first | exact Nat.le_refl _ | (simp <;> omega)) _))) (R3.below (by repeat (first | exact Below.refl _ _ | refine Below.alloc ?_ (by first | exact Nat.le_refl _ | (simp <;> omega)) _ | refine Below.setCell ?_ (by first | exact Nat.le_refl _ | (simp <;> omega)) _))) (R4.below (by repeat (first | exact Below.refl _ _ | refine Below.alloc ?_ (by first | exact Nat.le_refl _ | (simp <;> omega)) _ | refine Below.setCell ?_ (by first | exact Nat.le_refl _ | (simp <;> omega)) _))) k0 k1 k2 k3 k4).mono ?_
    rintro e w2 ⟨rfl, hb2⟩
    have hq2 : Below wX.heap.size wX w2 := bth (by repeat (first | exact Below.refl _ _ | refine Below.alloc ?_ (by first | exact Nat.le_refl _ | (simp <;> omega)) _ | refine Below.setCell ?_ (by first | exact Nat.le_refl _ | (simp <;> omega)) _)) hb2
    replace HB := bth HB hq2
    replace R0 := R0.below hq2
    replace R1 := R1.below hq2
    replace R2 := R2.below hq2
    replace R3 := R3.below hq2
    replace R4 := R4.below hq2
    replace hM := hM.below hq2 hM.lt
    replace b0 := (hM.cell 0).trans (show _ = some (.slice A0 m.rules.length c0) from rfl)
    replace b1 := (hM.cell 1).trans (show _ = some (.slice A1 m.pend.length c1) from rfl)
    replace b2 := (hM.cell 2).trans (show _ = some (.int .i64 m.turns) from rfl)
    replace b3 := (hM.cell 3).trans (show _ = some (.int .i64 m.secs) from rfl)
    replace b4 := (hM.cell 4).trans (show _ = some (.int .i64 m.spk) from rfl)
    replace b5 := (hM.cell 5).trans (show _ = some (.slice A2 m.wait.length c2) from rfl)
    replace b6 := (hM.cell 6).trans (show _ = some (.slice A3 m.shares.length c3) from rfl)
    replace b7 := (hM.cell 7).trans (show _ = some (.slice A4 m.outs.length c4) from rfl)
    go_wp2_with fail
    refine (l7Member_is n _ HN.out _).mono ?_
    rintro e w0 ⟨rfl, h0⟩
    rw [h0]
    clear h0 w0
    go_wp2
    simp only [mvOut, HV.out, HN.out]
    exact bodyPost_ret (v := .tuple #[.int .i64 0, .int .i64 0, .bool false]) (by simp [results, Try.results19, go_sem]) rfl ⟨rfl, (bth HB (by repeat (first | exact Below.refl _ _ | refine Below.alloc ?_ (by first | exact Nat.le_refl _ | (simp <;> omega)) _ | refine Below.setCell ?_ (by first | exact Nat.le_refl _ | (simp <;> omega)) _)))⟩
  have HN := Lib.hid hn; clear hn
  go_enter Try.func19, Try.ntmps19
  go_upto_region 1 with fail
  have hq1 : Below w.heap.size w (World.alloc w (.cells #[.slice A0 m.rules.length c0, .slice A1 m.pend.length c1, .int .i64 m.turns, .int .i64 m.secs, .int .i64 m.spk, .slice A2 m.wait.length c2, .slice A3 m.shares.length c3, .slice A4 m.outs.length c4] 40)) := bl1 w _
  have hM : Blk (World.alloc w (.cells #[.slice A0 m.rules.length c0, .slice A1 m.pend.length c1, .int .i64 m.turns, .int .i64 m.secs, .int .i64 m.spk, .slice A2 m.wait.length c2, .slice A3 m.shares.length c3, .slice A4 m.outs.length c4] 40)) (w.heap.size) 40 #[.slice A0 m.rules.length c0, .slice A1 m.pend.length c1, .int .i64 m.turns, .int .i64 m.secs, .int .i64 m.spk, .slice A2 m.wait.length c2, .slice A3 m.shares.length c3, .slice A4 m.outs.length c4] := by repeat (first | exact Blk.new _ _ _ | exact Blk.new2 _ _ _ _ | exact Blk.new3 _ _ _ _ _ | exact Blk.new4 _ _ _ _ _ _ | refine Blk.alloc ?_ _)
  replace R0 := R0.below hq1
  replace R1 := R1.below hq1
  replace R2 := R2.below hq1
  replace R3 := R3.below hq1
  replace R4 := R4.below hq1
  generalize World.alloc w (.cells #[.slice A0 m.rules.length c0, .slice A1 m.pend.length c1, .int .i64 m.turns, .int .i64 m.secs, .int .i64 m.spk, .slice A2 m.wait.length c2, .slice A3 m.shares.length c3, .slice A4 m.outs.length c4] 40) = wX at *
  have HB := hq1
  have b0 := (hM.cell 0).trans (show _ = some (.slice A0 m.rules.length c0) from rfl)
  have b1 := (hM.cell 1).trans (show _ = some (.slice A1 m.pend.length c1) from rfl)
  have b2 := (hM.cell 2).trans (show _ = some (.int .i64 m.turns) from rfl)
  have b3 := (hM.cell 3).trans (show _ = some (.int .i64 m.secs) from rfl)
  have b4 := (hM.cell 4).trans (show _ = some (.int .i64 m.spk) from rfl)
  have b5 := (hM.cell 5).trans (show _ = some (.slice A2 m.wait.length c2) from rfl)
  have b6 := (hM.cell 6).trans (show _ = some (.slice A3 m.shares.length c3) from rfl)
  have b7 := (hM.cell 7).trans (show _ = some (.slice A4 m.outs.length c4) from rfl)
  go_wp2_with fail
  refine (l25Good_is m A0 A1 A2 A3 A4 c0 c1 c2 c3 c4 h0 h1 h2 h3 h4 _ HV.out _ (R0.below (by repeat (first | exact Below.refl _ _ | refine Below.alloc ?_ (by first | exact Nat.le_refl _ | (simp <;> omega)) _ | refine Below.setCell ?_ (by first | exact Nat.le_refl _ | (simp <;> omega)) _))) (R1.below (by repeat (first | exact Below.refl _ _ | refine Below.alloc ?_ (by first | exact Nat.le_refl _ | (simp <;> omega)) _ | refine Below.setCell ?_ (by first | exact Nat.le_refl _ | (simp <;> omega)) _))) (R2.below (by repeat (first | exact Below.refl _ _ | refine Below.alloc ?_ (by first | exact Nat.le_refl _ | (simp <;> omega)) _ | refine Below.setCell ?_ (by first | exact Nat.le_refl _ | (simp <;> omega)) _))) (R3.below (by repeat (first | exact Below.refl _ _ | refine Below.alloc ?_ (by first | exact Nat.le_refl _ | (simp <;> omega)) _ | refine Below.setCell ?_ (by first | exact Nat.le_refl _ | (simp <;> omega)) _))) (R4.below (by repeat (first | exact Below.refl _ _ | refine Below.alloc ?_ (by first | exact Nat.le_refl _ | (simp <;> omega)) _ | refine Below.setCell ?_ (by first | exact Nat.le_refl _ | (simp <;> omega)) _))) k0 k1 k2 k3 k4).mono ?_
  rintro e w2 ⟨rfl, hb2⟩
  have hq2 : Below wX.heap.size wX w2 := bth (by repeat (first | exact Below.refl _ _ | refine Below.alloc ?_ (by first | exact Nat.le_refl _ | (simp <;> omega)) _ | refine Below.setCell ?_ (by first | exact Nat.le_refl _ | (simp <;> omega)) _)) hb2
  replace HB := bth HB hq2
  replace R0 := R0.below hq2
  replace R1 := R1.below hq2
  replace R2 := R2.below hq2
  replace R3 := R3.below hq2
  replace R4 := R4.below hq2
  replace hM := hM.below hq2 hM.lt
  replace b0 := (hM.cell 0).trans (show _ = some (.slice A0 m.rules.length c0) from rfl)
  replace b1 := (hM.cell 1).trans (show _ = some (.slice A1 m.pend.length c1) from rfl)
  replace b2 := (hM.cell 2).trans (show _ = some (.int .i64 m.turns) from rfl)
  replace b3 := (hM.cell 3).trans (show _ = some (.int .i64 m.secs) from rfl)
  replace b4 := (hM.cell 4).trans (show _ = some (.int .i64 m.spk) from rfl)
  replace b5 := (hM.cell 5).trans (show _ = some (.slice A2 m.wait.length c2) from rfl)
  replace b6 := (hM.cell 6).trans (show _ = some (.slice A3 m.shares.length c3) from rfl)
  replace b7 := (hM.cell 7).trans (show _ = some (.slice A4 m.outs.length c4) from rfl)
  go_wp2_with fail
  refine (l7Member_is n _ HN.out _).mono ?_
  rintro e w0 ⟨rfl, h0⟩
  rw [h0]
  clear h0 w0
  go_wp2
  go_loop [7, 8, 9] (fun a b i => ∃ k : Nat, k ≤ m.outs.length ∧ i = .int .i64 k ∧ a = .int .i64 (movd m.outs n k).1 ∧ b = .int .i64 (movd m.outs n k).2) (fun _ _ i => m.outs.length - (intOf i).toNat)
  case atStart => exact ⟨0, Nat.zero_le _, rfl, rfl, rfl⟩
  case round =>
    obtain ⟨k, hk, rfl, rfl, rfl⟩ := hrel
    by_cases hlt : k < m.outs.length
    · obtain ⟨bq, oq, x, rfl, hbl, hx, hcx⟩ := R4.at_ (Below.refl _ _) hlt
      obtain ⟨xr, xm, xa⟩ := x
      have p0 := hcx 0 _ rfl
      have p1 := hcx 1 _ rfl
      have p2 := hcx 2 _ rfl
      simp only [Nat.add_zero] at p0
      have g0 := p0 (Kin.self _)
      have g1 := p1 (Kin.self _)
      have g2 := p2 (Kin.self _)
      simp only [Kin.self] at g0
      simp only [Kin.self] at g1
      simp only [Kin.self] at g2
      have HX := Lib.hid hx; clear hx hcx p0 p1 p2
      have hbd := movd_bd m.outs n k
      cases hm : (xm == n)
      · have hs := movd_skip HX.out hm
        have HS := Lib.hid hs; clear hs
        go_wp2
        go_round
        case rel => exact ⟨k + 1, by omega, by go_num, by rw [HS.out], by rw [HS.out]⟩
        case measure => simp [intOf]; omega
      · have hs := movd_yes HX.out hm
        have HS := Lib.hid hs; clear hs HX
        cases xa
        · go_wp2
          go_round
          case rel => exact ⟨k + 1, by omega, by go_num, by rw [HS.out], by rw [HS.out]; simp⟩
          case measure => simp [intOf]; omega
        · go_wp2
          go_round
          case rel => exact ⟨k + 1, by omega, by go_num, by rw [HS.out], by rw [HS.out]; simp⟩
          case measure => simp [intOf]; omega
    · obtain rfl : k = m.outs.length := by omega
      go_wp2
      simp only [mvOut, HV.out, HN.out]
      exact bodyPost_ret (v := .tuple #[.int .i64 (movd m.outs n m.outs.length).1, .int .i64 (movd m.outs n m.outs.length).2, .bool true]) (by simp [results, Try.results19, go_sem]) rfl ⟨rfl, (bth HB (by repeat (first | exact Below.refl _ _ | refine Below.alloc ?_ (by first | exact Nat.le_refl _ | (simp <;> omega)) _ | refine Below.setCell ?_ (by first | exact Nat.le_refl _ | (simp <;> omega)) _)))⟩
end Go.Proofs.Ytkkdegmfmimdgaa
