/- Texts of the proof: walks of the functions, and what they compute. -/
import Derived.Deep.Cut
import Derived.Test.YtjimibkgocieoaaGreatRm3
import Derived.Test.YtjimibkgocieoaaGreatRm8
import Derived.Test.YtjimibkgocieoaaGreatRm0
import Derived.Test.YtjimibkgocieoaaGreatRm2
set_option maxHeartbeats 16000000
set_option maxRecDepth 100000
namespace Go.Proofs.YtjimibkgocieoaaGreat
open Go.RowKit Go.G9
def mbOut (m : Mee) : Value := if meetB m then .tuple #[.bool (debB m.rules m.pend), .bool true] else .tuple #[.bool false, .bool false]
theorem mbOut_form (m : Mee) : ∃ a b, mbOut m = .tuple #[.bool a, .bool b] := by unfold mbOut; split <;> exact ⟨_, _, rfl⟩
def lastR (rs : List Rul) (qs : List Que) : Option Rul := match qs[qs.length - 1]? with | some q => fnd rs q.rule | none => none
def pnOut (m : Mee) : Value := if meetB m then (match lastR m.rules m.pend with | some r => .tuple #[.string r.name, .bool true] | none => .tuple #[.string ⟨#[]⟩, .bool false]) else .tuple #[.string ⟨#[]⟩, .bool false]
theorem pnOut_form (m : Mee) : ∃ a b, pnOut m = .tuple #[.string a, .bool b] := by
 unfold pnOut; split
 ·split <;> exact ⟨_, _, rfl⟩
 ·exact ⟨_, _, rfl⟩
theorem iIsValidMeeting_is (m : Mee) (A0 A1 A2 A3 A4 : Option Addr) (c0 c1 c2 c3 c4 : Nat) (h0 : m.rules.length ≤ 1048576) (h1 : m.pend.length ≤ 1048576) (h2 : m.wait.length ≤ 1048576) (h3 : m.shares.length ≤ 1048576) (h4 : m.outs.length ≤ 1048576) (v : Bool) (hv : meetB m = v) (w : World) (R0 : Rds 7 Rul.cells w A0 m.rules) (R1 : Rds 3 Que.cells w A1 m.pend) (R2 : Rds 1 intC w A2 m.wait) (R3 : Rds 3 Sha.cells w A3 m.shares) (R4 : Rds 3 Out.cells w A4 m.outs) (k0 : m.rules.length ≤ c0) (k1 : m.pend.length ≤ c1) (k2 : m.wait.length ≤ c2) (k3 : m.shares.length ≤ c3) (k4 : m.outs.length ≤ c4) :
 Calls Tryz.prog 12 #[.agg #[.slice A0 m.rules.length c0, .slice A1 m.pend.length c1, .int .i64 m.turns, .int .i64 m.secs, .int .i64 m.spk, .slice A2 m.wait.length c2, .slice A3 m.shares.length c3, .slice A4 m.outs.length c4]] w fun e w' => e = .returned (.bool v) ∧ Below w.heap.size w w' :=
 iMeet_is m.rules m.pend m.turns m.secs m.spk m.wait m.shares m.outs A0 A1 A2 A3 A4 c0 c1 c2 c3 c4 h0 h1 h2 h3 h4 v hv w R0 R1 R2 R3 R4 k0 k2
theorem l25Good_is (m : Mee) (A0 A1 A2 A3 A4 : Option Addr) (c0 c1 c2 c3 c4 : Nat) (h0 : m.rules.length ≤ 1048576) (h1 : m.pend.length ≤ 1048576) (h2 : m.wait.length ≤ 1048576) (h3 : m.shares.length ≤ 1048576) (h4 : m.outs.length ≤ 1048576) (v : Bool) (hv : meetB m = v) (w : World) (R0 : Rds 7 Rul.cells w A0 m.rules) (R1 : Rds 3 Que.cells w A1 m.pend) (R2 : Rds 1 intC w A2 m.wait) (R3 : Rds 3 Sha.cells w A3 m.shares) (R4 : Rds 3 Out.cells w A4 m.outs) (k0 : m.rules.length ≤ c0) (k1 : m.pend.length ≤ c1) (k2 : m.wait.length ≤ c2) (k3 : m.shares.length ≤ c3) (k4 : m.outs.length ≤ c4) :
 Calls Tryz.prog 47 #[.agg #[.slice A0 m.rules.length c0, .slice A1 m.pend.length c1, .int .i64 m.turns, .int .i64 m.secs, .int .i64 m.spk, .slice A2 m.wait.length c2, .slice A3 m.shares.length c3, .slice A4 m.outs.length c4]] w fun e w' => e = .returned (.bool v) ∧ Below w.heap.size w w' :=
 sMeet_is m.rules m.pend m.turns m.secs m.spk m.wait m.shares m.outs A0 A1 A2 A3 A4 c0 c1 c2 c3 c4 h0 h1 h2 h3 h4 v hv w R0 R1 R2 R3 R4 k0 k2
theorem sIsValidMeeting_is (m : Mee) (A0 A1 A2 A3 A4 : Option Addr) (c0 c1 c2 c3 c4 : Nat) (h0 : m.rules.length ≤ 1048576) (h1 : m.pend.length ≤ 1048576) (h2 : m.wait.length ≤ 1048576) (h3 : m.shares.length ≤ 1048576) (h4 : m.outs.length ≤ 1048576) (v : Bool) (hv : meetB m = v) (w : World) (R0 : Rds 7 Rul.cells w A0 m.rules) (R1 : Rds 3 Que.cells w A1 m.pend) (R2 : Rds 1 intC w A2 m.wait) (R3 : Rds 3 Sha.cells w A3 m.shares) (R4 : Rds 3 Out.cells w A4 m.outs) (k0 : m.rules.length ≤ c0) (k1 : m.pend.length ≤ c1) (k2 : m.wait.length ≤ c2) (k3 : m.shares.length ≤ c3) (k4 : m.outs.length ≤ c4) :
 Calls Tryz.prog 13 #[.agg #[.slice A0 m.rules.length c0, .slice A1 m.pend.length c1, .int .i64 m.turns, .int .i64 m.secs, .int .i64 m.spk, .slice A2 m.wait.length c2, .slice A3 m.shares.length c3, .slice A4 m.outs.length c4]] w fun e w' => e = .returned (.bool v) ∧ Below w.heap.size w w' := by
 have HV := lh hv
 go_in
 go_upto_region 1 with fail
 refine lay1 fun wX hq1 hM => ?_
 replace R0 := R0.below hq1; replace R1 := R1.below hq1; replace R2 := R2.below hq1; replace R3 := R3.below hq1; replace R4 := R4.below hq1; have HB := hq1; have b' := hM.cs8
 go_wp2_with fail
 refine (l25Good_is m A0 A1 A2 A3 A4 c0 c1 c2 c3 c4 h0 h1 h2 h3 h4 _ HV.out _ (R0.below bel) (R1.below bel) (R2.below bel) (R3.below bel) (R4.below bel) k0 k1 k2 k3 k4).mono ?_
 rintro e w2 ⟨rfl, hb2⟩
 have hq2 := be wX hb2; replace HB := bth HB hq2; replace R0 := R0.below hq2; replace R1 := R1.below hq2; replace R2 := R2.below hq2; replace R3 := R3.below hq2; replace R4 := R4.below hq2; replace hM := hM.to hq2; clear b'; have b' := hM.cs8
 go_wp2
 go_ret
 exact ⟨rfl, (bth HB bel)⟩
theorem zb68 {p : Prop} (h : p := by
 rintro e w2 ⟨rfl, hb2⟩
 have hq2 := be wX hb2; replace HB := bth HB hq2; replace R0 := R0.below hq2; replace R1 := R1.below hq2; replace R2 := R2.below hq2; replace R3 := R3.below hq2; replace R4 := R4.below hq2; replace hM := hM.to hq2; clear b'; have b' := hM.cs8
 go_wp2
 go_ret2
 rw [mbOut, HV.out]
 exact ⟨rfl, (bth HB bel)⟩) : p := h
theorem zb61 {p : Prop} (h : p := by
 rintro e w3 ⟨rfl, hb3⟩
 have hq3 := be w2 hb3; replace HB := bth HB hq3; replace R0 := R0.below hq3; replace R1 := R1.below hq3; replace R2 := R2.below hq3; replace R3 := R3.below hq3; replace R4 := R4.below hq3; replace hM := hM.to hq3; clear b'; have b' := hM.cs8
 go_wp2
 go_ret2
 rw [mbOut, HV.out, HD.out]
 exact ⟨rfl, (bth HB bel)⟩) : p := h
theorem iIsDebatable_is (m : Mee) (A0 A1 A2 A3 A4 : Option Addr) (c0 c1 c2 c3 c4 : Nat) (h0 : m.rules.length ≤ 1048576) (h1 : m.pend.length ≤ 1048576) (h2 : m.wait.length ≤ 1048576) (h3 : m.shares.length ≤ 1048576) (h4 : m.outs.length ≤ 1048576) (v : Value) (hv : mbOut m = v) (w : World) (R0 : Rds 7 Rul.cells w A0 m.rules) (R1 : Rds 3 Que.cells w A1 m.pend) (R2 : Rds 1 intC w A2 m.wait) (R3 : Rds 3 Sha.cells w A3 m.shares) (R4 : Rds 3 Out.cells w A4 m.outs) (k0 : m.rules.length ≤ c0) (k1 : m.pend.length ≤ c1) (k2 : m.wait.length ≤ c2) (k3 : m.shares.length ≤ c3) (k4 : m.outs.length ≤ c4) :
 Calls Tryz.prog 15 #[.agg #[.slice A0 m.rules.length c0, .slice A1 m.pend.length c1, .int .i64 m.turns, .int .i64 m.secs, .int .i64 m.spk, .slice A2 m.wait.length c2, .slice A3 m.shares.length c3, .slice A4 m.outs.length c4]] w fun e w' => e = .returned (v) ∧ Below w.heap.size w w' := by
 subst hv
 cases hb : meetB m
 ·have HV := lh hb
  go_in
  go_upto_region 1 with fail
  refine lay1 fun wX hq1 hM => ?_
  replace R0 := R0.below hq1; replace R1 := R1.below hq1; replace R2 := R2.below hq1; replace R3 := R3.below hq1; replace R4 := R4.below hq1; have HB := hq1; have b' := hM.cs8
  go_wp2_with fail
  refine (iIsValidMeeting_is m A0 A1 A2 A3 A4 c0 c1 c2 c3 c4 h0 h1 h2 h3 h4 _ HV.out _ (R0.below bel) (R1.below bel) (R2.below bel) (R3.below bel) (R4.below bel) k0 k1 k2 k3 k4).mono ?_
  exact zb68
 ·have HV := lh hb
  have hp := meetB_pend hb
  obtain ⟨d, hd⟩ : ∃ d, debB m.rules m.pend = d := ⟨_, rfl⟩
  have HP := lh hp; have HD := lh hd; clear hp hd hb
  go_in
  go_upto_region 1 with fail
  refine lay1 fun wX hq1 hM => ?_
  replace R0 := R0.below hq1; replace R1 := R1.below hq1; replace R2 := R2.below hq1; replace R3 := R3.below hq1; replace R4 := R4.below hq1; have HB := hq1; have b' := hM.cs8
  go_wp2_with fail
  refine (iIsValidMeeting_is m A0 A1 A2 A3 A4 c0 c1 c2 c3 c4 h0 h1 h2 h3 h4 _ HV.out _ (R0.below bel) (R1.below bel) (R2.below bel) (R3.below bel) (R4.below bel) k0 k1 k2 k3 k4).mono ?_
  rintro e w2 ⟨rfl, hb2⟩
  have hq2 := be wX hb2; replace HB := bth HB hq2; replace R0 := R0.below hq2; replace R1 := R1.below hq2; replace R2 := R2.below hq2; replace R3 := R3.below hq2; replace R4 := R4.below hq2; replace hM := hM.to hq2; clear b'; have b' := hM.cs8
  go_wp2_with fail
  refine (isDebatable_is m.rules m.pend m.turns m.secs m.spk m.wait m.shares m.outs A0 A1 A2 A3 A4 c0 c1 c2 c3 c4 h0 h1 h2 h3 h4 HP.out _ HD.out _ (R0.below bel) (R1.below bel) (R2.below bel) (R3.below bel) (R4.below bel)).mono ?_
  exact zb61
theorem sIsDebatable_is (m : Mee) (A0 A1 A2 A3 A4 : Option Addr) (c0 c1 c2 c3 c4 : Nat) (h0 : m.rules.length ≤ 1048576) (h1 : m.pend.length ≤ 1048576) (h2 : m.wait.length ≤ 1048576) (h3 : m.shares.length ≤ 1048576) (h4 : m.outs.length ≤ 1048576) (v : Value) (hv : mbOut m = v) (w : World) (R0 : Rds 7 Rul.cells w A0 m.rules) (R1 : Rds 3 Que.cells w A1 m.pend) (R2 : Rds 1 intC w A2 m.wait) (R3 : Rds 3 Sha.cells w A3 m.shares) (R4 : Rds 3 Out.cells w A4 m.outs) (k0 : m.rules.length ≤ c0) (k1 : m.pend.length ≤ c1) (k2 : m.wait.length ≤ c2) (k3 : m.shares.length ≤ c3) (k4 : m.outs.length ≤ c4) :
 Calls Tryz.prog 17 #[.agg #[.slice A0 m.rules.length c0, .slice A1 m.pend.length c1, .int .i64 m.turns, .int .i64 m.secs, .int .i64 m.spk, .slice A2 m.wait.length c2, .slice A3 m.shares.length c3, .slice A4 m.outs.length c4]] w fun e w' => e = .returned (v) ∧ Below w.heap.size w w' := by
 subst hv
 cases hb : meetB m
 ·have HV := lh hb
  go_in
  go_upto_region 1 with fail
  refine lay1 fun wX hq1 hM => ?_
  replace R0 := R0.below hq1; replace R1 := R1.below hq1; replace R2 := R2.below hq1; replace R3 := R3.below hq1; replace R4 := R4.below hq1; have HB := hq1; have b' := hM.cs8
  go_wp2_with fail
  refine (l25Good_is m A0 A1 A2 A3 A4 c0 c1 c2 c3 c4 h0 h1 h2 h3 h4 _ HV.out _ (R0.below bel) (R1.below bel) (R2.below bel) (R3.below bel) (R4.below bel) k0 k1 k2 k3 k4).mono ?_
  exact zb68
 ·have HV := lh hb
  have hp := meetB_pend hb
  obtain ⟨d, hd⟩ : ∃ d, debB m.rules m.pend = d := ⟨_, rfl⟩
  have HP := lh hp; have HD := lh hd; clear hp hd hb
  go_in
  go_upto_region 1 with fail
  refine lay1 fun wX hq1 hM => ?_
  replace R0 := R0.below hq1; replace R1 := R1.below hq1; replace R2 := R2.below hq1; replace R3 := R3.below hq1; replace R4 := R4.below hq1; have HB := hq1; have b' := hM.cs8
  go_wp2_with fail
  refine (l25Good_is m A0 A1 A2 A3 A4 c0 c1 c2 c3 c4 h0 h1 h2 h3 h4 _ HV.out _ (R0.below bel) (R1.below bel) (R2.below bel) (R3.below bel) (R4.below bel) k0 k1 k2 k3 k4).mono ?_
  rintro e w2 ⟨rfl, hb2⟩
  have hq2 := be wX hb2; replace HB := bth HB hq2; replace R0 := R0.below hq2; replace R1 := R1.below hq2; replace R2 := R2.below hq2; replace R3 := R3.below hq2; replace R4 := R4.below hq2; replace hM := hM.to hq2; clear b'; have b' := hM.cs8
  go_wp2_with fail
  refine (l25Debate_is m.rules m.pend A0 A1 c0 c1 h0 h1 HP.out _ HD.out _ (R0.below bel) (R1.below bel)).mono ?_
  exact zb61
open Go.RowKit Go.G9
theorem pnOut_bad {m : Mee} (h : meetB m = false) : pnOut m = .tuple #[.string ⟨#[]⟩, .bool false] := by simp [pnOut, h]
theorem pnOut_nil {m : Mee} (h : m.pend.length = 0) : pnOut m = .tuple #[.string ⟨#[]⟩, .bool false] := by
 have : m.pend = [] := List.length_eq_zero_iff.1 h
 simp [pnOut, lastR, this]
theorem pnOut_last {m : Mee} {j : Nat} {q : Que} {r : Rul} (hb : meetB m = true) (hl : m.pend.length = j + 1) (hq : m.pend[j]? = some q) (hr : fnd m.rules q.rule = some r) : pnOut m = .tuple #[.string r.name, .bool true] := by
 have : m.pend.length - 1 = j := by omega
 simp only [pnOut, hb, lastR, this, hq, hr, if_true]
theorem zb67 {p : Prop} (h : p := by
 rintro e w2 ⟨rfl, hb2⟩
 have hq2 := be wX hb2; replace HB := bth HB hq2; replace R0 := R0.below hq2; replace R1 := R1.below hq2; replace R2 := R2.below hq2; replace R3 := R3.below hq2; replace R4 := R4.below hq2; replace hM := hM.to hq2; clear b'; have b' := hM.cs8
 go_wp2
 go_ret2
 rw [pnOut_bad HV.out]
 exact ⟨rfl, (bth HB bel)⟩) : p := h
theorem zb59 {p : Prop} (h : p := by
 rintro e w2 ⟨rfl, hb2⟩
 have hq2 := be wX hb2; replace HB := bth HB hq2; replace R0 := R0.below hq2; replace R1 := R1.below hq2; replace R2 := R2.below hq2; replace R3 := R3.below hq2; replace R4 := R4.below hq2; replace hM := hM.to hq2; clear b'; have b' := hM.cs8; have hz := HZ.out
 go_wp2
 go_ret2
 rw [pnOut_nil HZ.out]
 exact ⟨rfl, (bth HB bel)⟩) : p := h
theorem zb138 {p : Prop} (h : p := by
 repeat (go_big_quiet_step (fail))
 refine wpQuiet_nil ?_
 intro K
 go_wp2
 go_ret2
 exact ⟨rfl, bth HB K.below⟩) : p := h
theorem iPendingName_is (m : Mee) (A0 A1 A2 A3 A4 : Option Addr) (c0 c1 c2 c3 c4 : Nat) (h0 : m.rules.length ≤ 1048576) (h1 : m.pend.length ≤ 1048576) (h2 : m.wait.length ≤ 1048576) (h3 : m.shares.length ≤ 1048576) (h4 : m.outs.length ≤ 1048576) (v : Value) (hv : pnOut m = v) (w : World) (R0 : Rds 7 Rul.cells w A0 m.rules) (R1 : Rds 3 Que.cells w A1 m.pend) (R2 : Rds 1 intC w A2 m.wait) (R3 : Rds 3 Sha.cells w A3 m.shares) (R4 : Rds 3 Out.cells w A4 m.outs) (k0 : m.rules.length ≤ c0) (k1 : m.pend.length ≤ c1) (k2 : m.wait.length ≤ c2) (k3 : m.shares.length ≤ c3) (k4 : m.outs.length ≤ c4) :
 Calls Tryz.prog 19 #[.agg #[.slice A0 m.rules.length c0, .slice A1 m.pend.length c1, .int .i64 m.turns, .int .i64 m.secs, .int .i64 m.spk, .slice A2 m.wait.length c2, .slice A3 m.shares.length c3, .slice A4 m.outs.length c4]] w fun e w' => e = .returned (v) ∧ Below w.heap.size w w' := by
 subst hv
 cases hb : meetB m
 ·have HV := lh hb
  go_in
  go_upto_region 1 with fail
  refine lay1 fun wX hq1 hM => ?_
  replace R0 := R0.below hq1; replace R1 := R1.below hq1; replace R2 := R2.below hq1; replace R3 := R3.below hq1; replace R4 := R4.below hq1; have HB := hq1; have b' := hM.cs8
  go_wp2_with fail
  refine (iIsValidMeeting_is m A0 A1 A2 A3 A4 c0 c1 c2 c3 c4 h0 h1 h2 h3 h4 _ HV.out _ (R0.below bel) (R1.below bel) (R2.below bel) (R3.below bel) (R4.below bel) k0 k1 k2 k3 k4).mono ?_
  exact zb67
 have HV := lh hb; have hp := meetB_pend hb
 rcases Nat.eq_zero_or_pos m.pend.length with hz | hz
 ·have HZ := lh hz; clear hz
  go_in
  go_upto_region 1 with fail
  refine lay1 fun wX hq1 hM => ?_
  replace R0 := R0.below hq1; replace R1 := R1.below hq1; replace R2 := R2.below hq1; replace R3 := R3.below hq1; replace R4 := R4.below hq1; have HB := hq1; have b' := hM.cs8
  go_wp2_with fail
  refine (iIsValidMeeting_is m A0 A1 A2 A3 A4 c0 c1 c2 c3 c4 h0 h1 h2 h3 h4 _ HV.out _ (R0.below bel) (R1.below bel) (R2.below bel) (R3.below bel) (R4.below bel) k0 k1 k2 k3 k4).mono ?_
  exact zb59
 ·obtain ⟨j, hj⟩ : ∃ j, m.pend.length = j + 1 := ⟨m.pend.length - 1, by omega⟩
  have hjl : j < m.pend.length := by omega
  have hjb : j ≤ 1048576 := by omega
  obtain ⟨q, hq⟩ : ∃ q, m.pend[j]? = some q := ⟨m.pend[j], List.getElem?_eq_getElem hjl⟩
  obtain ⟨r, hr⟩ := pendB_found hp hq
  rw [pnOut_last hb hj hq hr]
  obtain ⟨kk, hm, hmr⟩ := idxB_some hr
  have hml : kk < m.rules.length := (List.getElem?_eq_some_iff.1 hmr).1; have HQ := lh hq; have HR := lh hr; have HJL := lh hjl; have HJ := lh hj; have HM := lh hm; have HMR := lh hmr; have HML := lh hml; clear hp hr hq hz hj hjl hm hmr hml hb
  obtain ⟨id, nm, rk, sd, de, am, nd, hs⟩ := r
  obtain ⟨qr, qm, qd⟩ := q
  go_in
  go_upto_region 1 with fail
  refine lay1 fun wX hq1 hM => ?_
  replace R0 := R0.below hq1; replace R1 := R1.below hq1; replace R2 := R2.below hq1; replace R3 := R3.below hq1; replace R4 := R4.below hq1; have HB := hq1; have b' := hM.cs8
  go_wp2_with fail
  refine (iIsValidMeeting_is m A0 A1 A2 A3 A4 c0 c1 c2 c3 c4 h0 h1 h2 h3 h4 _ HV.out _ (R0.below bel) (R1.below bel) (R2.below bel) (R3.below bel) (R4.below bel) k0 k1 k2 k3 k4).mono ?_
  rintro e w2 ⟨rfl, hb2⟩
  have hq2 := be wX hb2; replace HB := bth HB hq2; replace R0 := R0.below hq2; replace R1 := R1.below hq2; replace R2 := R2.below hq2; replace R3 := R3.below hq2; replace R4 := R4.below hq2; replace hM := hM.to hq2; clear b'; have b' := hM.cs8; have hj := HJ.out
  go_upto_region 3 with fail
  obtain ⟨bq, oq, q', rfl, hbl, hx, hcx⟩ := R1.at_ (Below.refl _ _) HJL.out
  obtain rfl := Option.some.inj (HQ.out.symm.trans hx)
  clear b'; have b' := hM.cs8; have p0 := hcx 0 _ rfl; have p1 := hcx 1 _ rfl; have p2 := hcx 2 _ rfl
  simp only [Nat.add_zero] at p0
  clear hx hcx; have PR := lh R0
  have hfd : ∀ W : World, (Instr.field 48 (.agg #[.int .i64 id, .string nm, .int .i64 rk, .bool sd, .bool de, .bool am, .int .i64 nd]) 1).run Tryz.prog W = .ok (.string nm) W := fun _ => by kernel_rfl
  clear b'; have b' := Blk.cs8K (fun K : Kin w2.heap.size w2 => (hM.below K.below hM.lt))
  refine wp_region_kin (by kernel_rfl) (by kernel_rfl) ?_
  repeat (go_big_quiet_step (fail))
  go_big_quiet_step ((go_at_call 64; exact Kin.call _ (by first | exact Nat.le_refl _ | omega) (ruleOf_is A0 c0 m.rules h0 ⟨qr, qm, qd⟩ ⟨id, nm, rk, sd, de, am, nd, hs⟩ HR.out _ (PR.out.below (Kin.below _)))))
  exact zb138
theorem sPendingName_is (m : Mee) (A0 A1 A2 A3 A4 : Option Addr) (c0 c1 c2 c3 c4 : Nat) (h0 : m.rules.length ≤ 1048576) (h1 : m.pend.length ≤ 1048576) (h2 : m.wait.length ≤ 1048576) (h3 : m.shares.length ≤ 1048576) (h4 : m.outs.length ≤ 1048576) (v : Value) (hv : pnOut m = v) (w : World) (R0 : Rds 7 Rul.cells w A0 m.rules) (R1 : Rds 3 Que.cells w A1 m.pend) (R2 : Rds 1 intC w A2 m.wait) (R3 : Rds 3 Sha.cells w A3 m.shares) (R4 : Rds 3 Out.cells w A4 m.outs) (k0 : m.rules.length ≤ c0) (k1 : m.pend.length ≤ c1) (k2 : m.wait.length ≤ c2) (k3 : m.shares.length ≤ c3) (k4 : m.outs.length ≤ c4) :
 Calls Tryz.prog 20 #[.agg #[.slice A0 m.rules.length c0, .slice A1 m.pend.length c1, .int .i64 m.turns, .int .i64 m.secs, .int .i64 m.spk, .slice A2 m.wait.length c2, .slice A3 m.shares.length c3, .slice A4 m.outs.length c4]] w fun e w' => e = .returned (v) ∧ Below w.heap.size w w' := by
 subst hv
 cases hb : meetB m
 ·have HV := lh hb
  go_in
  go_upto_region 1 with fail
  refine lay1 fun wX hq1 hM => ?_
  replace R0 := R0.below hq1; replace R1 := R1.below hq1; replace R2 := R2.below hq1; replace R3 := R3.below hq1; replace R4 := R4.below hq1; have HB := hq1; have b' := hM.cs8
  go_wp2_with fail
  refine (l25Good_is m A0 A1 A2 A3 A4 c0 c1 c2 c3 c4 h0 h1 h2 h3 h4 _ HV.out _ (R0.below bel) (R1.below bel) (R2.below bel) (R3.below bel) (R4.below bel) k0 k1 k2 k3 k4).mono ?_
  exact zb67
 have HV := lh hb; have hp := meetB_pend hb
 rcases Nat.eq_zero_or_pos m.pend.length with hz | hz
 ·have HZ := lh hz; clear hz
  go_in
  go_upto_region 1 with fail
  refine lay1 fun wX hq1 hM => ?_
  replace R0 := R0.below hq1; replace R1 := R1.below hq1; replace R2 := R2.below hq1; replace R3 := R3.below hq1; replace R4 := R4.below hq1; have HB := hq1; have b' := hM.cs8
  go_wp2_with fail
  refine (l25Good_is m A0 A1 A2 A3 A4 c0 c1 c2 c3 c4 h0 h1 h2 h3 h4 _ HV.out _ (R0.below bel) (R1.below bel) (R2.below bel) (R3.below bel) (R4.below bel) k0 k1 k2 k3 k4).mono ?_
  exact zb59
 ·obtain ⟨j, hj⟩ : ∃ j, m.pend.length = j + 1 := ⟨m.pend.length - 1, by omega⟩
  have hjl : j < m.pend.length := by omega
  have hjb : j ≤ 1048576 := by omega
  obtain ⟨q, hq⟩ : ∃ q, m.pend[j]? = some q := ⟨m.pend[j], List.getElem?_eq_getElem hjl⟩
  obtain ⟨r, hr⟩ := pendB_found hp hq
  rw [pnOut_last hb hj hq hr]
  obtain ⟨kk, hm, hmr⟩ := idxB_some hr
  have hml : kk < m.rules.length := (List.getElem?_eq_some_iff.1 hmr).1; have HQ := lh hq; have HR := lh hr; have HJL := lh hjl; have HJ := lh hj; have HM := lh hm; have HMR := lh hmr; have HML := lh hml; clear hp hr hq hz hj hjl hm hmr hml hb
  obtain ⟨id, nm, rk, sd, de, am, nd, hs⟩ := r
  obtain ⟨qr, qm, qd⟩ := q
  go_in
  go_upto_region 1 with fail
  refine lay1 fun wX hq1 hM => ?_
  replace R0 := R0.below hq1; replace R1 := R1.below hq1; replace R2 := R2.below hq1; replace R3 := R3.below hq1; replace R4 := R4.below hq1; have HB := hq1; have b' := hM.cs8
  go_wp2_with fail
  refine (l25Good_is m A0 A1 A2 A3 A4 c0 c1 c2 c3 c4 h0 h1 h2 h3 h4 _ HV.out _ (R0.below bel) (R1.below bel) (R2.below bel) (R3.below bel) (R4.below bel) k0 k1 k2 k3 k4).mono ?_
  rintro e w2 ⟨rfl, hb2⟩
  have hq2 := be wX hb2; replace HB := bth HB hq2; replace R0 := R0.below hq2; replace R1 := R1.below hq2; replace R2 := R2.below hq2; replace R3 := R3.below hq2; replace R4 := R4.below hq2; replace hM := hM.to hq2; clear b'; have b' := hM.cs8; have hj := HJ.out
  go_upto_region 4 with fail
  obtain ⟨bq, oq, q', rfl, hbl, hx, hcx⟩ := R1.at_ (Below.refl _ _) HJL.out
  obtain rfl := Option.some.inj (HQ.out.symm.trans hx)
  clear b'; have b' := hM.cs8; have p0 := hcx 0 _ rfl; have p1 := hcx 1 _ rfl; have p2 := hcx 2 _ rfl
  simp only [Nat.add_zero] at p0
  clear hx hcx; have PR := lh R0
  obtain ⟨bz, oz, r', hAe, hbl2, hx2, hcx2⟩ := R0.at_ (Below.refl _ _) HML.out
  obtain rfl := Option.some.inj (HMR.out.symm.trans hx2)
  have y1 := hcx2 1 _ rfl; have hml := HML.out; clear hx2 hcx2
  subst hAe
  clear b'; have b' := hM.cs8; clear b'; have b' := Blk.cs8K (fun K : Kin w2.heap.size w2 => (hM.below K.below hM.lt))
  refine wp_region_kin (by kernel_rfl) (by kernel_rfl) ?_
  repeat (go_big_quiet_step (fail))
  go_big_quiet_step ((go_at_call 65; exact Kin.same _ (l2Find_is _ c0 m.rules h0 qr _ HM.out _ (PR.out.below (Kin.below _)))))
  exact zb138
end Go.Proofs.YtjimibkgocieoaaGreat
namespace Go.G9
open Go.RowKit
theorem wpList_appO {P : Program} {w : World} {ops : Array Oper} {rest : List Oper} {o : Oper} {a : Act} {Q : Exit → Act → World → Prop} (hgd : o.guard = none) (s x : Operand) (t : TypeId)
  (ho : o.op = .call { callee := .builtin .append, args := #[s, x], argTypes := #[t, t] })
  (B : Nat) (e : TypeId) (i : TypeInfo) (z : Value) (sz bytes : Nat) (ht : P.underlying t = some (.slice e)) (hi : P.info? e = some i) (hz : i.zero = some z)
  (hsize : i.size = sz) (hby : i.bytes = bytes) (hzs : z.cells.size = sz) (hsz : 0 < sz) {T : Type} (f : T → List Value) (hf : ∀ y, (f y).length = sz) (hone : ∀ y u, u ∈ f y → u.oneCell' = true)
  (g : Nat) (hs : a.eval s = .slice (some ⟨g, 0, none⟩) 0 0) (hg : Blk w g e #[]) (hBg : B ≤ g) (A2 : Option Addr) (c2 : Nat) (ys : List T) (hx : a.eval x = .slice A2 ys.length c2) (hR : Rds sz f w A2 ys) (hA : A2 = none → ys = [] ∧ c2 = 0)
  (h63 : ys.length ≤ maxLen) (hbytes : ys.length * bytes ≤ 140737488355328)
  (h : ∀ g' c' w', OwnV B e sz f w' (.slice (some ⟨g', 0, none⟩) ys.length c') ys → Below w.heap.size w w' → wpList P ops Q rest (a.put o.dst (.slice (some ⟨g', 0, none⟩) ys.length c')) w') : wpList P ops Q (o :: rest) a w := by
 cases A2 with
 | some ad => exact wpList_appE hgd s x t ho B e i z sz bytes ht hi hz hsize hby hzs hsz f hf hone g hs hg hBg ad c2 ys hx hR h63 hbytes (fun g' c' w' h1 h2 _ => h g' c' w' h1 h2)
 | none =>
  obtain ⟨rfl, rfl⟩ := hA rfl
  have hO : OwnV B e sz f w (.slice (some ⟨g, 0, none⟩) 0 0) ([] : List T) := OwnV.ofBlk (xs := []) (cap := 0) hg hBg (Nat.le_refl _) (Nat.zero_le _) (by simp) (fun i x hx => by simp at hx) hf
  exact wpList_append_own_none hgd s x t ho B e i sz ht hi (.slice (some ⟨g, 0, none⟩) 0 0) 0 [] hs hO hx (h g 0 w hO (Below.refl _ _))
theorem apart_one5 (v : Value) : Apart [v, .slice none 0 0, .slice none 0 0, .slice none 0 0, .slice none 0 0] := by
 have hn : ∀ k : Nat, some k ≠ (Value.slice none 0 0).ownBlock := fun k h => by cases h
 have hm : ∀ k : Nat, (Value.slice none 0 0).ownBlock ≠ some k := fun k h => by cases h
 unfold Apart
 refine List.Pairwise.cons (fun u hu k _ => ?_) (List.Pairwise.cons (fun u hu k h => absurd h (hm k)) (List.Pairwise.cons (fun u hu k h => absurd h (hm k)) (List.Pairwise.cons (fun u hu k h => absurd h (hm k)) (List.Pairwise.cons (fun u hu => by simp at hu) List.Pairwise.nil))))
 simp only [List.mem_cons, List.not_mem_nil, or_false, or_self] at hu
 subst hu; exact hn k
end Go.G9
namespace Go.Proofs.YtjimibkgocieoaaGreat
open Go.RowKit Go.G9
def nmB (rs : List Rul) (tu se : Int) : Bool := nfB tu se && rulesB rs
def nmM (rs : List Rul) (tu se : Int) : Mee := if nmB rs tu se then ⟨rs, [], tu, se, 0, [], [], []⟩ else ⟨[], [], 0, 0, 0, [], [], []⟩
theorem nmM_yes {rs : List Rul} {tu se : Int} (h : nmB rs tu se = true) : nmM rs tu se = ⟨rs, [], tu, se, 0, [], [], []⟩ := by simp [nmM, h]
theorem nmM_no {rs : List Rul} {tu se : Int} (h : nmB rs tu se = false) : nmM rs tu se = ⟨[], [], 0, 0, 0, [], [], []⟩ := by simp [nmM, h]
theorem nmM_len (rs : List Rul) (tu se : Int) (h : rs.length ≤ 1048576) : (nmM rs tu se).rules.length ≤ 1048576 := by unfold nmM; split <;> simp <;> omega
theorem nmM_l1 (rs : List Rul) (tu se : Int) : (nmM rs tu se).pend.length ≤ 1048576 := by unfold nmM; split <;> simp
theorem nmM_l2 (rs : List Rul) (tu se : Int) : (nmM rs tu se).wait.length ≤ 1048576 := by unfold nmM; split <;> simp
theorem nmM_l3 (rs : List Rul) (tu se : Int) : (nmM rs tu se).shares.length ≤ 1048576 := by unfold nmM; split <;> simp
theorem nmM_l4 (rs : List Rul) (tu se : Int) : (nmM rs tu se).outs.length ≤ 1048576 := by unfold nmM; split <;> simp
theorem rul_len (x : Rul) : (Rul.cells x).length = 7 := rfl
theorem zb120 {p : Prop} (h : p := by
 intro u hu
 simp only [Rul.cells, List.mem_cons, List.not_mem_nil, or_false] at hu
 rcases hu with rfl | rfl | rfl | rfl | rfl | rfl | rfl <;> rfl) : p := h
theorem rul_one (x : Rul) : ∀ u, u ∈ Rul.cells x → u.oneCell' = true := by
 exact zb120
def nmS (rs : List Rul) (e : TypeId) : MkSpec (Nat × Nat) where
 par := fun n => match n with
  | 2 => [0]
  | _ => []
 val := fun n p => match n with
  | 0 => .slice (some ⟨p.1, 0, none⟩) 0 0
  | 2 => .slice (some ⟨p.1, 0, none⟩) rs.length p.2
  | _ => undef
 post := fun n σ p V0 V => match n with
  | 0 => V0.heap.size = p.1 ∧ Blk V p.1 e #[]
  | 2 => OwnV (σ 0).1 e 7 Rul.cells V (.slice (some ⟨p.1, 0, none⟩) rs.length p.2) rs
  | _ => True
theorem zb21 {p : Prop} (h : p := by
 clear z'; have z' := hZ.cs8; have fhZ' := hZ.fz8; have yhF := hF.lt; have yhZ := hZ.lt
 go_wp2
 clear f' z'
 refine st8 0 fun W9 tW9 => ?_
 replace HB := tW9.hc HB; replace hF := tW9.fa hF; replace hZ := tW9.all8 hZ; have szW9 := tW9.sz; have f' := hF.cs5; have z' := hZ.cs8
 refine bodyPost_ret (v := .tuple #[.agg #[.slice none 0 0, .slice none 0 0, .int .i64 0, .int .i64 0, .int .i64 0, .slice none 0 0, .slice none 0 0, .slice none 0 0], .bool false]) (by simp [results, Tryz.results22, go_sem, z']) rfl ?_
 rw [nmM_no HB2.out, HB2.out]
 exact ⟨none, 0, none, 0, none, 0, none, 0, none, 0, rfl, OwnV.nil, OwnV.nil, OwnV.nil, OwnV.nil, OwnV.nil, apart_one5 _, HB⟩) : p := h
theorem zb146 {p : Prop} (h : p := by
 change wpList _ _ _ (_ :: []) _ _
 go_wp2
 exact Nrm_mk ⟨(_, 0), rfl, bl1 _ _, rfl, Blk.new _ _ _⟩) : p := h
theorem zb22 {p : Prop} (h : p := by
 change wpList _ _ _ (_ :: []) _ _
 obtain ⟨U0, U, hU1, ⟨hU2, hU4⟩, hU5⟩ := hpar 0 (by simp [nmS])
 have hU6 := hU4.to hU5; have HUR := lh (HR0.out.below ((HCC5.out _).1 k.holds).1); have HU6 := lh hU6; clear hU6 hU4 hU2 hU1 hU5 hpar
 go_wp2_with ((at_builtin; refine wpList_appO rfl _ _ 24 rfl (σ 0).1 48 i0 _ 7 48 Tryz.underlying24 hi hz0 hz1 hz2 rfl (by decide) Rul.cells rul_len rul_one (σ 0).1 rfl HU6.out (Nat.le_refl _) A c rs rfl HUR.out hA (by unfold maxLen; omega) (by omega) ?_; intro g' c' w' hO' hb'))
 first | exact Nrm_mk ⟨(g', c'), rfl, hb', hO'⟩ | exact Nrm_mk ⟨g', c', rfl, hb', hO'⟩) : p := h
theorem zb107 {p : Prop} (h : p := by
 rw [nmM_yes HB2.out, HB2.out]
 exact ⟨some ⟨g9, 0, none⟩, c9, none, 0, none, 0, none, 0, none, 0, rfl, hO.base (by omega), OwnV.nil, OwnV.nil, OwnV.nil, OwnV.nil, apart_one5 _, HB⟩) : p := h
theorem iNewMeeting_is (A : Option Addr) (c : Nat) (rs : List Rul) (hn : rs.length ≤ 1048576) (tu se : Int) (w : World) (hR : Rds 7 Rul.cells w A rs) (hA : A = none → rs = [] ∧ c = 0) (kc : rs.length ≤ c) :
 Calls Tryz.prog 22 #[.slice A rs.length c, .int .i64 tu, .int .i64 se] w fun e w' => ∃ D0 d0 D1 d1 D2 d2 D3 d3 D4 d4, e = .returned (.tuple #[.agg #[.slice D0 (nmM rs tu se).rules.length d0, .slice D1 (nmM rs tu se).pend.length d1, .int .i64 (nmM rs tu se).turns, .int .i64 (nmM rs tu se).secs, .int .i64 (nmM rs tu se).spk, .slice D2 (nmM rs tu se).wait.length d2, .slice D3 (nmM rs tu se).shares.length d3, .slice D4 (nmM rs tu se).outs.length d4], .bool (nmB rs tu se)]) ∧ OwnV w.heap.size 48 7 Rul.cells w' (.slice D0 (nmM rs tu se).rules.length d0) (nmM rs tu se).rules ∧ OwnV w.heap.size 46 3 Que.cells w' (.slice D1 (nmM rs tu se).pend.length d1) (nmM rs tu se).pend ∧ OwnV w.heap.size 3 1 intC w' (.slice D2 (nmM rs tu se).wait.length d2) (nmM rs tu se).wait ∧ OwnV w.heap.size 144 3 Sha.cells w' (.slice D3 (nmM rs tu se).shares.length d3) (nmM rs tu se).shares ∧ OwnV w.heap.size 44 3 Out.cells w' (.slice D4 (nmM rs tu se).outs.length d4) (nmM rs tu se).outs ∧ Apart [.slice D0 (nmM rs tu se).rules.length d0, .slice D1 (nmM rs tu se).pend.length d1, .slice D2 (nmM rs tu se).wait.length d2, .slice D3 (nmM rs tu se).shares.length d3, .slice D4 (nmM rs tu se).outs.length d4] ∧ Below w.heap.size w w' := by
 obtain ⟨i0, hi, hz0, hz1, hz2⟩ := info_parts info_Rul
 have HR0 := lh hR; have HNA := lh hA; clear hA
 cases hnf : nfB tu se
 ·have HN := lh hnf
  have HB2 : Hid (nmB rs tu se = false) := lh (by simp [nmB, hnf]); clear hnf
  go_in
  go_upto_region 1 with fail
  refine lay1 fun wX hq1 hZ => ?_
  replace hR := hR.below hq1; have HB := hq1; have z' := hZ.cs8; have hz0' := hZ.lt
  go_wp2_with fail
  refine (iNewFloorF_is tu se HN.out _).mono ?_
  rintro e w2 ⟨rfl, hb2⟩
  have hq2 := be wX hb2; replace HB := bth HB hq2; replace hR := hR.below hq2; replace hZ := hZ.to hq2; clear z'; have z' := hZ.cs8; have zq2 := hq2.size
  go_upto_region 2 with fail
  refine lay1 fun wF hq3 hF => ?_
  replace hR := hR.below hq3; replace HB := bth HB hq3; have f' := hF.cs5; replace hZ := hZ.to hq3
  exact zb21
 cases hrb : rulesB rs
 ·have HN := lh hnf
  have HV := lh hrb; have HB2 : Hid (nmB rs tu se = false) := lh (by simp [nmB, hrb]); clear hnf hrb
  go_in
  go_upto_region 1 with fail
  refine lay1 fun wX hq1 hZ => ?_
  replace hR := hR.below hq1; have HB := hq1; have z' := hZ.cs8; have hz0' := hZ.lt
  go_wp2_with fail
  refine (iNewFloorT_is tu se HN.out _).mono ?_
  rintro e w2 ⟨rfl, hb2⟩
  have hq2 := be wX hb2; replace HB := bth HB hq2; replace hR := hR.below hq2; replace hZ := hZ.to hq2; clear z'; have z' := hZ.cs8; have zq2 := hq2.size
  go_upto_region 2 with fail
  refine lay1 fun wF hq3 hF => ?_
  replace hR := hR.below hq3; replace HB := bth HB hq3; have f' := hF.cs5; replace hZ := hZ.to hq3; clear z'; have z' := hZ.cs8
  go_wp2_with fail
  refine (isValidRules_is A c rs hn kc _ HV.out _ (hR.below bel)).mono ?_
  rintro e w4 ⟨rfl, hb4⟩
  have hq4 := be wF hb4; replace HB := bth HB hq4; replace hR := hR.below hq4; replace hF := hF.to hq4; clear f'; have f' := hF.cs5; replace hZ := hZ.to hq4
  exact zb21
 ·have HN := lh hnf
  have HV := lh hrb; have HB2 : Hid (nmB rs tu se = true) := lh (by simp [nmB, hnf, hrb]); clear hnf hrb
  go_in
  go_upto_region 1 with fail
  refine lay1 fun wX hq1 hZ => ?_
  replace hR := hR.below hq1; have HB := hq1; have z' := hZ.cs8; have hz0' := hZ.lt
  go_wp2_with fail
  refine (iNewFloorT_is tu se HN.out _).mono ?_
  rintro e w2 ⟨rfl, hb2⟩
  have hq2 := be wX hb2; replace HB := bth HB hq2; replace hR := hR.below hq2; replace hZ := hZ.to hq2; clear z'; have z' := hZ.cs8; have zq2 := hq2.size
  go_upto_region 2 with fail
  refine lay1 fun wF hq3 hF => ?_
  replace hR := hR.below hq3; replace HB := bth HB hq3; have f' := hF.cs5; replace hZ := hZ.to hq3; clear z'; have z' := hZ.cs8
  go_wp2_with fail
  refine (isValidRules_is A c rs hn kc _ HV.out _ (hR.below bel)).mono ?_
  rintro e w4 ⟨rfl, hb4⟩
  have hq4 := be wF hb4; replace HB := bth HB hq4; replace hR := hR.below hq4; replace hF := hF.to hq4; clear f'; have f' := hF.cs5; replace hZ := hZ.to hq4; clear z'; have z' := hZ.cs8; have hs2 := hZ.lt; have hs3 := HB.size; have hA := HNA.out
  obtain ⟨CC5, hCC5⟩ : ∃ X : World → Prop, ∀ V, X V ↔ (Below w.heap.size w V ∧ Blk V (w2.heap.size) 29 #[.int .i64 tu, .int .i64 se, .int .i64 0, .slice none 0 0, .slice none 0 0]) := ⟨_, fun _ => Iff.rfl⟩
  have HCC5 := lh hCC5; clear hCC5
  haveI : Nonempty (Hld CC5) := ⟨⟨w4, ((HCC5.out _).2 ⟨HB, hF⟩)⟩⟩
  clear f'; clear z'; have f' := Blk.cs5K (fun K : Hld CC5 => ((HCC5.out _).1 K.holds).2)
  go_wp2
  refine wp_region_mk (nmS rs 48) CC5 [([], 0), ([1], 2)] [3, 4] [([], 5)] [6] (by kernel_rfl) (by kernel_rfl) ((HCC5.out _).2 ⟨HB.drew, hF⟩) (fun W W' h k => ((HCC5.out _).2 ⟨((HCC5.out _).1 h).1.trans (k.mono ((HCC5.out _).1 h).1.size), ((HCC5.out _).1 h).2.below k ((HCC5.out _).1 h).2.lt⟩)) ?_
  intro σ
  refine wpMk1_cons (some 24) rfl (.slice (some ⟨(σ 0).1, 0, none⟩) 0 0) rfl fun K1 hK1 => ?_
  change wpQuiet _ _ _ _ ([]) _
  refine wpQuiet_nil ?_
  refine ⟨fun k hpar => ?_, hK1 _ ?_⟩
  ·exact zb146
  simp only [Act.put]
  go_simp
  refine wpMk1_cons (some 26) rfl (.slice (some ⟨(σ 2).1, 0, none⟩) rs.length (σ 2).2) rfl fun K1 hK1 => ?_
  change wpQuiet _ _ _ _ (_ :: []) _
  repeat (go_big_quiet_step (fail))
  refine wpQuiet_nil ?_
  refine ⟨fun k hpar => ?_, hK1 _ ?_⟩
  ·exact zb22
  simp only [Act.put]
  go_simp
  refine wpMk1_last ?_
  change wpQuiet _ _ _ _ (_ :: _ :: []) _
  repeat (go_big_quiet_step (fail))
  refine wpQuiet_nil ?_
  intro V0 V W hM hW
  have hO9 : OwnV (σ 0).1 48 7 Rul.cells (V 2) (.slice (some ⟨(σ 2).1, 0, none⟩) rs.length (σ 2).2) rs := hM.post 2 (by simp)
  obtain ⟨p0e, _⟩ : (V0 0).heap.size = (σ 0).1 ∧ Blk (V 0) (σ 0).1 48 #[] := hM.post 0 (by simp)
  have hp0 := (hM.from0 0 (by simp)).size; have hO := (hO9.later (hM.later 2 (by simp))).base (B' := w4.heap.size) (by rw [← p0e]; exact hp0); clear f'; have hq6 : Below w4.heap.size w4 W := bth bel (hM.whole 2 (by simp)).undrew; replace HB := bth HB hq6; replace hR := hR.below hq6; replace hF := hF.to hq6; have f' := hF.cs5; replace hZ := hZ.to hq6; have z' := hZ.cs8; clear hM hO9 hp0 p0e hW
  generalize σ 0 = p0 at *
  generalize σ 2 = p2 at *
  obtain ⟨g9, c9⟩ := p2
  refine wpMix_cons fun K2 hK2 => ?_
  change wpQuiet _ _ _ _ ([]) _
  refine wpQuiet_nil ?_
  change wpList _ _ _ (_ :: []) _ _
  have fhZ' := hZ.fz8; have yhF := hF.lt; have yhZ := hZ.lt
  go_wp2
  clear f' z'
  refine st8 0 fun W3 tW3 => ?_
  replace HB := tW3.hc HB; replace hF := tW3.fa hF; replace hZ := tW3.all8 hZ; have gRW3 := tW3.gr; have szW3 := tW3.sz; replace hO := hO.keptS tW3 (fun k hk => by first | exact nehO k hk | (have := hO.lt k hk; omega)); have f' := hF.cs5; have z' := hZ.cs8
  refine Nrm_intro (((HCC5.out _).2 ⟨HB, hF⟩)) (hK2 _ _ ?_)
  refine wpMix_last ?_
  change wpQuiet _ _ _ _ (_ :: []) _
  repeat (go_big_quiet_step (fail))
  refine wpQuiet_nil ?_
  go_wp2
  refine bodyPost_ret (v := .tuple #[.agg #[.slice (some ⟨g9, 0, none⟩) rs.length c9, .slice none 0 0, .int .i64 tu, .int .i64 se, .int .i64 0, .slice none 0 0, .slice none 0 0, .slice none 0 0], .bool true]) (by simp [results, Tryz.results22, go_sem, z']) rfl ?_
  exact zb107
theorem zb7 {p : Prop} (h : p := by
 go_in
 go_upto_region 1 with fail
 refine lay1 fun wX hq1 hZ => ?_
 replace hR := hR.below hq1; have HB := hq1; have z' := hZ.cs8; have hz0' := hZ.lt
 go_wp2_with fail
 refine (sNewFloorF_is tu se HN.out _).mono ?_
 rintro e w2 ⟨rfl, hb2⟩
 have hq2 := be wX hb2; replace HB := bth HB hq2; replace hR := hR.below hq2; replace hZ := hZ.to hq2; clear z'; have z' := hZ.cs8; have zq2 := hq2.size
 go_upto_region 2 with fail
 refine lay1 fun wF hq3 hF => ?_
 replace hR := hR.below hq3; replace HB := bth HB hq3; have f' := hF.cs5; replace hZ := hZ.to hq3; clear z'; have z' := hZ.cs8
 go_wp2_with fail
 refine (l2Good_is A c rs hn _ HV.out _ (hR.below bel)).mono ?_
 rintro e w4 ⟨rfl, hb4⟩
 have hq4 := be wF hb4; replace HB := bth HB hq4; replace hR := hR.below hq4; replace hF := hF.to hq4; clear f'; have f' := hF.cs5; replace hZ := hZ.to hq4; clear z'; have z' := hZ.cs8; have fhZ' := hZ.fz8; have yhF := hF.lt; have yhZ := hZ.lt
 go_wp2
 clear f' z'
 refine st8 0 fun W9 tW9 => ?_
 replace HB := tW9.hc HB; replace hF := tW9.fa hF; replace hZ := tW9.all8 hZ; have szW9 := tW9.sz; have f' := hF.cs5; have z' := hZ.cs8
 refine bodyPost_ret (v := .tuple #[.agg #[.slice none 0 0, .slice none 0 0, .int .i64 0, .int .i64 0, .int .i64 0, .slice none 0 0, .slice none 0 0, .slice none 0 0], .bool false]) (by simp [results, Tryz.results23, go_sem, z']) rfl ?_
 rw [nmM_no HB2.out, HB2.out]
 exact ⟨none, 0, none, 0, none, 0, none, 0, none, 0, rfl, OwnV.nil, OwnV.nil, OwnV.nil, OwnV.nil, OwnV.nil, apart_one5 _, HB⟩) : p := h
theorem sNewMeeting_is (A : Option Addr) (c : Nat) (rs : List Rul) (hn : rs.length ≤ 1048576) (tu se : Int) (w : World) (hR : Rds 7 Rul.cells w A rs) (hA : A = none → rs = [] ∧ c = 0) (kc : rs.length ≤ c) :
 Calls Tryz.prog 23 #[.slice A rs.length c, .int .i64 tu, .int .i64 se] w fun e w' => ∃ D0 d0 D1 d1 D2 d2 D3 d3 D4 d4, e = .returned (.tuple #[.agg #[.slice D0 (nmM rs tu se).rules.length d0, .slice D1 (nmM rs tu se).pend.length d1, .int .i64 (nmM rs tu se).turns, .int .i64 (nmM rs tu se).secs, .int .i64 (nmM rs tu se).spk, .slice D2 (nmM rs tu se).wait.length d2, .slice D3 (nmM rs tu se).shares.length d3, .slice D4 (nmM rs tu se).outs.length d4], .bool (nmB rs tu se)]) ∧ OwnV w.heap.size 48 7 Rul.cells w' (.slice D0 (nmM rs tu se).rules.length d0) (nmM rs tu se).rules ∧ OwnV w.heap.size 46 3 Que.cells w' (.slice D1 (nmM rs tu se).pend.length d1) (nmM rs tu se).pend ∧ OwnV w.heap.size 3 1 intC w' (.slice D2 (nmM rs tu se).wait.length d2) (nmM rs tu se).wait ∧ OwnV w.heap.size 144 3 Sha.cells w' (.slice D3 (nmM rs tu se).shares.length d3) (nmM rs tu se).shares ∧ OwnV w.heap.size 44 3 Out.cells w' (.slice D4 (nmM rs tu se).outs.length d4) (nmM rs tu se).outs ∧ Apart [.slice D0 (nmM rs tu se).rules.length d0, .slice D1 (nmM rs tu se).pend.length d1, .slice D2 (nmM rs tu se).wait.length d2, .slice D3 (nmM rs tu se).shares.length d3, .slice D4 (nmM rs tu se).outs.length d4] ∧ Below w.heap.size w w' := by
 obtain ⟨i0, hi, hz0, hz1, hz2⟩ := info_parts info_Rul
 have HR0 := lh hR; have HNA := lh hA; clear hA
 cases hrb : rulesB rs
 ·have HV := lh hrb
  have HB2 : Hid (nmB rs tu se = false) := lh (by simp [nmB, hrb]); clear hrb
  cases hnf : nfB tu se
  ·have HN := lh hnf
   clear hnf
   exact zb7
  ·have HN := lh hnf
   clear hnf
   go_in
   go_upto_region 1 with fail
   refine lay1 fun wX hq1 hZ => ?_
   replace hR := hR.below hq1; have HB := hq1; have z' := hZ.cs8; have hz0' := hZ.lt
   go_wp2_with fail
   refine (sNewFloorT_is tu se HN.out _).mono ?_
   rintro e w2 ⟨rfl, hb2⟩
   have hq2 := be wX hb2; replace HB := bth HB hq2; replace hR := hR.below hq2; replace hZ := hZ.to hq2; clear z'; have z' := hZ.cs8; have zq2 := hq2.size
   go_upto_region 2 with fail
   refine lay1 fun wF hq3 hF => ?_
   replace hR := hR.below hq3; replace HB := bth HB hq3; have f' := hF.cs5; replace hZ := hZ.to hq3; clear z'; have z' := hZ.cs8
   go_wp2_with fail
   refine (l2Good_is A c rs hn _ HV.out _ (hR.below bel)).mono ?_
   rintro e w4 ⟨rfl, hb4⟩
   have hq4 := be wF hb4; replace HB := bth HB hq4; replace hR := hR.below hq4; replace hF := hF.to hq4; clear f'; have f' := hF.cs5; replace hZ := hZ.to hq4; clear z'; have z' := hZ.cs8; have fhZ' := hZ.fz8; have yhF := hF.lt; have yhZ := hZ.lt
   go_wp2
   clear f' z'
   refine st8 0 fun W9 tW9 => ?_
   replace HB := tW9.hc HB; replace hF := tW9.fa hF; replace hZ := tW9.all8 hZ; have szW9 := tW9.sz; have f' := hF.cs5; have z' := hZ.cs8
   refine bodyPost_ret (v := .tuple #[.agg #[.slice none 0 0, .slice none 0 0, .int .i64 0, .int .i64 0, .int .i64 0, .slice none 0 0, .slice none 0 0, .slice none 0 0], .bool false]) (by simp [results, Tryz.results23, go_sem, z']) rfl ?_
   rw [nmM_no HB2.out, HB2.out]
   exact ⟨none, 0, none, 0, none, 0, none, 0, none, 0, rfl, OwnV.nil, OwnV.nil, OwnV.nil, OwnV.nil, OwnV.nil, apart_one5 _, HB⟩
 cases hnf : nfB tu se
 ·have HN := lh hnf
  have HV := lh hrb; have HB2 : Hid (nmB rs tu se = false) := lh (by simp [nmB, hnf]); clear hnf hrb
  exact zb7
 ·have HN := lh hnf
  have HV := lh hrb; have HB2 : Hid (nmB rs tu se = true) := lh (by simp [nmB, hnf, hrb]); clear hnf hrb
  go_in
  go_upto_region 1 with fail
  refine lay1 fun wX hq1 hZ => ?_
  replace hR := hR.below hq1; have HB := hq1; have z' := hZ.cs8; have hz0' := hZ.lt
  go_wp2_with fail
  refine (sNewFloorT_is tu se HN.out _).mono ?_
  rintro e w2 ⟨rfl, hb2⟩
  have hq2 := be wX hb2; replace HB := bth HB hq2; replace hR := hR.below hq2; replace hZ := hZ.to hq2; clear z'; have z' := hZ.cs8; have zq2 := hq2.size
  go_upto_region 2 with fail
  refine lay1 fun wF hq3 hF => ?_
  replace hR := hR.below hq3; replace HB := bth HB hq3; have f' := hF.cs5; replace hZ := hZ.to hq3; clear z'; have z' := hZ.cs8
  go_wp2_with fail
  refine (l2Good_is A c rs hn _ HV.out _ (hR.below bel)).mono ?_
  rintro e w4 ⟨rfl, hb4⟩
  have hq4 := be wF hb4; replace HB := bth HB hq4; replace hR := hR.below hq4; replace hF := hF.to hq4; clear f'; have f' := hF.cs5; replace hZ := hZ.to hq4; clear z'; have z' := hZ.cs8; have hs2 := hZ.lt; have hs3 := HB.size; have hA := HNA.out
  obtain ⟨CC5, hCC5⟩ : ∃ X : World → Prop, ∀ V, X V ↔ (Below w.heap.size w V ∧ Blk V (w2.heap.size) 29 #[.int .i64 tu, .int .i64 se, .int .i64 0, .slice none 0 0, .slice none 0 0]) := ⟨_, fun _ => Iff.rfl⟩
  have HCC5 := lh hCC5; clear hCC5
  haveI : Nonempty (Hld CC5) := ⟨⟨w4, ((HCC5.out _).2 ⟨HB, hF⟩)⟩⟩
  clear f'; clear z'; have f' := Blk.cs5K (fun K : Hld CC5 => ((HCC5.out _).1 K.holds).2)
  go_wp2
  refine wp_region_mk (nmS rs 48) CC5 [([], 0), ([1], 2)] [3, 4] [([], 5)] [6] (by kernel_rfl) (by kernel_rfl) ((HCC5.out _).2 ⟨HB.drew, hF⟩) (fun W W' h k => ((HCC5.out _).2 ⟨((HCC5.out _).1 h).1.trans (k.mono ((HCC5.out _).1 h).1.size), ((HCC5.out _).1 h).2.below k ((HCC5.out _).1 h).2.lt⟩)) ?_
  intro σ
  refine wpMk1_cons (some 24) rfl (.slice (some ⟨(σ 0).1, 0, none⟩) 0 0) rfl fun K1 hK1 => ?_
  change wpQuiet _ _ _ _ ([]) _
  refine wpQuiet_nil ?_
  refine ⟨fun k hpar => ?_, hK1 _ ?_⟩
  ·exact zb146
  simp only [Act.put]
  go_simp
  refine wpMk1_cons (some 26) rfl (.slice (some ⟨(σ 2).1, 0, none⟩) rs.length (σ 2).2) rfl fun K1 hK1 => ?_
  change wpQuiet _ _ _ _ (_ :: []) _
  repeat (go_big_quiet_step (fail))
  refine wpQuiet_nil ?_
  refine ⟨fun k hpar => ?_, hK1 _ ?_⟩
  ·exact zb22
  simp only [Act.put]
  go_simp
  refine wpMk1_last ?_
  change wpQuiet _ _ _ _ (_ :: _ :: []) _
  repeat (go_big_quiet_step (fail))
  refine wpQuiet_nil ?_
  intro V0 V W hM hW
  have hO9 : OwnV (σ 0).1 48 7 Rul.cells (V 2) (.slice (some ⟨(σ 2).1, 0, none⟩) rs.length (σ 2).2) rs := hM.post 2 (by simp)
  obtain ⟨p0e, _⟩ : (V0 0).heap.size = (σ 0).1 ∧ Blk (V 0) (σ 0).1 48 #[] := hM.post 0 (by simp)
  have hp0 := (hM.from0 0 (by simp)).size; have hO := (hO9.later (hM.later 2 (by simp))).base (B' := w4.heap.size) (by rw [← p0e]; exact hp0); clear f'; have hq6 : Below w4.heap.size w4 W := bth bel (hM.whole 2 (by simp)).undrew; replace HB := bth HB hq6; replace hR := hR.below hq6; replace hF := hF.to hq6; have f' := hF.cs5; replace hZ := hZ.to hq6; have z' := hZ.cs8; clear hM hO9 hp0 p0e hW
  generalize σ 0 = p0 at *
  generalize σ 2 = p2 at *
  obtain ⟨g9, c9⟩ := p2
  refine wpMix_cons fun K2 hK2 => ?_
  change wpQuiet _ _ _ _ ([]) _
  refine wpQuiet_nil ?_
  change wpList _ _ _ (_ :: []) _ _
  have fhZ' := hZ.fz8; have yhF := hF.lt; have yhZ := hZ.lt
  go_wp2
  clear f' z'
  refine st8 0 fun W3 tW3 => ?_
  replace HB := tW3.hc HB; replace hF := tW3.fa hF; replace hZ := tW3.all8 hZ; have gRW3 := tW3.gr; have szW3 := tW3.sz; replace hO := hO.keptS tW3 (fun k hk => by first | exact nehO k hk | (have := hO.lt k hk; omega)); have f' := hF.cs5; have z' := hZ.cs8
  refine Nrm_intro (((HCC5.out _).2 ⟨HB, hF⟩)) (hK2 _ _ ?_)
  refine wpMix_last ?_
  change wpQuiet _ _ _ _ (_ :: []) _
  repeat (go_big_quiet_step (fail))
  refine wpQuiet_nil ?_
  go_wp2
  refine bodyPost_ret (v := .tuple #[.agg #[.slice (some ⟨g9, 0, none⟩) rs.length c9, .slice none 0 0, .int .i64 tu, .int .i64 se, .int .i64 0, .slice none 0 0, .slice none 0 0, .slice none 0 0], .bool true]) (by simp [results, Tryz.results23, go_sem, z']) rfl ?_
  exact zb107
end Go.Proofs.YtjimibkgocieoaaGreat
