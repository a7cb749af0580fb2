/- The law of IsValidConsole: the program's answer is the reference's, for all arguments. -/
import Derived.Test.YtpkagohflkcnkaaGreatDoorIv19
import Derived.Test.YtpkagohflkcnkaaGreatDoorIv3
import Derived.Deep.RegionHeld3
import Derived.Test.YtpkagohflkcnkaaGreatDoorIv14
import Derived.Test.YtpkagohflkcnkaaGreatDoorRows
import Derived.Test.YtpkagohflkcnkaaGreatDoorIv10
import Derived.Test.YtpkagohflkcnkaaGreatDoorIv13
import Derived.Test.YtpkagohflkcnkaaGreatDoorIv2
import Derived.Test.YtpkagohflkcnkaaGreatDoorTie
import Derived.Test.YtpkagohflkcnkaaGreatDoorCards
import Derived.Deep.DeepHandedRow
import Derived.Lib.LaidTab
import Derived.OpenVars
namespace Go.Proofs.YtpkagohflkcnkaaGreatDoor
open Go.RowKit Go.G9
set_option maxHeartbeats 8000000 in
set_option maxRecDepth 100000 in
theorem law_isValidConsole (x : Con) (hx_s0 : x.dur.size ≤ maxLen) (hx_s1 : x.pen.size ≤ maxLen) (Ax_0 Ax_1 Ax_2 Ax_3 Ax_4 : Option Addr) (cx_0 cx_1 cx_2 cx_3 cx_4 : Nat) (hx_0 : x.rules.length ≤ maxLen) (hx_1 : x.pend.length ≤ maxLen) (hx_2 : x.wait.length ≤ maxLen) (hx_3 : x.shares.length ≤ maxLen) (hx_4 : x.outs.length ≤ maxLen) (w : World) (Rx_0 : Rds 7 Rul.cells w Ax_0 x.rules) (Rx_1 : Rds 3 Que.cells w Ax_1 x.pend) (Rx_2 : Rds 1 intC w Ax_2 x.wait) (Rx_3 : Rds 3 Sha.cells w Ax_3 x.shares) (Rx_4 : Rds 3 Out.cells w Ax_4 x.outs) (HT : Tab w) :
  Calls Tryz.prog 3 #[.agg #[.slice Ax_0 x.rules.length cx_0, .slice Ax_1 x.pend.length cx_1, .int .i64 x.turns, .int .i64 x.secs, .int .i64 x.spk, .slice Ax_2 x.wait.length cx_2, .slice Ax_3 x.shares.length cx_3, .slice Ax_4 x.outs.length cx_4, .string x.dur, .string x.pen, .int .i64 x.cnt]] w fun e w' => e = .returned (.bool true) ∧ Below w.heap.size w w' := by
  obtain ⟨v, hv⟩ : ∃ v, conB x = v := ⟨_, rfl⟩
  have HV := Lib.hid hv; clear hv
  go_enter Tryz.func3, Tryz.ntmps3
  go_wp2_with fail
  refine (szConsole_is x Ax_0 Ax_1 Ax_2 Ax_3 Ax_4 cx_0 cx_1 cx_2 cx_3 cx_4 hx_0 hx_1 hx_2 hx_3 hx_4 hx_s0 hx_s1 1048576 (by omega) (by omega) _ (Rx_0.below (by repeat (first | exact Below.refl _ _ | refine Below.alloc ?_ (by first | exact Nat.le_refl _ | (simp <;> omega)) _ | refine Below.setCell ?_ (by first | exact Nat.le_refl _ | (simp <;> omega)) _)))).mono ?_
  rintro e w1 ⟨r0, rfl, hr0, hs0, hl0, hb1⟩
  have hq1 : Below w.heap.size w w1 := bth (by repeat (first | exact Below.refl _ _ | refine Below.alloc ?_ (by first | exact Nat.le_refl _ | (simp <;> omega)) _ | refine Below.setCell ?_ (by first | exact Nat.le_refl _ | (simp <;> omega)) _)) hb1
  have z1 := hq1.size
  have HB : Below w.heap.size w w1 := hq1
  have X1 : Blk w1 (w.heap.size) 34 #[.slice Ax_0 x.rules.length cx_0, .slice Ax_1 x.pend.length cx_1, .int .i64 x.turns, .int .i64 x.secs, .int .i64 x.spk, .slice Ax_2 x.wait.length cx_2, .slice Ax_3 x.shares.length cx_3, .slice Ax_4 x.outs.length cx_4, .string x.dur, .string x.pen, .int .i64 x.cnt] := Blk.below (by repeat (first | exact Blk.new _ _ _ | exact Blk.new2 _ _ _ _ | exact Blk.new3 _ _ _ _ _ | refine Blk.alloc ?_ _)) hb1 (by simp <;> omega)
  have yX1 := X1.lt
  have X1_0 := (X1.cell 0).trans (show _ = some (.slice Ax_0 x.rules.length cx_0) from rfl)
  have X1_1 := (X1.cell 1).trans (show _ = some (.slice Ax_1 x.pend.length cx_1) from rfl)
  have X1_2 := (X1.cell 2).trans (show _ = some (.int .i64 x.turns) from rfl)
  have X1_3 := (X1.cell 3).trans (show _ = some (.int .i64 x.secs) from rfl)
  have X1_4 := (X1.cell 4).trans (show _ = some (.int .i64 x.spk) from rfl)
  have X1_5 := (X1.cell 5).trans (show _ = some (.slice Ax_2 x.wait.length cx_2) from rfl)
  have X1_6 := (X1.cell 6).trans (show _ = some (.slice Ax_3 x.shares.length cx_3) from rfl)
  have X1_7 := (X1.cell 7).trans (show _ = some (.slice Ax_4 x.outs.length cx_4) from rfl)
  have X1_8 := (X1.cell 8).trans (show _ = some (.string x.dur) from rfl)
  have X1_9 := (X1.cell 9).trans (show _ = some (.string x.pen) from rfl)
  have X1_10 := (X1.cell 10).trans (show _ = some (.int .i64 x.cnt) from rfl)
  by_cases h00 : r0 < 0
  · go_wp2
    go_ret
    exact ⟨rfl, bth HB (by repeat (first | exact Below.refl _ _ | refine Below.alloc ?_ (by first | exact Nat.le_refl _ | (simp <;> omega)) _ | refine Below.setCell ?_ (by first | exact Nat.le_refl _ | (simp <;> omega)) _))⟩
  clear X1_0 X1_1 X1_2 X1_3 X1_4 X1_5 X1_6 X1_7 X1_8 X1_9 X1_10
  have hx_0' : x.rules.length ≤ 1048576 := by omega
  have hx_1' : x.pend.length ≤ 1048576 := by omega
  have hx_2' : x.wait.length ≤ 1048576 := by omega
  have hx_3' : x.shares.length ≤ 1048576 := by omega
  have hx_4' : x.outs.length ≤ 1048576 := by omega
  have hx_t0 : x.dur.size + x.pen.size ≤ 1048576 := by omega
  clear hl0
  have X1_0 := (X1.cell 0).trans (show _ = some (.slice Ax_0 x.rules.length cx_0) from rfl)
  have X1_1 := (X1.cell 1).trans (show _ = some (.slice Ax_1 x.pend.length cx_1) from rfl)
  have X1_2 := (X1.cell 2).trans (show _ = some (.int .i64 x.turns) from rfl)
  have X1_3 := (X1.cell 3).trans (show _ = some (.int .i64 x.secs) from rfl)
  have X1_4 := (X1.cell 4).trans (show _ = some (.int .i64 x.spk) from rfl)
  have X1_5 := (X1.cell 5).trans (show _ = some (.slice Ax_2 x.wait.length cx_2) from rfl)
  have X1_6 := (X1.cell 6).trans (show _ = some (.slice Ax_3 x.shares.length cx_3) from rfl)
  have X1_7 := (X1.cell 7).trans (show _ = some (.slice Ax_4 x.outs.length cx_4) from rfl)
  have X1_8 := (X1.cell 8).trans (show _ = some (.string x.dur) from rfl)
  have X1_9 := (X1.cell 9).trans (show _ = some (.string x.pen) from rfl)
  have X1_10 := (X1.cell 10).trans (show _ = some (.int .i64 x.cnt) from rfl)
  go_wp2_with fail
  refine (toConsole_is x Ax_0 Ax_1 Ax_2 Ax_3 Ax_4 cx_0 cx_1 cx_2 cx_3 cx_4 hx_0' hx_1' hx_2' hx_3' hx_4' hx_t0 _ (Rx_0.below (bth HB (by repeat (first | exact Below.refl _ _ | refine Below.alloc ?_ (by first | exact Nat.le_refl _ | (simp <;> omega)) _ | refine Below.setCell ?_ (by first | exact Nat.le_refl _ | (simp <;> omega)) _)))) (Rx_1.below (bth HB (by repeat (first | exact Below.refl _ _ | refine Below.alloc ?_ (by first | exact Nat.le_refl _ | (simp <;> omega)) _ | refine Below.setCell ?_ (by first | exact Nat.le_refl _ | (simp <;> omega)) _)))) (Rx_2.below (bth HB (by repeat (first | exact Below.refl _ _ | refine Below.alloc ?_ (by first | exact Nat.le_refl _ | (simp <;> omega)) _ | refine Below.setCell ?_ (by first | exact Nat.le_refl _ | (simp <;> omega)) _)))) (Rx_3.below (bth HB (by repeat (first | exact Below.refl _ _ | refine Below.alloc ?_ (by first | exact Nat.le_refl _ | (simp <;> omega)) _ | refine Below.setCell ?_ (by first | exact Nat.le_refl _ | (simp <;> omega)) _)))) (Rx_4.below (bth HB (by repeat (first | exact Below.refl _ _ | refine Below.alloc ?_ (by first | exact Nat.le_refl _ | (simp <;> omega)) _ | refine Below.setCell ?_ (by first | exact Nat.le_refl _ | (simp <;> omega)) _))))).mono ?_
  rintro e w2 ⟨As0_0, As0_1, As0_2, As0_3, As0_4, rfl, Os0_0, Os0_1, Os0_2, Os0_3, Os0_4, aps0, hb2⟩
  clear X1_0 X1_1 X1_2 X1_3 X1_4 X1_5 X1_6 X1_7 X1_8 X1_9 X1_10
  have hq2 : Below w1.heap.size w1 w2 := bth (by repeat (first | exact Below.refl _ _ | refine Below.alloc ?_ (by first | exact Nat.le_refl _ | (simp <;> omega)) _ | refine Below.setCell ?_ (by first | exact Nat.le_refl _ | (simp <;> omega)) _)) hb2
  have z2 := hq2.size
  replace HB := bth HB hq2
  replace X1 := X1.below hq2 X1.lt
  have ins0 : Within [.slice As0_0 x.rules.length x.rules.length, .slice As0_1 x.pend.length x.pend.length, .slice As0_2 x.wait.length x.wait.length, .slice As0_3 x.shares.length x.shares.length, .slice As0_4 x.outs.length x.outs.length] (w1.heap.size) (w2.heap.size) := by
    intro v hv k hk
    simp only [List.mem_cons, List.not_mem_nil, or_false] at hv
    rcases hv with rfl | hv
    · have h := Os0_0.lt k hk; (try simp at h); omega
    rcases hv with rfl | hv
    · have h := Os0_1.lt k hk; (try simp at h); omega
    rcases hv with rfl | hv
    · have h := Os0_2.lt k hk; (try simp at h); omega
    rcases hv with rfl | hv
    · have h := Os0_3.lt k hk; (try simp at h); omega
    subst hv
    have h := Os0_4.lt k hk; (try simp at h); omega
  have X1_0 := (X1.cell 0).trans (show _ = some (.slice Ax_0 x.rules.length cx_0) from rfl)
  have X1_1 := (X1.cell 1).trans (show _ = some (.slice Ax_1 x.pend.length cx_1) from rfl)
  have X1_2 := (X1.cell 2).trans (show _ = some (.int .i64 x.turns) from rfl)
  have X1_3 := (X1.cell 3).trans (show _ = some (.int .i64 x.secs) from rfl)
  have X1_4 := (X1.cell 4).trans (show _ = some (.int .i64 x.spk) from rfl)
  have X1_5 := (X1.cell 5).trans (show _ = some (.slice Ax_2 x.wait.length cx_2) from rfl)
  have X1_6 := (X1.cell 6).trans (show _ = some (.slice Ax_3 x.shares.length cx_3) from rfl)
  have X1_7 := (X1.cell 7).trans (show _ = some (.slice Ax_4 x.outs.length cx_4) from rfl)
  have X1_8 := (X1.cell 8).trans (show _ = some (.string x.dur) from rfl)
  have X1_9 := (X1.cell 9).trans (show _ = some (.string x.pen) from rfl)
  have X1_10 := (X1.cell 10).trans (show _ = some (.int .i64 x.cnt) from rfl)
  go_wp2_with fail
  refine (sIsValidConsole_is x As0_0 As0_1 As0_2 As0_3 As0_4 x.rules.length x.pend.length x.wait.length x.shares.length x.outs.length hx_0' hx_1' hx_2' hx_3' hx_4' hx_t0 _ HV.out _ (Os0_0.rds.below (by repeat (first | exact Below.refl _ _ | refine Below.alloc ?_ (by first | exact Nat.le_refl _ | (simp <;> omega)) _ | refine Below.setCell ?_ (by first | exact Nat.le_refl _ | (simp <;> omega)) _))) (Os0_1.rds.below (by repeat (first | exact Below.refl _ _ | refine Below.alloc ?_ (by first | exact Nat.le_refl _ | (simp <;> omega)) _ | refine Below.setCell ?_ (by first | exact Nat.le_refl _ | (simp <;> omega)) _))) (Os0_2.rds.below (by repeat (first | exact Below.refl _ _ | refine Below.alloc ?_ (by first | exact Nat.le_refl _ | (simp <;> omega)) _ | refine Below.setCell ?_ (by first | exact Nat.le_refl _ | (simp <;> omega)) _))) (Os0_3.rds.below (by repeat (first | exact Below.refl _ _ | refine Below.alloc ?_ (by first | exact Nat.le_refl _ | (simp <;> omega)) _ | refine Below.setCell ?_ (by first | exact Nat.le_refl _ | (simp <;> omega)) _))) (Os0_4.rds.below (by repeat (first | exact Below.refl _ _ | refine Below.alloc ?_ (by first | exact Nat.le_refl _ | (simp <;> omega)) _ | refine Below.setCell ?_ (by first | exact Nat.le_refl _ | (simp <;> omega)) _))) (Nat.le_refl _) (Nat.le_refl _) (Nat.le_refl _) (Nat.le_refl _) (Nat.le_refl _)).mono ?_
  rintro e w3 ⟨rfl, hb3⟩
  clear X1_0 X1_1 X1_2 X1_3 X1_4 X1_5 X1_6 X1_7 X1_8 X1_9 X1_10
  have hq3 : Below w2.heap.size w2 w3 := bth (by repeat (first | exact Below.refl _ _ | refine Below.alloc ?_ (by first | exact Nat.le_refl _ | (simp <;> omega)) _ | refine Below.setCell ?_ (by first | exact Nat.le_refl _ | (simp <;> omega)) _)) hb3
  have z3 := hq3.size
  replace HB := bth HB hq3
  replace Os0_0 := Os0_0.later hq3
  replace Os0_1 := Os0_1.later hq3
  replace Os0_2 := Os0_2.later hq3
  replace Os0_3 := Os0_3.later hq3
  replace Os0_4 := Os0_4.later hq3
  replace X1 := X1.below hq3 X1.lt
  have X1_0 := (X1.cell 0).trans (show _ = some (.slice Ax_0 x.rules.length cx_0) from rfl)
  have X1_1 := (X1.cell 1).trans (show _ = some (.slice Ax_1 x.pend.length cx_1) from rfl)
  have X1_2 := (X1.cell 2).trans (show _ = some (.int .i64 x.turns) from rfl)
  have X1_3 := (X1.cell 3).trans (show _ = some (.int .i64 x.secs) from rfl)
  have X1_4 := (X1.cell 4).trans (show _ = some (.int .i64 x.spk) from rfl)
  have X1_5 := (X1.cell 5).trans (show _ = some (.slice Ax_2 x.wait.length cx_2) from rfl)
  have X1_6 := (X1.cell 6).trans (show _ = some (.slice Ax_3 x.shares.length cx_3) from rfl)
  have X1_7 := (X1.cell 7).trans (show _ = some (.slice Ax_4 x.outs.length cx_4) from rfl)
  have X1_8 := (X1.cell 8).trans (show _ = some (.string x.dur) from rfl)
  have X1_9 := (X1.cell 9).trans (show _ = some (.string x.pen) from rfl)
  have X1_10 := (X1.cell 10).trans (show _ = some (.int .i64 x.cnt) from rfl)
  go_wp2_with fail
  refine (toConsole_is x Ax_0 Ax_1 Ax_2 Ax_3 Ax_4 cx_0 cx_1 cx_2 cx_3 cx_4 hx_0' hx_1' hx_2' hx_3' hx_4' hx_t0 _ (Rx_0.below (bth HB (by repeat (first | exact Below.refl _ _ | refine Below.alloc ?_ (by first | exact Nat.le_refl _ | (simp <;> omega)) _ | refine Below.setCell ?_ (by first | exact Nat.le_refl _ | (simp <;> omega)) _)))) (Rx_1.below (bth HB (by repeat (first | exact Below.refl _ _ | refine Below.alloc ?_ (by first | exact Nat.le_refl _ | (simp <;> omega)) _ | refine Below.setCell ?_ (by first | exact Nat.le_refl _ | (simp <;> omega)) _)))) (Rx_2.below (bth HB (by repeat (first | exact Below.refl _ _ | refine Below.alloc ?_ (by first | exact Nat.le_refl _ | (simp <;> omega)) _ | refine Below.setCell ?_ (by first | exact Nat.le_refl _ | (simp <;> omega)) _)))) (Rx_3.below (bth HB (by repeat (first | exact Below.refl _ _ | refine Below.alloc ?_ (by first | exact Nat.le_refl _ | (simp <;> omega)) _ | refine Below.setCell ?_ (by first | exact Nat.le_refl _ | (simp <;> omega)) _)))) (Rx_4.below (bth HB (by repeat (first | exact Below.refl _ _ | refine Below.alloc ?_ (by first | exact Nat.le_refl _ | (simp <;> omega)) _ | refine Below.setCell ?_ (by first | exact Nat.le_refl _ | (simp <;> omega)) _))))).mono ?_
  rintro e w4 ⟨Ax0_0, Ax0_1, Ax0_2, Ax0_3, Ax0_4, rfl, Ox0_0, Ox0_1, Ox0_2, Ox0_3, Ox0_4, apx0, hb4⟩
  clear X1_0 X1_1 X1_2 X1_3 X1_4 X1_5 X1_6 X1_7 X1_8 X1_9 X1_10
  have hq4 : Below w3.heap.size w3 w4 := bth (by repeat (first | exact Below.refl _ _ | refine Below.alloc ?_ (by first | exact Nat.le_refl _ | (simp <;> omega)) _ | refine Below.setCell ?_ (by first | exact Nat.le_refl _ | (simp <;> omega)) _)) hb4
  have z4 := hq4.size
  replace HB := bth HB hq4
  replace X1 := X1.below hq4 X1.lt
  have inx0 : Within [.slice Ax0_0 x.rules.length x.rules.length, .slice Ax0_1 x.pend.length x.pend.length, .slice Ax0_2 x.wait.length x.wait.length, .slice Ax0_3 x.shares.length x.shares.length, .slice Ax0_4 x.outs.length x.outs.length] (w3.heap.size) (w4.heap.size) := by
    intro v hv k hk
    simp only [List.mem_cons, List.not_mem_nil, or_false] at hv
    rcases hv with rfl | hv
    · have h := Ox0_0.lt k hk; (try simp at h); omega
    rcases hv with rfl | hv
    · have h := Ox0_1.lt k hk; (try simp at h); omega
    rcases hv with rfl | hv
    · have h := Ox0_2.lt k hk; (try simp at h); omega
    rcases hv with rfl | hv
    · have h := Ox0_3.lt k hk; (try simp at h); omega
    subst hv
    have h := Ox0_4.lt k hk; (try simp at h); omega
  have X1_l0 : w.heap.size < w4.heap.size := by have h := X1.lt; omega
  have X1_0 := (X1.cell 0).trans (show _ = some (.slice Ax_0 x.rules.length cx_0) from rfl)
  have X1_1 := (X1.cell 1).trans (show _ = some (.slice Ax_1 x.pend.length cx_1) from rfl)
  have X1_2 := (X1.cell 2).trans (show _ = some (.int .i64 x.turns) from rfl)
  have X1_3 := (X1.cell 3).trans (show _ = some (.int .i64 x.secs) from rfl)
  have X1_4 := (X1.cell 4).trans (show _ = some (.int .i64 x.spk) from rfl)
  have X1_5 := (X1.cell 5).trans (show _ = some (.slice Ax_2 x.wait.length cx_2) from rfl)
  have X1_6 := (X1.cell 6).trans (show _ = some (.slice Ax_3 x.shares.length cx_3) from rfl)
  have X1_7 := (X1.cell 7).trans (show _ = some (.slice Ax_4 x.outs.length cx_4) from rfl)
  have X1_8 := (X1.cell 8).trans (show _ = some (.string x.dur) from rfl)
  have X1_9 := (X1.cell 9).trans (show _ = some (.string x.pen) from rfl)
  have X1_10 := (X1.cell 10).trans (show _ = some (.int .i64 x.cnt) from rfl)
  go_wp2_with fail
  refine (iIsValidConsole_is x Ax0_0 Ax0_1 Ax0_2 Ax0_3 Ax0_4 x.rules.length x.pend.length x.wait.length x.shares.length x.outs.length hx_0' hx_1' hx_2' hx_3' hx_4' hx_t0 _ HV.out _ (Ox0_0.rds.below (by repeat (first | exact Below.refl _ _ | refine Below.alloc ?_ (by first | exact Nat.le_refl _ | (simp <;> omega)) _ | refine Below.setCell ?_ (by first | exact Nat.le_refl _ | (simp <;> omega)) _))) (Ox0_1.rds.below (by repeat (first | exact Below.refl _ _ | refine Below.alloc ?_ (by first | exact Nat.le_refl _ | (simp <;> omega)) _ | refine Below.setCell ?_ (by first | exact Nat.le_refl _ | (simp <;> omega)) _))) (Ox0_2.rds.below (by repeat (first | exact Below.refl _ _ | refine Below.alloc ?_ (by first | exact Nat.le_refl _ | (simp <;> omega)) _ | refine Below.setCell ?_ (by first | exact Nat.le_refl _ | (simp <;> omega)) _))) (Ox0_3.rds.below (by repeat (first | exact Below.refl _ _ | refine Below.alloc ?_ (by first | exact Nat.le_refl _ | (simp <;> omega)) _ | refine Below.setCell ?_ (by first | exact Nat.le_refl _ | (simp <;> omega)) _))) (Ox0_4.rds.below (by repeat (first | exact Below.refl _ _ | refine Below.alloc ?_ (by first | exact Nat.le_refl _ | (simp <;> omega)) _ | refine Below.setCell ?_ (by first | exact Nat.le_refl _ | (simp <;> omega)) _))) (Nat.le_refl _) (Nat.le_refl _) (Nat.le_refl _) (Nat.le_refl _) (Nat.le_refl _) (HT.below (bth HB (by repeat (first | exact Below.refl _ _ | refine Below.alloc ?_ (by first | exact Nat.le_refl _ | (simp <;> omega)) _ | refine Below.setCell ?_ (by first | exact Nat.le_refl _ | (simp <;> omega)) _))))).mono ?_
  rintro e w5 ⟨rfl, hb5⟩
  clear X1_l0 X1_0 X1_1 X1_2 X1_3 X1_4 X1_5 X1_6 X1_7 X1_8 X1_9 X1_10
  have hq5 : Below w4.heap.size w4 w5 := bth (by repeat (first | exact Below.refl _ _ | refine Below.alloc ?_ (by first | exact Nat.le_refl _ | (simp <;> omega)) _ | refine Below.setCell ?_ (by first | exact Nat.le_refl _ | (simp <;> omega)) _)) hb5
  have z5 := hq5.size
  replace HB := bth HB hq5
  replace Ox0_0 := Ox0_0.later hq5
  replace Ox0_1 := Ox0_1.later hq5
  replace Ox0_2 := Ox0_2.later hq5
  replace Ox0_3 := Ox0_3.later hq5
  replace Ox0_4 := Ox0_4.later hq5
  replace X1 := X1.below hq5 X1.lt
  have X2 : Blk w5 (w4.heap.size) 47 #[.slice Ax0_0 x.rules.length x.rules.length, .slice Ax0_1 x.pend.length x.pend.length, .int .i64 x.turns, .int .i64 x.secs, .int .i64 x.spk, .slice Ax0_2 x.wait.length x.wait.length, .slice Ax0_3 x.shares.length x.shares.length, .slice Ax0_4 x.outs.length x.outs.length, .string x.dur, .string x.pen, .int .i64 x.cnt] := Blk.below (by repeat (first | exact Blk.new _ _ _ | exact Blk.new2 _ _ _ _ | exact Blk.new3 _ _ _ _ _ | refine Blk.alloc ?_ _)) hb5 (by simp <;> omega)
  have yX2 := X2.lt
  have X1_a : ∀ W, Below w5.heap.size w5 W → Blk W (w.heap.size) 34 #[.slice Ax_0 x.rules.length cx_0, .slice Ax_1 x.pend.length cx_1, .int .i64 x.turns, .int .i64 x.secs, .int .i64 x.spk, .slice Ax_2 x.wait.length cx_2, .slice Ax_3 x.shares.length cx_3, .slice Ax_4 x.outs.length cx_4, .string x.dur, .string x.pen, .int .i64 x.cnt] := fun W h => X1.below h X1.lt
  have X2_a : ∀ W, Below w5.heap.size w5 W → Blk W (w4.heap.size) 47 #[.slice Ax0_0 x.rules.length x.rules.length, .slice Ax0_1 x.pend.length x.pend.length, .int .i64 x.turns, .int .i64 x.secs, .int .i64 x.spk, .slice Ax0_2 x.wait.length x.wait.length, .slice Ax0_3 x.shares.length x.shares.length, .slice Ax0_4 x.outs.length x.outs.length, .string x.dur, .string x.pen, .int .i64 x.cnt] := fun W h => X2.below h X2.lt
  have X1_0 := fun W hW => ((X1_a W hW).cell 0).trans (show _ = some (.slice Ax_0 x.rules.length cx_0) from rfl)
  have X1_1 := fun W hW => ((X1_a W hW).cell 1).trans (show _ = some (.slice Ax_1 x.pend.length cx_1) from rfl)
  have X1_2 := fun W hW => ((X1_a W hW).cell 2).trans (show _ = some (.int .i64 x.turns) from rfl)
  have X1_3 := fun W hW => ((X1_a W hW).cell 3).trans (show _ = some (.int .i64 x.secs) from rfl)
  have X1_4 := fun W hW => ((X1_a W hW).cell 4).trans (show _ = some (.int .i64 x.spk) from rfl)
  have X1_5 := fun W hW => ((X1_a W hW).cell 5).trans (show _ = some (.slice Ax_2 x.wait.length cx_2) from rfl)
  have X1_6 := fun W hW => ((X1_a W hW).cell 6).trans (show _ = some (.slice Ax_3 x.shares.length cx_3) from rfl)
  have X1_7 := fun W hW => ((X1_a W hW).cell 7).trans (show _ = some (.slice Ax_4 x.outs.length cx_4) from rfl)
  have X1_8 := fun W hW => ((X1_a W hW).cell 8).trans (show _ = some (.string x.dur) from rfl)
  have X1_9 := fun W hW => ((X1_a W hW).cell 9).trans (show _ = some (.string x.pen) from rfl)
  have X1_10 := fun W hW => ((X1_a W hW).cell 10).trans (show _ = some (.int .i64 x.cnt) from rfl)
  have X2_0 := fun W hW => ((X2_a W hW).cell 0).trans (show _ = some (.slice Ax0_0 x.rules.length x.rules.length) from rfl)
  have X2_1 := fun W hW => ((X2_a W hW).cell 1).trans (show _ = some (.slice Ax0_1 x.pend.length x.pend.length) from rfl)
  have X2_2 := fun W hW => ((X2_a W hW).cell 2).trans (show _ = some (.int .i64 x.turns) from rfl)
  have X2_3 := fun W hW => ((X2_a W hW).cell 3).trans (show _ = some (.int .i64 x.secs) from rfl)
  have X2_4 := fun W hW => ((X2_a W hW).cell 4).trans (show _ = some (.int .i64 x.spk) from rfl)
  have X2_5 := fun W hW => ((X2_a W hW).cell 5).trans (show _ = some (.slice Ax0_2 x.wait.length x.wait.length) from rfl)
  have X2_6 := fun W hW => ((X2_a W hW).cell 6).trans (show _ = some (.slice Ax0_3 x.shares.length x.shares.length) from rfl)
  have X2_7 := fun W hW => ((X2_a W hW).cell 7).trans (show _ = some (.slice Ax0_4 x.outs.length x.outs.length) from rfl)
  have X2_8 := fun W hW => ((X2_a W hW).cell 8).trans (show _ = some (.string x.dur) from rfl)
  have X2_9 := fun W hW => ((X2_a W hW).cell 9).trans (show _ = some (.string x.pen) from rfl)
  have X2_10 := fun W hW => ((X2_a W hW).cell 10).trans (show _ = some (.int .i64 x.cnt) from rfl)
  clear X1_a X2_a
  go_wp2
  go_region_held3 (fun W => Below w5.heap.size w5 W) (first | exact (Below.refl _ _).drew | assumption) ((first
    | (go_at_call 7; refine (toConsole_is x Ax_0 Ax_1 Ax_2 Ax_3 Ax_4 cx_0 cx_1 cx_2 cx_3 cx_4 hx_0' hx_1' hx_2' hx_3' hx_4' hx_t0 _ (Rx_0.below (bth HB (Below.refl _ _).drew)) (Rx_1.below (bth HB (Below.refl _ _).drew)) (Rx_2.below (bth HB (Below.refl _ _).drew)) (Rx_3.below (bth HB (Below.refl _ _).drew)) (Rx_4.below (bth HB (Below.refl _ _).drew))).mono ?_; rintro e w6 ⟨Ay0_0, Ay0_1, Ay0_2, Ay0_3, Ay0_4, rfl, Oy0_0, Oy0_1, Oy0_2, Oy0_3, Oy0_4, _, hb6⟩; have hk6 : Below w5.heap.size w5 w6 := bth (Below.refl _ _).drew hb6)
    | (go_at_call 9; refine (eqConsole_is x Ax0_0 Ax0_1 Ax0_2 Ax0_3 Ax0_4 Ay0_0 Ay0_1 Ay0_2 Ay0_3 Ay0_4 x.rules.length x.pend.length x.wait.length x.shares.length x.outs.length x.rules.length x.pend.length x.wait.length x.shares.length x.outs.length hx_0' hx_1' hx_2' hx_3' hx_4' _ (Ox0_0.rds.below hk6) (Ox0_1.rds.below hk6) (Ox0_2.rds.below hk6) (Ox0_3.rds.below hk6) (Ox0_4.rds.below hk6) Oy0_0.rds Oy0_1.rds Oy0_2.rds Oy0_3.rds Oy0_4.rds).mono ?_; rintro e w7 ⟨rfl, hb7⟩; have hk7 : Below w5.heap.size w5 w7 := bth hk6 hb7)))
  clear X1_0 X1_1 X1_2 X1_3 X1_4 X1_5 X1_6 X1_7 X1_8 X1_9 X1_10 X2_0 X2_1 X2_2 X2_3 X2_4 X2_5 X2_6 X2_7 X2_8 X2_9 X2_10
  have z7 := hk7.size
  replace HB := bth HB hk7
  replace Ox0_0 := Ox0_0.later hk7
  replace Ox0_1 := Ox0_1.later hk7
  replace Ox0_2 := Ox0_2.later hk7
  replace Ox0_3 := Ox0_3.later hk7
  replace Ox0_4 := Ox0_4.later hk7
  replace X1 := X1.below hk7 X1.lt
  replace X2 := X2.below hk7 X2.lt
  have X1_0 := (X1.cell 0).trans (show _ = some (.slice Ax_0 x.rules.length cx_0) from rfl)
  have X1_1 := (X1.cell 1).trans (show _ = some (.slice Ax_1 x.pend.length cx_1) from rfl)
  have X1_2 := (X1.cell 2).trans (show _ = some (.int .i64 x.turns) from rfl)
  have X1_3 := (X1.cell 3).trans (show _ = some (.int .i64 x.secs) from rfl)
  have X1_4 := (X1.cell 4).trans (show _ = some (.int .i64 x.spk) from rfl)
  have X1_5 := (X1.cell 5).trans (show _ = some (.slice Ax_2 x.wait.length cx_2) from rfl)
  have X1_6 := (X1.cell 6).trans (show _ = some (.slice Ax_3 x.shares.length cx_3) from rfl)
  have X1_7 := (X1.cell 7).trans (show _ = some (.slice Ax_4 x.outs.length cx_4) from rfl)
  have X1_8 := (X1.cell 8).trans (show _ = some (.string x.dur) from rfl)
  have X1_9 := (X1.cell 9).trans (show _ = some (.string x.pen) from rfl)
  have X1_10 := (X1.cell 10).trans (show _ = some (.int .i64 x.cnt) from rfl)
  have X2_0 := (X2.cell 0).trans (show _ = some (.slice Ax0_0 x.rules.length x.rules.length) from rfl)
  have X2_1 := (X2.cell 1).trans (show _ = some (.slice Ax0_1 x.pend.length x.pend.length) from rfl)
  have X2_2 := (X2.cell 2).trans (show _ = some (.int .i64 x.turns) from rfl)
  have X2_3 := (X2.cell 3).trans (show _ = some (.int .i64 x.secs) from rfl)
  have X2_4 := (X2.cell 4).trans (show _ = some (.int .i64 x.spk) from rfl)
  have X2_5 := (X2.cell 5).trans (show _ = some (.slice Ax0_2 x.wait.length x.wait.length) from rfl)
  have X2_6 := (X2.cell 6).trans (show _ = some (.slice Ax0_3 x.shares.length x.shares.length) from rfl)
  have X2_7 := (X2.cell 7).trans (show _ = some (.slice Ax0_4 x.outs.length x.outs.length) from rfl)
  have X2_8 := (X2.cell 8).trans (show _ = some (.string x.dur) from rfl)
  have X2_9 := (X2.cell 9).trans (show _ = some (.string x.pen) from rfl)
  have X2_10 := (X2.cell 10).trans (show _ = some (.int .i64 x.cnt) from rfl)
  go_wp2
  go_ret
  exact ⟨rfl, bth HB (by repeat (first | exact Below.refl _ _ | refine Below.alloc ?_ (by first | exact Nat.le_refl _ | (simp <;> omega)) _ | refine Below.setCell ?_ (by first | exact Nat.le_refl _ | (simp <;> omega)) _))⟩
end Go.Proofs.YtpkagohflkcnkaaGreatDoor
/- What the inputs of the laws read as: the reader of each struct, over this program. -/
namespace Go.Proofs.YtpkagohflkcnkaaGreatDoor
open Go.ChangeShapes Go.WideShapes Go.ChangeAt Go.RowKit Go.Deep Go.G9
theorem prog_own : ownKnob Tryz.prog.godebug = none := by kernel_rfl
theorem prog_laid : laidOutB Tryz.prog = true := by kernel_rfl
theorem cells_int : Tryz.prog.cellsOf 3 = 1 := by kernel_rfl
theorem cells_string : Tryz.prog.cellsOf 9 = 1 := by kernel_rfl
theorem cells_bool : Tryz.prog.cellsOf 4 = 1 := by kernel_rfl
section
variable {H : Type} {enc : TypeId × Value → H} {w : World} {base : Nat} {sp : Nat → Bool} {hd : Bool} {fuel : Nat} {cs : List Value} {x : DataW H × List MemPlace}
theorem rd_Int (h : DataW.trod enc Tryz.prog w base sp hd fuel 3 cs = some x) : ∃ y : Int, cs = intC y := by
  obtain ⟨n, rfl, _, _⟩ := DataW.trod_int Tryz.underlying3 h
  exact ⟨n, rfl⟩
theorem cells_LogT : Tryz.prog.cellsOf 32 = 3 := by kernel_rfl
set_option maxRecDepth 100000 in
theorem rd_Log (h : DataW.trod enc Tryz.prog w base sp hd fuel 32 cs = some x) : ∃ (d p : ByteArray) (n : Int), cs = [.string d, .string p, .int .i64 n] ∧ d.size ≤ maxLen ∧ p.size ≤ maxLen := by
  obtain ⟨xs, n, rfl, _, hl, hlen, hg⟩ := DataW.trod_struct Tryz.underlying32 h
  match cs, hl.trans cells_LogT with
  | [c0, c1, c2], _ =>
    obtain ⟨n0, e0, k0⟩ := rd_string_at hlen hg 0 _ rfl Tryz.underlying9 cells_string
    obtain ⟨n1, e1, k1⟩ := rd_string_at hlen hg 1 _ rfl Tryz.underlying9 cells_string
    obtain ⟨n2, e2⟩ := rd_int_at hlen hg 2 _ rfl Tryz.underlying3 cells_int
    simp at e0 e1 e2
    subst e0 e1 e2
    exact ⟨n0, n1, n2, rfl, k0, k1⟩
end
end Go.Proofs.YtpkagohflkcnkaaGreatDoor
/- What a meeting reads as. -/
namespace Go.Proofs.YtpkagohflkcnkaaGreatDoor
open Go.ChangeShapes Go.WideShapes Go.ChangeAt Go.RowKit Go.Deep Go.G9
section
variable {H : Type} {enc : TypeId × Value → H} {w : World} {base : Nat} {sp : Nat → Bool} {hd : Bool} {fuel : Nat} {cs : List Value} {x : DataW H × List MemPlace}
theorem cells_Rul : Tryz.prog.cellsOf 93 = 7 := by kernel_rfl
set_option maxRecDepth 100000 in
theorem rd_Rul (h : DataW.trod enc Tryz.prog w base sp hd fuel 93 cs = some x) : ∃ y : Rul, cs = y.cells := by
  obtain ⟨xs, n, rfl, _, hl, hlen, hg⟩ := DataW.trod_struct Tryz.underlying93 h
  match cs, hl.trans cells_Rul with
  | [c0, c1, c2, c3, c4, c5, c6], _ =>
    obtain ⟨n0, e0⟩ := rd_int_at hlen hg 0 _ rfl Tryz.underlying3 cells_int
    obtain ⟨n1, e1, k1⟩ := rd_string_at hlen hg 1 _ rfl Tryz.underlying9 cells_string
    obtain ⟨n2, e2⟩ := rd_int_at hlen hg 2 _ rfl Tryz.underlying3 cells_int
    obtain ⟨n3, e3⟩ := rd_bool_at hlen hg 3 _ rfl Tryz.underlying4 cells_bool
    obtain ⟨n4, e4⟩ := rd_bool_at hlen hg 4 _ rfl Tryz.underlying4 cells_bool
    obtain ⟨n5, e5⟩ := rd_bool_at hlen hg 5 _ rfl Tryz.underlying4 cells_bool
    obtain ⟨n6, e6⟩ := rd_int_at hlen hg 6 _ rfl Tryz.underlying3 cells_int
    exact ⟨⟨n0, n1, n2, n3, n4, n5, n6, k1⟩, by simp_all [Rul.cells]⟩
theorem cells_Que : Tryz.prog.cellsOf 100 = 3 := by kernel_rfl
set_option maxRecDepth 100000 in
theorem rd_Que (h : DataW.trod enc Tryz.prog w base sp hd fuel 100 cs = some x) : ∃ y : Que, cs = y.cells := by
  obtain ⟨xs, n, rfl, _, hl, hlen, hg⟩ := DataW.trod_struct Tryz.underlying100 h
  match cs, hl.trans cells_Que with
  | [c0, c1, c2], _ =>
    obtain ⟨n0, e0⟩ := rd_int_at hlen hg 0 _ rfl Tryz.underlying3 cells_int
    obtain ⟨n1, e1⟩ := rd_int_at hlen hg 1 _ rfl Tryz.underlying3 cells_int
    obtain ⟨n2, e2⟩ := rd_bool_at hlen hg 2 _ rfl Tryz.underlying4 cells_bool
    exact ⟨⟨n0, n1, n2⟩, by simp_all [Que.cells]⟩
theorem cells_Sha : Tryz.prog.cellsOf 134 = 3 := by kernel_rfl
set_option maxRecDepth 100000 in
theorem rd_Sha (h : DataW.trod enc Tryz.prog w base sp hd fuel 134 cs = some x) : ∃ y : Sha, cs = y.cells := by
  obtain ⟨xs, n, rfl, _, hl, hlen, hg⟩ := DataW.trod_struct Tryz.underlying134 h
  match cs, hl.trans cells_Sha with
  | [c0, c1, c2], _ =>
    obtain ⟨n0, e0⟩ := rd_int_at hlen hg 0 _ rfl Tryz.underlying3 cells_int
    obtain ⟨n1, e1⟩ := rd_int_at hlen hg 1 _ rfl Tryz.underlying3 cells_int
    obtain ⟨n2, e2⟩ := rd_int_at hlen hg 2 _ rfl Tryz.underlying3 cells_int
    exact ⟨⟨n0, n1, n2⟩, by simp_all [Sha.cells]⟩
theorem cells_Out : Tryz.prog.cellsOf 104 = 3 := by kernel_rfl
set_option maxRecDepth 100000 in
theorem rd_Out (h : DataW.trod enc Tryz.prog w base sp hd fuel 104 cs = some x) : ∃ y : Out, cs = y.cells := by
  obtain ⟨xs, n, rfl, _, hl, hlen, hg⟩ := DataW.trod_struct Tryz.underlying104 h
  match cs, hl.trans cells_Out with
  | [c0, c1, c2], _ =>
    obtain ⟨n0, e0⟩ := rd_int_at hlen hg 0 _ rfl Tryz.underlying3 cells_int
    obtain ⟨n1, e1⟩ := rd_int_at hlen hg 1 _ rfl Tryz.underlying3 cells_int
    obtain ⟨n2, e2⟩ := rd_bool_at hlen hg 2 _ rfl Tryz.underlying4 cells_bool
    exact ⟨⟨n0, n1, n2⟩, by simp_all [Out.cells]⟩
theorem cells_rules : Tryz.prog.cellsOf 22 = 1 := by kernel_rfl
theorem cells_ques : Tryz.prog.cellsOf 23 = 1 := by kernel_rfl
theorem cells_wint : Tryz.prog.cellsOf 24 = 1 := by kernel_rfl
theorem cells_shas : Tryz.prog.cellsOf 25 = 1 := by kernel_rfl
theorem cells_outs : Tryz.prog.cellsOf 28 = 1 := by kernel_rfl
theorem cells_Flo : Tryz.prog.cellsOf 27 = 5 := by kernel_rfl
theorem cells_Mee : Tryz.prog.cellsOf 30 = 8 := by kernel_rfl
set_option maxRecDepth 100000 in
set_option maxHeartbeats 1000000 in
theorem rd_Mee (h : DataW.trod enc Tryz.prog w base sp hd fuel 30 cs = some x) : ∃ (m : Mee) (A0 A1 A2 A3 A4 : Option Addr) (c0 c1 c2 c3 c4 : Nat), cs = [.slice A0 m.rules.length c0, .slice A1 m.pend.length c1, .int .i64 m.turns, .int .i64 m.secs, .int .i64 m.spk, .slice A2 m.wait.length c2, .slice A3 m.shares.length c3, .slice A4 m.outs.length c4] ∧
    m.rules.length ≤ maxLen ∧ m.pend.length ≤ maxLen ∧ m.wait.length ≤ maxLen ∧ m.shares.length ≤ maxLen ∧ m.outs.length ≤ maxLen ∧
    Rds 7 Rul.cells w A0 m.rules ∧ Rds 3 Que.cells w A1 m.pend ∧ Rds 1 intC w A2 m.wait ∧ Rds 3 Sha.cells w A3 m.shares ∧ Rds 3 Out.cells w A4 m.outs := by
  obtain ⟨xs, n, rfl, _, hl, hlen, hg⟩ := DataW.trod_struct Tryz.underlying30 h
  match cs, hl.trans cells_Mee with
  | [d0, d1, d2, d3, d4, d5, d6, d7], _ =>
    obtain ⟨_, h0⟩ := rd_sub_at hlen hg 0 _ rfl cells_rules
    obtain ⟨_, h1⟩ := rd_sub_at hlen hg 1 _ rfl cells_ques
    obtain ⟨_, h2⟩ := rd_sub_at hlen hg 2 _ rfl cells_Flo
    obtain ⟨_, h3⟩ := rd_sub_at hlen hg 3 _ rfl cells_outs
    obtain ⟨xs', n', rfl, _, hl', hlen', hg'⟩ := DataW.trod_struct Tryz.underlying27 h2
    obtain ⟨n0, e2⟩ := rd_int_at hlen' hg' 0 _ rfl Tryz.underlying3 cells_int
    obtain ⟨n1, e3⟩ := rd_int_at hlen' hg' 1 _ rfl Tryz.underlying3 cells_int
    obtain ⟨n2, e4⟩ := rd_int_at hlen' hg' 2 _ rfl Tryz.underlying3 cells_int
    obtain ⟨_, h5⟩ := rd_sub_at hlen' hg' 3 _ rfl cells_wint
    obtain ⟨_, h6⟩ := rd_sub_at hlen' hg' 4 _ rfl cells_shas
    obtain ⟨A0, c0, rs, e0, l0, R0, _⟩ := rd_slicen Rul.cells 7 (by decide) Tryz.underlying22 cells_Rul (fun _ _ _ h => rd_Rul h) h0
    obtain ⟨A1, c1, qs, e1, l1, R1, _⟩ := rd_slicen Que.cells 3 (by decide) Tryz.underlying23 cells_Que (fun _ _ _ h => rd_Que h) h1
    obtain ⟨A2, c2, ws, e5, l2, R2, _⟩ := rd_slicen intC 1 (by decide) Tryz.underlying24 cells_int (fun _ _ _ h => rd_Int h) h5
    obtain ⟨A3, c3, ss, e6, l3, R3, _⟩ := rd_slicen Sha.cells 3 (by decide) Tryz.underlying25 cells_Sha (fun _ _ _ h => rd_Sha h) h6
    obtain ⟨A4, c4, os, e7, l4, R4, _⟩ := rd_slicen Out.cells 3 (by decide) Tryz.underlying28 cells_Out (fun _ _ _ h => rd_Out h) h3
    simp at e0 e1 e2 e3 e4 e5 e6 e7
    subst e0 e1 e2 e3 e4 e5 e6 e7
    exact ⟨⟨rs, qs, n0, n1, n2, ws, ss, os⟩, A0, A1, A2, A3, A4, c0, c1, c2, c3, c4, rfl, l0, l1, l2, l3, l4, R0, R1, R2, R3, R4⟩
end
end Go.Proofs.YtpkagohflkcnkaaGreatDoor
/- What a console reads as. -/
namespace Go.Proofs.YtpkagohflkcnkaaGreatDoor
open Go.ChangeShapes Go.WideShapes Go.ChangeAt Go.RowKit Go.Deep Go.G9
section
variable {H : Type} {enc : TypeId × Value → H} {w : World} {base : Nat} {sp : Nat → Bool} {hd : Bool} {fuel : Nat} {cs : List Value} {x : DataW H × List MemPlace}
theorem cells_LogC : Tryz.prog.cellsOf 32 = 3 := by kernel_rfl
theorem cells_Con : Tryz.prog.cellsOf 34 = 11 := by kernel_rfl
set_option maxRecDepth 100000 in
set_option maxHeartbeats 1000000 in
theorem rd_Con (h : DataW.trod enc Tryz.prog w base sp hd fuel 34 cs = some x) : ∃ (m : Con) (A0 A1 A2 A3 A4 : Option Addr) (c0 c1 c2 c3 c4 : Nat), cs = [.slice A0 m.rules.length c0, .slice A1 m.pend.length c1, .int .i64 m.turns, .int .i64 m.secs, .int .i64 m.spk, .slice A2 m.wait.length c2, .slice A3 m.shares.length c3, .slice A4 m.outs.length c4, .string m.dur, .string m.pen, .int .i64 m.cnt] ∧
    m.dur.size ≤ maxLen ∧ m.pen.size ≤ maxLen ∧ m.rules.length ≤ maxLen ∧ m.pend.length ≤ maxLen ∧ m.wait.length ≤ maxLen ∧ m.shares.length ≤ maxLen ∧ m.outs.length ≤ maxLen ∧
    Rds 7 Rul.cells w A0 m.rules ∧ Rds 3 Que.cells w A1 m.pend ∧ Rds 1 intC w A2 m.wait ∧ Rds 3 Sha.cells w A3 m.shares ∧ Rds 3 Out.cells w A4 m.outs := by
  obtain ⟨xs, n, rfl, _, hl, hlen, hg⟩ := DataW.trod_struct Tryz.underlying34 h
  match cs, hl.trans cells_Con with
  | [d0, d1, d2, d3, d4, d5, d6, d7, d8, d9, d10], _ =>
    obtain ⟨_, h0⟩ := rd_sub_at hlen hg 0 _ rfl cells_Mee
    obtain ⟨_, h1⟩ := rd_sub_at hlen hg 1 _ rfl cells_LogC
    obtain ⟨m, A0, A1, A2, A3, A4, c0, c1, c2, c3, c4, e0, l0, l1, l2, l3, l4, R0, R1, R2, R3, R4⟩ := rd_Mee h0
    obtain ⟨d, p, k, e1, s0, s1⟩ := rd_Log h1
    simp at e0 e1
    obtain ⟨rfl, rfl, rfl, rfl, rfl, rfl, rfl, rfl⟩ := e0
    obtain ⟨rfl, rfl, rfl⟩ := e1
    exact ⟨m.con d p k, A0, A1, A2, A3, A4, c0, c1, c2, c3, c4, rfl, s0, s1, l0, l1, l2, l3, l4, R0, R1, R2, R3, R4⟩
end
end Go.Proofs.YtpkagohflkcnkaaGreatDoor
/- From a law's walk to the row that lists the library's tables, and to its card. -/
namespace Go.G9
open Go.ChangeShapes Go.WideShapes Go.ChangeAt Go.RowKit Go.Deep
theorem trodVars_len {H : Type} {enc : TypeId × Value → H} {P : Program} {w : World} {sp : Nat → Bool} : ∀ {ns : List String} {gs : List (DataW H)} {ps : List MemPlace}, DataW.TrodVars enc P w sp ns gs ps → gs.length = ns.length
  | [], [], _, _ => rfl
  | _ :: _, _ :: _, _, h => by obtain ⟨_, _, _, _, _, _, _, _, _, _, h2, _⟩ := h; simp [trodVars_len h2]
  | [], _ :: _, _, h => h.elim
  | _ :: _, [], _, h => h.elim
theorem law_postv {H : Type} {enc : TypeId × Value → H} {P : Program} {fn : Func} {s : ChangeSpec} {W W' : World} {args : Array Value} {ds gs : List (DataW H)} {before : List MemPlace} {rt : TypeId}
    (hlaid : laidOutB P = true) (hread : ∀ t ∈ fn.params.toList, P.readableRec t = true ∧ t < P.types.size) (hrt : fn.resultTypes = #[rt]) (hbool : P.underlying rt = some .bool) (hvars : varsRowed P s.vars = true)
    (hspec : ∀ l g : List (DataW H), l.length = fn.params.toList.length → g.length = s.vars.length → s.fn H (l ++ g) = { results := [.lit (.bool true)], args := l, vars := g })
    (hW : DataW.Whole enc P fn.params.toList s.vars false W args.toList ds gs before) (hb : Below W.heap.size W W') : s.post enc P fn false true false false W args (.bool true) W' := by
  have hlt := hW.lt
  have hW' := hW
  obtain ⟨p, q, hA, hV, rfl, hfz, hnd⟩ := hW
  have hsp := hspec ds gs (trodAll_len hA) (trodVars_len hV)
  refine ⟨ds, gs, p ++ q, [], p, q, hW', ?_, ?_, ?_, hb.frame _, fun h => by cases h⟩
  · rw [hsp, hrt]; exact trodAll_mk1 (shut_bool hbool true)
  · rw [hsp]; exact trodAll_below hlaid hb hread (fun x hx => hlt x (List.mem_append_left _ hx)) hA
  · rw [hsp]; exact Below.trodVars hlaid hb hvars hV
theorem door_lift {H : Type} {enc : TypeId × Value → H} {C : Checked} {os : Os} {f : FuncId} {fn : Func} {s : ChangeSpec} {F : Stop.Interp} {rt : TypeId} {laid : List (String × DataW Unit)} (own : ownKnob C.prog.godebug = none) (started : os.Started) (noInit : C.prog.inits.idxOf? f = none) (hfn : C.prog.funcs[f]? = some fn)
    (witness : ∃ (w : World) (tape : Tape) (i : Input), w.os = os ∧ (w.forCall tape i).Shaped C.prog ∧ i.vars = [] ∧ Input.okWide C.prog (w.forCall tape i) .any w.heap.size f i ∧
      (OpenSpec.ofChange s).preRow enc C.prog fn [] false laid (w.forCall tape i).memory i.args ∧ ({} : Assume).holds C.prog (lone (Frame.enter C.prog f i.args .normal) [] (w.forCall tape i)))
    (hlaid : laidOutB C.prog = true) (hread : ∀ t ∈ fn.params.toList, C.prog.readableRec t = true ∧ t < C.prog.types.size) (hrt : fn.resultTypes = #[rt]) (hbool : C.prog.underlying rt = some .bool) (hvars : varsRowed C.prog s.vars = true)
    (hspec : ∀ l g : List (DataW H), l.length = fn.params.toList.length → g.length = s.vars.length → s.fn H (l ++ g) = { results := [.lit (.bool true)], args := l, vars := g })
    (walk : ∀ (W : World) (base : Nat) (args : Array Value) (ds : List (DataW H)) (p : List MemPlace), laidMetH C.prog laid W → W.ShapedOpen C.prog → (∀ (j : Nat) t v, fn.params[j]? = some t → args[j]? = some v → Value.okWide C.prog W .any base t v) →
      DataW.TrodAll enc C.prog W 0 (fun _ => true) true fn.params.toList args.toList ds p → Calls C.prog f args W fun e W' => e = .returned (.bool true) ∧ Below W.heap.size W W') :
    ReturnsInHanded {} C os f .any ((OpenSpec.ofChange s).preRow enc C.prog fn [] false laid) (((OpenSpec.ofChange s).at F).post enc C.prog fn false true false false) := by
  refine returnsInHanded_of_row (C := C) (s := OpenSpec.ofChange s) own started noInit hfn witness ?_
  intro W base args ds gs before hval hW _ _ _ hL hsh _
  have hW' := hW
  obtain ⟨p, q, hA, _, _, _, _⟩ := hW
  exact (walk W base args ds p hL hsh hval hA).mono fun e W' ⟨he, hb⟩ => ⟨_, he, law_postv (s := s) hlaid hread hrt hbool hvars hspec hW' hb⟩
theorem reads_of {α β γ : Type} {x : Option (α × β × γ)} {a : α} {b : β} (h : x.map (fun y => (y.1, y.2.1)) = some (a, b)) : ∃ c, x = some (a, b, c) := by
  cases x with
  | none => cases h
  | some y => obtain ⟨y1, y2, y3⟩ := y; simp at h; obtain ⟨rfl, rfl⟩ := h; exact ⟨y3, rfl⟩
end Go.G9
namespace Go.Proofs.YtpkagohflkcnkaaGreatDoor
open Go.ChangeShapes Go.WideShapes Go.ChangeAt Go.RowKit Go.Deep Go.G9
noncomputable def laidWorld (os : Os) : World := { World.holding Tryz.prog os ⟨#[], #[], []⟩ with heap := (((((World.holding Tryz.prog os ⟨#[], #[], []⟩).heap.modify 3 fun | .cells _ t frozen => .cells #[.int .u8 0, .int .u8 1, .int .u8 28, .int .u8 2, .int .u8 29, .int .u8 14, .int .u8 24, .int .u8 3, .int .u8 30, .int .u8 22, .int .u8 20, .int .u8 15, .int .u8 25, .int .u8 17, .int .u8 4, .int .u8 8, .int .u8 31, .int .u8 27, .int .u8 13, .int .u8 23, .int .u8 21, .int .u8 19, .int .u8 16, .int .u8 7, .int .u8 26, .int .u8 12, .int .u8 18, .int .u8 6, .int .u8 11, .int .u8 5, .int .u8 10, .int .u8 9] t frozen | o => o).modify 4 fun | .cells _ t frozen => .cells #[.int .u8 0, .int .u8 1, .int .u8 56, .int .u8 2, .int .u8 57, .int .u8 49, .int .u8 28, .int .u8 3, .int .u8 61, .int .u8 58, .int .u8 42, .int .u8 50, .int .u8 38, .int .u8 29, .int .u8 17, .int .u8 4, .int .u8 62, .int .u8 47, .int .u8 59, .int .u8 36, .int .u8 45, .int .u8 43, .int .u8 51, .int .u8 22, .int .u8 53, .int .u8 39, .int .u8 33, .int .u8 30, .int .u8 24, .int .u8 18, .int .u8 12, .int .u8 5, .int .u8 63, .int .u8 55, .int .u8 48, .int .u8 27, .int .u8 60, .int .u8 41, .int .u8 37, .int .u8 16, .int .u8 46, .int .u8 35, .int .u8 44, .int .u8 21, .int .u8 52, .int .u8 32, .int .u8 23, .int .u8 11, .int .u8 54, .int .u8 26, .int .u8 40, .int .u8 15, .int .u8 34, .int .u8 20, .int .u8 31, .int .u8 10, .int .u8 25, .int .u8 14, .int .u8 19, .int .u8 9, .int .u8 13, .int .u8 8, .int .u8 7, .int .u8 6] t frozen | o => o).modify 1 fun | .cells _ t frozen => .cells #[.int .u64 1, .int .u64 10, .int .u64 100, .int .u64 1000, .int .u64 10000, .int .u64 100000, .int .u64 1000000, .int .u64 10000000, .int .u64 100000000, .int .u64 1000000000, .int .u64 10000000000, .int .u64 100000000000, .int .u64 1000000000000, .int .u64 10000000000000, .int .u64 100000000000000, .int .u64 1000000000000000, .int .u64 10000000000000000, .int .u64 100000000000000000, .int .u64 1000000000000000000, .int .u64 10000000000000000000] t frozen | o => o).modify 0 fun | .cells _ t frozen => .cells #[.string ⟨#[]⟩, .string ⟨#[109, 97, 106, 111, 114, 105, 116, 121]⟩, .string ⟨#[116, 119, 111, 45, 116, 104, 105, 114, 100, 115]⟩, .string ⟨#[97, 108, 108]⟩] t frozen | o => o) }
theorem laidPow_eq : (Rows.laid_internal_strconv_uint64pow10 : DataW Unit) = Lib.tabData .u64 Lib.pow10Tab := rfl
theorem tab_of_laid {laid : List (String × DataW Unit)} {W : World} (hf : laid.filter (fun x => x.1 == "internal/strconv.uint64pow10") = [("internal/strconv.uint64pow10", Rows.laid_internal_strconv_uint64pow10)]) (h : laidMetH Tryz.prog laid W) : Tab W := by
  have h1 := h.filter (fun x => x.1 == "internal/strconv.uint64pow10")
  rw [hf, laidPow_eq] at h1
  have h2 := Lib.tabIs_of_head (P := Tryz.prog) (rest := []) (t := 155) (e := 144) gPow (by kernel_rfl) Tryz.underlying155 Tryz.underlying144 (by kernel_rfl) (by kernel_rfl) h1
  refine ⟨?_, h2⟩
  have h3 := h2.cell gPow 0 (by decide)
  exact World.block_lt_of_cell? W _ h3
end Go.Proofs.YtpkagohflkcnkaaGreatDoor
