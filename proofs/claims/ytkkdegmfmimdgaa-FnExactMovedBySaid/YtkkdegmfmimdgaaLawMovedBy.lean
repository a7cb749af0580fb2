/- The law of MovedBy: the program's answer is the reference's, and the argument is left as it was. -/
import Derived.Test.YtkkdegmfmimdgaaMeN
import Derived.Test.YtkkdegmfmimdgaaRdM
import Derived.Deep.RegionHeld3
namespace Go.Proofs.Ytkkdegmfmimdgaa
open Go.RowKit Go.G9
set_option maxHeartbeats 8000000 in
set_option maxRecDepth 100000 in
theorem law_movedBy (m : Mee) (Am_0 Am_1 Am_2 Am_3 Am_4 : Option Addr) (cm_0 cm_1 cm_2 cm_3 cm_4 : Nat) (hm_0 : m.rules.length ≤ maxLen) (hm_1 : m.pend.length ≤ maxLen) (hm_2 : m.wait.length ≤ maxLen) (hm_3 : m.shares.length ≤ maxLen) (hm_4 : m.outs.length ≤ maxLen) (n : Int) (w : World) (Rm_0 : Rds 7 Rul.cells w Am_0 m.rules) (Rm_1 : Rds 3 Que.cells w Am_1 m.pend) (Rm_2 : Rds 1 intC w Am_2 m.wait) (Rm_3 : Rds 3 Sha.cells w Am_3 m.shares) (Rm_4 : Rds 3 Out.cells w Am_4 m.outs) :
  Calls Try.prog 6 #[.agg #[.slice Am_0 m.rules.length cm_0, .slice Am_1 m.pend.length cm_1, .int .i64 m.turns, .int .i64 m.secs, .int .i64 m.spk, .slice Am_2 m.wait.length cm_2, .slice Am_3 m.shares.length cm_3, .slice Am_4 m.outs.length cm_4], .int .i64 n] w fun e w' => e = .returned (.bool true) ∧ Below w.heap.size w w' := by
  obtain ⟨va, vb, vc, hv⟩ := mvOut_form m n
  have HV := Lib.hid hv; clear hv
  go_enter Try.func6, Try.ntmps6
  go_wp2_with fail
  refine (szMeeting_is m Am_0 Am_1 Am_2 Am_3 Am_4 cm_0 cm_1 cm_2 cm_3 cm_4 hm_0 hm_1 hm_2 hm_3 hm_4 1048576 (by omega) (by omega) _ (Rm_0.below (by repeat (first | exact Below.refl _ _ | refine Below.alloc ?_ (by first | exact Nat.le_refl _ | (simp <;> omega)) _ | refine Below.setCell ?_ (by first | exact Nat.le_refl _ | (simp <;> omega)) _)))).mono ?_
  rintro e w1 ⟨r0, rfl, hr0, hs0, hl0, hb1⟩
  have hq1 : Below w.heap.size w w1 := bth (by repeat (first | exact Below.refl _ _ | refine Below.alloc ?_ (by first | exact Nat.le_refl _ | (simp <;> omega)) _ | refine Below.setCell ?_ (by first | exact Nat.le_refl _ | (simp <;> omega)) _)) hb1
  have z1 := hq1.size
  have HB : Below w.heap.size w w1 := hq1
  have X1 : Blk w1 (w.heap.size) 30 #[.slice Am_0 m.rules.length cm_0, .slice Am_1 m.pend.length cm_1, .int .i64 m.turns, .int .i64 m.secs, .int .i64 m.spk, .slice Am_2 m.wait.length cm_2, .slice Am_3 m.shares.length cm_3, .slice Am_4 m.outs.length cm_4] := Blk.below (by repeat (first | exact Blk.new _ _ _ | exact Blk.new2 _ _ _ _ | exact Blk.new3 _ _ _ _ _ | refine Blk.alloc ?_ _)) hb1 (by simp <;> omega)
  have yX1 := X1.lt
  have X1_0 := (X1.cell 0).trans (show _ = some (.slice Am_0 m.rules.length cm_0) from rfl)
  have X1_1 := (X1.cell 1).trans (show _ = some (.slice Am_1 m.pend.length cm_1) from rfl)
  have X1_2 := (X1.cell 2).trans (show _ = some (.int .i64 m.turns) from rfl)
  have X1_3 := (X1.cell 3).trans (show _ = some (.int .i64 m.secs) from rfl)
  have X1_4 := (X1.cell 4).trans (show _ = some (.int .i64 m.spk) from rfl)
  have X1_5 := (X1.cell 5).trans (show _ = some (.slice Am_2 m.wait.length cm_2) from rfl)
  have X1_6 := (X1.cell 6).trans (show _ = some (.slice Am_3 m.shares.length cm_3) from rfl)
  have X1_7 := (X1.cell 7).trans (show _ = some (.slice Am_4 m.outs.length cm_4) from rfl)
  by_cases h00 : r0 < 0
  · go_wp2
    go_ret
    exact ⟨rfl, bth HB (by repeat (first | exact Below.refl _ _ | refine Below.alloc ?_ (by first | exact Nat.le_refl _ | (simp <;> omega)) _ | refine Below.setCell ?_ (by first | exact Nat.le_refl _ | (simp <;> omega)) _))⟩
  clear X1_0 X1_1 X1_2 X1_3 X1_4 X1_5 X1_6 X1_7
  have hm_0' : m.rules.length ≤ 1048576 := by omega
  have hm_1' : m.pend.length ≤ 1048576 := by omega
  have hm_2' : m.wait.length ≤ 1048576 := by omega
  have hm_3' : m.shares.length ≤ 1048576 := by omega
  have hm_4' : m.outs.length ≤ 1048576 := by omega
  clear hl0
  have X1_0 := (X1.cell 0).trans (show _ = some (.slice Am_0 m.rules.length cm_0) from rfl)
  have X1_1 := (X1.cell 1).trans (show _ = some (.slice Am_1 m.pend.length cm_1) from rfl)
  have X1_2 := (X1.cell 2).trans (show _ = some (.int .i64 m.turns) from rfl)
  have X1_3 := (X1.cell 3).trans (show _ = some (.int .i64 m.secs) from rfl)
  have X1_4 := (X1.cell 4).trans (show _ = some (.int .i64 m.spk) from rfl)
  have X1_5 := (X1.cell 5).trans (show _ = some (.slice Am_2 m.wait.length cm_2) from rfl)
  have X1_6 := (X1.cell 6).trans (show _ = some (.slice Am_3 m.shares.length cm_3) from rfl)
  have X1_7 := (X1.cell 7).trans (show _ = some (.slice Am_4 m.outs.length cm_4) from rfl)
  go_wp2_with fail
  refine (toMeeting_is m Am_0 Am_1 Am_2 Am_3 Am_4 cm_0 cm_1 cm_2 cm_3 cm_4 hm_0' hm_1' hm_2' hm_3' hm_4' _ (Rm_0.below (bth HB (by repeat (first | exact Below.refl _ _ | refine Below.alloc ?_ (by first | exact Nat.le_refl _ | (simp <;> omega)) _ | refine Below.setCell ?_ (by first | exact Nat.le_refl _ | (simp <;> omega)) _)))) (Rm_1.below (bth HB (by repeat (first | exact Below.refl _ _ | refine Below.alloc ?_ (by first | exact Nat.le_refl _ | (simp <;> omega)) _ | refine Below.setCell ?_ (by first | exact Nat.le_refl _ | (simp <;> omega)) _)))) (Rm_2.below (bth HB (by repeat (first | exact Below.refl _ _ | refine Below.alloc ?_ (by first | exact Nat.le_refl _ | (simp <;> omega)) _ | refine Below.setCell ?_ (by first | exact Nat.le_refl _ | (simp <;> omega)) _)))) (Rm_3.below (bth HB (by repeat (first | exact Below.refl _ _ | refine Below.alloc ?_ (by first | exact Nat.le_refl _ | (simp <;> omega)) _ | refine Below.setCell ?_ (by first | exact Nat.le_refl _ | (simp <;> omega)) _)))) (Rm_4.below (bth HB (by repeat (first | exact Below.refl _ _ | refine Below.alloc ?_ (by first | exact Nat.le_refl _ | (simp <;> omega)) _ | refine Below.setCell ?_ (by first | exact Nat.le_refl _ | (simp <;> omega)) _))))).mono ?_
  rintro e w2 ⟨As0_0, As0_1, As0_2, As0_3, As0_4, rfl, Os0_0, Os0_1, Os0_2, Os0_3, Os0_4, aps0, hb2⟩
  clear X1_0 X1_1 X1_2 X1_3 X1_4 X1_5 X1_6 X1_7
  have hq2 : Below w1.heap.size w1 w2 := bth (by repeat (first | exact Below.refl _ _ | refine Below.alloc ?_ (by first | exact Nat.le_refl _ | (simp <;> omega)) _ | refine Below.setCell ?_ (by first | exact Nat.le_refl _ | (simp <;> omega)) _)) hb2
  have z2 := hq2.size
  replace HB := bth HB hq2
  replace X1 := X1.below hq2 X1.lt
  have ins0 : Within [.slice As0_0 m.rules.length m.rules.length, .slice As0_1 m.pend.length m.pend.length, .slice As0_2 m.wait.length m.wait.length, .slice As0_3 m.shares.length m.shares.length, .slice As0_4 m.outs.length m.outs.length] (w1.heap.size) (w2.heap.size) := by
    intro v hv k hk
    simp only [List.mem_cons, List.not_mem_nil, or_false] at hv
    rcases hv with rfl | hv
    · have h := Os0_0.lt k hk; (try simp at h); omega
    rcases hv with rfl | hv
    · have h := Os0_1.lt k hk; (try simp at h); omega
    rcases hv with rfl | hv
    · have h := Os0_2.lt k hk; (try simp at h); omega
    rcases hv with rfl | hv
    · have h := Os0_3.lt k hk; (try simp at h); omega
    subst hv
    have h := Os0_4.lt k hk; (try simp at h); omega
  have X1_0 := (X1.cell 0).trans (show _ = some (.slice Am_0 m.rules.length cm_0) from rfl)
  have X1_1 := (X1.cell 1).trans (show _ = some (.slice Am_1 m.pend.length cm_1) from rfl)
  have X1_2 := (X1.cell 2).trans (show _ = some (.int .i64 m.turns) from rfl)
  have X1_3 := (X1.cell 3).trans (show _ = some (.int .i64 m.secs) from rfl)
  have X1_4 := (X1.cell 4).trans (show _ = some (.int .i64 m.spk) from rfl)
  have X1_5 := (X1.cell 5).trans (show _ = some (.slice Am_2 m.wait.length cm_2) from rfl)
  have X1_6 := (X1.cell 6).trans (show _ = some (.slice Am_3 m.shares.length cm_3) from rfl)
  have X1_7 := (X1.cell 7).trans (show _ = some (.slice Am_4 m.outs.length cm_4) from rfl)
  go_wp2_with fail
  refine (sMovedBy_is m As0_0 As0_1 As0_2 As0_3 As0_4 m.rules.length m.pend.length m.wait.length m.shares.length m.outs.length hm_0' hm_1' hm_2' hm_3' hm_4' n _ HV.out _ (Os0_0.rds.below (by repeat (first | exact Below.refl _ _ | refine Below.alloc ?_ (by first | exact Nat.le_refl _ | (simp <;> omega)) _ | refine Below.setCell ?_ (by first | exact Nat.le_refl _ | (simp <;> omega)) _))) (Os0_1.rds.below (by repeat (first | exact Below.refl _ _ | refine Below.alloc ?_ (by first | exact Nat.le_refl _ | (simp <;> omega)) _ | refine Below.setCell ?_ (by first | exact Nat.le_refl _ | (simp <;> omega)) _))) (Os0_2.rds.below (by repeat (first | exact Below.refl _ _ | refine Below.alloc ?_ (by first | exact Nat.le_refl _ | (simp <;> omega)) _ | refine Below.setCell ?_ (by first | exact Nat.le_refl _ | (simp <;> omega)) _))) (Os0_3.rds.below (by repeat (first | exact Below.refl _ _ | refine Below.alloc ?_ (by first | exact Nat.le_refl _ | (simp <;> omega)) _ | refine Below.setCell ?_ (by first | exact Nat.le_refl _ | (simp <;> omega)) _))) (Os0_4.rds.below (by repeat (first | exact Below.refl _ _ | refine Below.alloc ?_ (by first | exact Nat.le_refl _ | (simp <;> omega)) _ | refine Below.setCell ?_ (by first | exact Nat.le_refl _ | (simp <;> omega)) _))) (Nat.le_refl _) (Nat.le_refl _) (Nat.le_refl _) (Nat.le_refl _) (Nat.le_refl _)).mono ?_
  rintro e w3 ⟨rfl, hb3⟩
  clear X1_0 X1_1 X1_2 X1_3 X1_4 X1_5 X1_6 X1_7
  have hq3 : Below w2.heap.size w2 w3 := bth (by repeat (first | exact Below.refl _ _ | refine Below.alloc ?_ (by first | exact Nat.le_refl _ | (simp <;> omega)) _ | refine Below.setCell ?_ (by first | exact Nat.le_refl _ | (simp <;> omega)) _)) hb3
  have z3 := hq3.size
  replace HB := bth HB hq3
  replace Os0_0 := Os0_0.later hq3
  replace Os0_1 := Os0_1.later hq3
  replace Os0_2 := Os0_2.later hq3
  replace Os0_3 := Os0_3.later hq3
  replace Os0_4 := Os0_4.later hq3
  replace X1 := X1.below hq3 X1.lt
  have X1_0 := (X1.cell 0).trans (show _ = some (.slice Am_0 m.rules.length cm_0) from rfl)
  have X1_1 := (X1.cell 1).trans (show _ = some (.slice Am_1 m.pend.length cm_1) from rfl)
  have X1_2 := (X1.cell 2).trans (show _ = some (.int .i64 m.turns) from rfl)
  have X1_3 := (X1.cell 3).trans (show _ = some (.int .i64 m.secs) from rfl)
  have X1_4 := (X1.cell 4).trans (show _ = some (.int .i64 m.spk) from rfl)
  have X1_5 := (X1.cell 5).trans (show _ = some (.slice Am_2 m.wait.length cm_2) from rfl)
  have X1_6 := (X1.cell 6).trans (show _ = some (.slice Am_3 m.shares.length cm_3) from rfl)
  have X1_7 := (X1.cell 7).trans (show _ = some (.slice Am_4 m.outs.length cm_4) from rfl)
  go_wp2_with fail
  refine (toMeeting_is m Am_0 Am_1 Am_2 Am_3 Am_4 cm_0 cm_1 cm_2 cm_3 cm_4 hm_0' hm_1' hm_2' hm_3' hm_4' _ (Rm_0.below (bth HB (by repeat (first | exact Below.refl _ _ | refine Below.alloc ?_ (by first | exact Nat.le_refl _ | (simp <;> omega)) _ | refine Below.setCell ?_ (by first | exact Nat.le_refl _ | (simp <;> omega)) _)))) (Rm_1.below (bth HB (by repeat (first | exact Below.refl _ _ | refine Below.alloc ?_ (by first | exact Nat.le_refl _ | (simp <;> omega)) _ | refine Below.setCell ?_ (by first | exact Nat.le_refl _ | (simp <;> omega)) _)))) (Rm_2.below (bth HB (by repeat (first | exact Below.refl _ _ | refine Below.alloc ?_ (by first | exact Nat.le_refl _ | (simp <;> omega)) _ | refine Below.setCell ?_ (by first | exact Nat.le_refl _ | (simp <;> omega)) _)))) (Rm_3.below (bth HB (by repeat (first | exact Below.refl _ _ | refine Below.alloc ?_ (by first | exact Nat.le_refl _ | (simp <;> omega)) _ | refine Below.setCell ?_ (by first | exact Nat.le_refl _ | (simp <;> omega)) _)))) (Rm_4.below (bth HB (by repeat (first | exact Below.refl _ _ | refine Below.alloc ?_ (by first | exact Nat.le_refl _ | (simp <;> omega)) _ | refine Below.setCell ?_ (by first | exact Nat.le_refl _ | (simp <;> omega)) _))))).mono ?_
  rintro e w4 ⟨Ax0_0, Ax0_1, Ax0_2, Ax0_3, Ax0_4, rfl, Ox0_0, Ox0_1, Ox0_2, Ox0_3, Ox0_4, apx0, hb4⟩
  clear X1_0 X1_1 X1_2 X1_3 X1_4 X1_5 X1_6 X1_7
  have hq4 : Below w3.heap.size w3 w4 := bth (by repeat (first | exact Below.refl _ _ | refine Below.alloc ?_ (by first | exact Nat.le_refl _ | (simp <;> omega)) _ | refine Below.setCell ?_ (by first | exact Nat.le_refl _ | (simp <;> omega)) _)) hb4
  have z4 := hq4.size
  replace HB := bth HB hq4
  replace X1 := X1.below hq4 X1.lt
  have inx0 : Within [.slice Ax0_0 m.rules.length m.rules.length, .slice Ax0_1 m.pend.length m.pend.length, .slice Ax0_2 m.wait.length m.wait.length, .slice Ax0_3 m.shares.length m.shares.length, .slice Ax0_4 m.outs.length m.outs.length] (w3.heap.size) (w4.heap.size) := by
    intro v hv k hk
    simp only [List.mem_cons, List.not_mem_nil, or_false] at hv
    rcases hv with rfl | hv
    · have h := Ox0_0.lt k hk; (try simp at h); omega
    rcases hv with rfl | hv
    · have h := Ox0_1.lt k hk; (try simp at h); omega
    rcases hv with rfl | hv
    · have h := Ox0_2.lt k hk; (try simp at h); omega
    rcases hv with rfl | hv
    · have h := Ox0_3.lt k hk; (try simp at h); omega
    subst hv
    have h := Ox0_4.lt k hk; (try simp at h); omega
  have X1_l0 : w.heap.size < w4.heap.size := by have h := X1.lt; omega
  have X1_0 := (X1.cell 0).trans (show _ = some (.slice Am_0 m.rules.length cm_0) from rfl)
  have X1_1 := (X1.cell 1).trans (show _ = some (.slice Am_1 m.pend.length cm_1) from rfl)
  have X1_2 := (X1.cell 2).trans (show _ = some (.int .i64 m.turns) from rfl)
  have X1_3 := (X1.cell 3).trans (show _ = some (.int .i64 m.secs) from rfl)
  have X1_4 := (X1.cell 4).trans (show _ = some (.int .i64 m.spk) from rfl)
  have X1_5 := (X1.cell 5).trans (show _ = some (.slice Am_2 m.wait.length cm_2) from rfl)
  have X1_6 := (X1.cell 6).trans (show _ = some (.slice Am_3 m.shares.length cm_3) from rfl)
  have X1_7 := (X1.cell 7).trans (show _ = some (.slice Am_4 m.outs.length cm_4) from rfl)
  go_wp2_with fail
  refine (iMovedBy_is m Ax0_0 Ax0_1 Ax0_2 Ax0_3 Ax0_4 m.rules.length m.pend.length m.wait.length m.shares.length m.outs.length hm_0' hm_1' hm_2' hm_3' hm_4' n _ HV.out _ (Ox0_0.rds.below (by repeat (first | exact Below.refl _ _ | refine Below.alloc ?_ (by first | exact Nat.le_refl _ | (simp <;> omega)) _ | refine Below.setCell ?_ (by first | exact Nat.le_refl _ | (simp <;> omega)) _))) (Ox0_1.rds.below (by repeat (first | exact Below.refl _ _ | refine Below.alloc ?_ (by first | exact Nat.le_refl _ | (simp <;> omega)) _ | refine Below.setCell ?_ (by first | exact Nat.le_refl _ | (simp <;> omega)) _))) (Ox0_2.rds.below (by repeat (first | exact Below.refl _ _ | refine Below.alloc ?_ (by first | exact Nat.le_refl _ | (simp <;> omega)) _ | refine Below.setCell ?_ (by first | exact Nat.le_refl _ | (simp <;> omega)) _))) (Ox0_3.rds.below (by repeat (first | exact Below.refl _ _ | refine Below.alloc ?_ (by first | exact Nat.le_refl _ | (simp <;> omega)) _ | refine Below.setCell ?_ (by first | exact Nat.le_refl _ | (simp <;> omega)) _))) (Ox0_4.rds.below (by repeat (first | exact Below.refl _ _ | refine Below.alloc ?_ (by first | exact Nat.le_refl _ | (simp <;> omega)) _ | refine Below.setCell ?_ (by first | exact Nat.le_refl _ | (simp <;> omega)) _))) (Nat.le_refl _) (Nat.le_refl _) (Nat.le_refl _) (Nat.le_refl _) (Nat.le_refl _)).mono ?_
  rintro e w5 ⟨rfl, hb5⟩
  clear X1_l0 X1_0 X1_1 X1_2 X1_3 X1_4 X1_5 X1_6 X1_7
  have hq5 : Below w4.heap.size w4 w5 := bth (by repeat (first | exact Below.refl _ _ | refine Below.alloc ?_ (by first | exact Nat.le_refl _ | (simp <;> omega)) _ | refine Below.setCell ?_ (by first | exact Nat.le_refl _ | (simp <;> omega)) _)) hb5
  have z5 := hq5.size
  replace HB := bth HB hq5
  replace Ox0_0 := Ox0_0.later hq5
  replace Ox0_1 := Ox0_1.later hq5
  replace Ox0_2 := Ox0_2.later hq5
  replace Ox0_3 := Ox0_3.later hq5
  replace Ox0_4 := Ox0_4.later hq5
  replace X1 := X1.below hq5 X1.lt
  have X2 : Blk w5 (w4.heap.size) 40 #[.slice Ax0_0 m.rules.length m.rules.length, .slice Ax0_1 m.pend.length m.pend.length, .int .i64 m.turns, .int .i64 m.secs, .int .i64 m.spk, .slice Ax0_2 m.wait.length m.wait.length, .slice Ax0_3 m.shares.length m.shares.length, .slice Ax0_4 m.outs.length m.outs.length] := Blk.below (by repeat (first | exact Blk.new _ _ _ | exact Blk.new2 _ _ _ _ | exact Blk.new3 _ _ _ _ _ | refine Blk.alloc ?_ _)) hb5 (by simp <;> omega)
  have yX2 := X2.lt
  have X1_a : ∀ W, Below w5.heap.size w5 W → Blk W (w.heap.size) 30 #[.slice Am_0 m.rules.length cm_0, .slice Am_1 m.pend.length cm_1, .int .i64 m.turns, .int .i64 m.secs, .int .i64 m.spk, .slice Am_2 m.wait.length cm_2, .slice Am_3 m.shares.length cm_3, .slice Am_4 m.outs.length cm_4] := fun W h => X1.below h X1.lt
  have X2_a : ∀ W, Below w5.heap.size w5 W → Blk W (w4.heap.size) 40 #[.slice Ax0_0 m.rules.length m.rules.length, .slice Ax0_1 m.pend.length m.pend.length, .int .i64 m.turns, .int .i64 m.secs, .int .i64 m.spk, .slice Ax0_2 m.wait.length m.wait.length, .slice Ax0_3 m.shares.length m.shares.length, .slice Ax0_4 m.outs.length m.outs.length] := fun W h => X2.below h X2.lt
  have X1_0 := fun W hW => ((X1_a W hW).cell 0).trans (show _ = some (.slice Am_0 m.rules.length cm_0) from rfl)
  have X1_1 := fun W hW => ((X1_a W hW).cell 1).trans (show _ = some (.slice Am_1 m.pend.length cm_1) from rfl)
  have X1_2 := fun W hW => ((X1_a W hW).cell 2).trans (show _ = some (.int .i64 m.turns) from rfl)
  have X1_3 := fun W hW => ((X1_a W hW).cell 3).trans (show _ = some (.int .i64 m.secs) from rfl)
  have X1_4 := fun W hW => ((X1_a W hW).cell 4).trans (show _ = some (.int .i64 m.spk) from rfl)
  have X1_5 := fun W hW => ((X1_a W hW).cell 5).trans (show _ = some (.slice Am_2 m.wait.length cm_2) from rfl)
  have X1_6 := fun W hW => ((X1_a W hW).cell 6).trans (show _ = some (.slice Am_3 m.shares.length cm_3) from rfl)
  have X1_7 := fun W hW => ((X1_a W hW).cell 7).trans (show _ = some (.slice Am_4 m.outs.length cm_4) from rfl)
  have X2_0 := fun W hW => ((X2_a W hW).cell 0).trans (show _ = some (.slice Ax0_0 m.rules.length m.rules.length) from rfl)
  have X2_1 := fun W hW => ((X2_a W hW).cell 1).trans (show _ = some (.slice Ax0_1 m.pend.length m.pend.length) from rfl)
  have X2_2 := fun W hW => ((X2_a W hW).cell 2).trans (show _ = some (.int .i64 m.turns) from rfl)
  have X2_3 := fun W hW => ((X2_a W hW).cell 3).trans (show _ = some (.int .i64 m.secs) from rfl)
  have X2_4 := fun W hW => ((X2_a W hW).cell 4).trans (show _ = some (.int .i64 m.spk) from rfl)
  have X2_5 := fun W hW => ((X2_a W hW).cell 5).trans (show _ = some (.slice Ax0_2 m.wait.length m.wait.length) from rfl)
  have X2_6 := fun W hW => ((X2_a W hW).cell 6).trans (show _ = some (.slice Ax0_3 m.shares.length m.shares.length) from rfl)
  have X2_7 := fun W hW => ((X2_a W hW).cell 7).trans (show _ = some (.slice Ax0_4 m.outs.length m.outs.length) from rfl)
  clear X1_a X2_a
  go_wp2
  go_region_held3 (fun W => Below w5.heap.size w5 W) (first | exact (Below.refl _ _).drew | assumption) ((first
    | (go_at_call 12; refine (toMeeting_is m Am_0 Am_1 Am_2 Am_3 Am_4 cm_0 cm_1 cm_2 cm_3 cm_4 hm_0' hm_1' hm_2' hm_3' hm_4' _ (Rm_0.below (bth HB (Below.refl _ _).drew)) (Rm_1.below (bth HB (Below.refl _ _).drew)) (Rm_2.below (bth HB (Below.refl _ _).drew)) (Rm_3.below (bth HB (Below.refl _ _).drew)) (Rm_4.below (bth HB (Below.refl _ _).drew))).mono ?_; rintro e w6 ⟨Ay0_0, Ay0_1, Ay0_2, Ay0_3, Ay0_4, rfl, Oy0_0, Oy0_1, Oy0_2, Oy0_3, Oy0_4, _, hb6⟩; have hk6 : Below w5.heap.size w5 w6 := bth (Below.refl _ _).drew hb6)
    | (go_at_call 14; refine (eqMeeting_is m Ax0_0 Ax0_1 Ax0_2 Ax0_3 Ax0_4 Ay0_0 Ay0_1 Ay0_2 Ay0_3 Ay0_4 m.rules.length m.pend.length m.wait.length m.shares.length m.outs.length m.rules.length m.pend.length m.wait.length m.shares.length m.outs.length hm_0' hm_1' hm_2' hm_3' hm_4' _ (Ox0_0.rds.below hk6) (Ox0_1.rds.below hk6) (Ox0_2.rds.below hk6) (Ox0_3.rds.below hk6) (Ox0_4.rds.below hk6) Oy0_0.rds Oy0_1.rds Oy0_2.rds Oy0_3.rds Oy0_4.rds).mono ?_; rintro e w7 ⟨rfl, hb7⟩; have hk7 : Below w5.heap.size w5 w7 := bth hk6 hb7)))
  clear X1_0 X1_1 X1_2 X1_3 X1_4 X1_5 X1_6 X1_7 X2_0 X2_1 X2_2 X2_3 X2_4 X2_5 X2_6 X2_7
  have z7 := hk7.size
  replace HB := bth HB hk7
  replace Ox0_0 := Ox0_0.later hk7
  replace Ox0_1 := Ox0_1.later hk7
  replace Ox0_2 := Ox0_2.later hk7
  replace Ox0_3 := Ox0_3.later hk7
  replace Ox0_4 := Ox0_4.later hk7
  replace X1 := X1.below hk7 X1.lt
  replace X2 := X2.below hk7 X2.lt
  have X1_0 := (X1.cell 0).trans (show _ = some (.slice Am_0 m.rules.length cm_0) from rfl)
  have X1_1 := (X1.cell 1).trans (show _ = some (.slice Am_1 m.pend.length cm_1) from rfl)
  have X1_2 := (X1.cell 2).trans (show _ = some (.int .i64 m.turns) from rfl)
  have X1_3 := (X1.cell 3).trans (show _ = some (.int .i64 m.secs) from rfl)
  have X1_4 := (X1.cell 4).trans (show _ = some (.int .i64 m.spk) from rfl)
  have X1_5 := (X1.cell 5).trans (show _ = some (.slice Am_2 m.wait.length cm_2) from rfl)
  have X1_6 := (X1.cell 6).trans (show _ = some (.slice Am_3 m.shares.length cm_3) from rfl)
  have X1_7 := (X1.cell 7).trans (show _ = some (.slice Am_4 m.outs.length cm_4) from rfl)
  have X2_0 := (X2.cell 0).trans (show _ = some (.slice Ax0_0 m.rules.length m.rules.length) from rfl)
  have X2_1 := (X2.cell 1).trans (show _ = some (.slice Ax0_1 m.pend.length m.pend.length) from rfl)
  have X2_2 := (X2.cell 2).trans (show _ = some (.int .i64 m.turns) from rfl)
  have X2_3 := (X2.cell 3).trans (show _ = some (.int .i64 m.secs) from rfl)
  have X2_4 := (X2.cell 4).trans (show _ = some (.int .i64 m.spk) from rfl)
  have X2_5 := (X2.cell 5).trans (show _ = some (.slice Ax0_2 m.wait.length m.wait.length) from rfl)
  have X2_6 := (X2.cell 6).trans (show _ = some (.slice Ax0_3 m.shares.length m.shares.length) from rfl)
  have X2_7 := (X2.cell 7).trans (show _ = some (.slice Ax0_4 m.outs.length m.outs.length) from rfl)
  go_wp2
  go_ret
  exact ⟨rfl, bth HB (by repeat (first | exact Below.refl _ _ | refine Below.alloc ?_ (by first | exact Nat.le_refl _ | (simp <;> omega)) _ | refine Below.setCell ?_ (by first | exact Nat.le_refl _ | (simp <;> omega)) _))⟩
open Go.ChangeShapes Go.WideShapes Go.ChangeAt Go.Deep
set_option maxRecDepth 100000 in
theorem movedBy_lifted (os : Os) (started : os.Started) (H : Type) (enc : TypeId × Value → H) :
    ReturnsInHanded {} Try.checked os 6 .any (Rows.fnExactMovedBySpec.pre6 enc Try.prog Try.f6 Rows.fnExactMovedByRow.domain false) (Rows.fnExactMovedBySpec.post enc Try.prog Try.f6 false true false false) := by
  refine law_lift (C := Try.checked) (rt := 4) prog_own started (by kernel_rfl) Try.func6
    (ChangeSpec.witness6 (enc := enc) (C := Try.checked) false ⟨#[], #[.agg #[.slice none 0 0, .slice none 0 0, .int .i64 0, .int .i64 0, .int .i64 0, .slice none 0 0, .slice none 0 0, .slice none 0 0],  .int .i64 0], []⟩ 8 (by kernel_rfl) (by kernel_rfl) (by kernel_rfl) (by kernel_rfl))
    prog_laid (by rw [Try.params6]; intro t ht; simp at ht; rcases ht with rfl | rfl; all_goals exact ⟨by kernel_rfl, of_decide_eq_true (by kernel_rfl)⟩) rfl Try.underlying4 rfl
    (by rw [Try.params6]; intro l hl; match l, hl with | [d0, d1], _ => rfl) ?_
  intro W base args ds p hval hA
  rw [Try.params6] at hA hval
  obtain ⟨v0, v1, d0, d1, p0, p1, rfl, rfl, rfl, h0, h1⟩ := trodAll_two hA
  obtain ⟨n, rfl, rfl, rfl, wn⟩ := open_int Try.underlying3 (hval 1 3 v1 rfl rfl) h1
  obtain ⟨cs_0, rfl, _⟩ := okWide_struct Try.underlying30 (hval 0 30 v0 rfl rfl)
  obtain ⟨fuel_0, f_0⟩ := h0
  obtain ⟨m, A0, A1, A2, A3, A4, c0, c1, c2, c3, c4, e_0, l0, l1, l2, l3, l4, R0, R1, R2, R3, R4⟩ := rd_Mee f_0
  rw [agg_of_list (cs := cs_0) e_0]
  exact law_movedBy m A0 A1 A2 A3 A4 c0 c1 c2 c3 c4 l0 l1 l2 l3 l4 n W R0 R1 R2 R3 R4
theorem movedBy_holds : Rows.FnExactMovedBySaid :=
  OpenClaim.holds_of_wide 6 Try.f6 rfl rfl rfl rfl rfl rfl rfl ⟨rfl, rfl, rfl, rfl, rfl⟩ rfl rfl rfl rfl rfl (by kernel_rfl) Try.func6 (by kernel_rfl)
    (of_decide_eq_true (by kernel_rfl)) (by unfold Func.isWrapper; rw [if_neg (of_decide_eq_false (by kernel_rfl))]; exact ⟨rfl, rfl⟩)
    (fun os started H enc _ => movedBy_lifted os started H enc)
#print axioms movedBy_holds
end Go.Proofs.Ytkkdegmfmimdgaa
