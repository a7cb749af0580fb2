/- The law of AdoptedRules: the program's answer is the reference's, the argument is left as it was, and the result is its own memory. -/
import Derived.Test.YtkkdegmfmimdgaaAdR
import Derived.Test.YtkkdegmfmimdgaaMkE
import Derived.Test.YtkkdegmfmimdgaaRdM
import Derived.Test.YtkkdegmfmimdgaaLg
import Derived.Deep.RegionHeld3
namespace Go.Proofs.Ytkkdegmfmimdgaa
open Go.RowKit Go.G9
set_option maxHeartbeats 8000000 in
set_option maxRecDepth 100000 in
theorem law_adoptedRules (m : Mee) (Am_0 Am_1 Am_2 Am_3 Am_4 : Option Addr) (cm_0 cm_1 cm_2 cm_3 cm_4 : Nat) (hm_0 : m.rules.length ≤ maxLen) (hm_1 : m.pend.length ≤ maxLen) (hm_2 : m.wait.length ≤ maxLen) (hm_3 : m.shares.length ≤ maxLen) (hm_4 : m.outs.length ≤ maxLen) (w : World) (Rm_0 : Rds 7 Rul.cells w Am_0 m.rules) (Rm_1 : Rds 3 Que.cells w Am_1 m.pend) (Rm_2 : Rds 1 intC w Am_2 m.wait) (Rm_3 : Rds 3 Sha.cells w Am_3 m.shares) (Rm_4 : Rds 3 Out.cells w Am_4 m.outs) :
  Calls Try.prog 9 #[.agg #[.slice Am_0 m.rules.length cm_0, .slice Am_1 m.pend.length cm_1, .int .i64 m.turns, .int .i64 m.secs, .int .i64 m.spk, .slice Am_2 m.wait.length cm_2, .slice Am_3 m.shares.length cm_3, .slice Am_4 m.outs.length cm_4]] w fun e w' => e = .returned (.bool true) ∧ Below w.heap.size w w' := by
  go_enter Try.func9, Try.ntmps9
  go_wp2_with fail
  refine (szMeeting_is m Am_0 Am_1 Am_2 Am_3 Am_4 cm_0 cm_1 cm_2 cm_3 cm_4 hm_0 hm_1 hm_2 hm_3 hm_4 1048576 (by omega) (by omega) _ (Rm_0.below (by repeat (first | exact Below.refl _ _ | refine Below.alloc ?_ (by first | exact Nat.le_refl _ | (simp <;> omega)) _ | refine Below.setCell ?_ (by first | exact Nat.le_refl _ | (simp <;> omega)) _)))).mono ?_
  rintro e w1 ⟨r0, rfl, hr0, hs0, hl0, hb1⟩
  have hq1 : Below w.heap.size w w1 := bth (by repeat (first | exact Below.refl _ _ | refine Below.alloc ?_ (by first | exact Nat.le_refl _ | (simp <;> omega)) _ | refine Below.setCell ?_ (by first | exact Nat.le_refl _ | (simp <;> omega)) _)) hb1
  have z1 := hq1.size
  have HB : Below w.heap.size w w1 := hq1
  have X1 : Blk w1 (w.heap.size) 30 #[.slice Am_0 m.rules.length cm_0, .slice Am_1 m.pend.length cm_1, .int .i64 m.turns, .int .i64 m.secs, .int .i64 m.spk, .slice Am_2 m.wait.length cm_2, .slice Am_3 m.shares.length cm_3, .slice Am_4 m.outs.length cm_4] := Blk.below (by repeat (first | exact Blk.new _ _ _ | exact Blk.new2 _ _ _ _ | exact Blk.new3 _ _ _ _ _ | refine Blk.alloc ?_ _)) hb1 (by simp <;> omega)
  have yX1 := X1.lt
  have X1_0 := (X1.cell 0).trans (show _ = some (.slice Am_0 m.rules.length cm_0) from rfl)
  have X1_1 := (X1.cell 1).trans (show _ = some (.slice Am_1 m.pend.length cm_1) from rfl)
  have X1_2 := (X1.cell 2).trans (show _ = some (.int .i64 m.turns) from rfl)
  have X1_3 := (X1.cell 3).trans (show _ = some (.int .i64 m.secs) from rfl)
  have X1_4 := (X1.cell 4).trans (show _ = some (.int .i64 m.spk) from rfl)
  have X1_5 := (X1.cell 5).trans (show _ = some (.slice Am_2 m.wait.length cm_2) from rfl)
  have X1_6 := (X1.cell 6).trans (show _ = some (.slice Am_3 m.shares.length cm_3) from rfl)
  have X1_7 := (X1.cell 7).trans (show _ = some (.slice Am_4 m.outs.length cm_4) from rfl)
  by_cases h00 : r0 < 0
  · go_wp2
    go_ret
    exact ⟨rfl, bth HB (by repeat (first | exact Below.refl _ _ | refine Below.alloc ?_ (by first | exact Nat.le_refl _ | (simp <;> omega)) _ | refine Below.setCell ?_ (by first | exact Nat.le_refl _ | (simp <;> omega)) _))⟩
  clear X1_0 X1_1 X1_2 X1_3 X1_4 X1_5 X1_6 X1_7
  have hm_0' : m.rules.length ≤ 1048576 := by omega
  have hm_1' : m.pend.length ≤ 1048576 := by omega
  have hm_2' : m.wait.length ≤ 1048576 := by omega
  have hm_3' : m.shares.length ≤ 1048576 := by omega
  have hm_4' : m.outs.length ≤ 1048576 := by omega
  clear hl0
  have X1_0 := (X1.cell 0).trans (show _ = some (.slice Am_0 m.rules.length cm_0) from rfl)
  have X1_1 := (X1.cell 1).trans (show _ = some (.slice Am_1 m.pend.length cm_1) from rfl)
  have X1_2 := (X1.cell 2).trans (show _ = some (.int .i64 m.turns) from rfl)
  have X1_3 := (X1.cell 3).trans (show _ = some (.int .i64 m.secs) from rfl)
  have X1_4 := (X1.cell 4).trans (show _ = some (.int .i64 m.spk) from rfl)
  have X1_5 := (X1.cell 5).trans (show _ = some (.slice Am_2 m.wait.length cm_2) from rfl)
  have X1_6 := (X1.cell 6).trans (show _ = some (.slice Am_3 m.shares.length cm_3) from rfl)
  have X1_7 := (X1.cell 7).trans (show _ = some (.slice Am_4 m.outs.length cm_4) from rfl)
  go_wp2_with fail
  refine (toMeeting_is m Am_0 Am_1 Am_2 Am_3 Am_4 cm_0 cm_1 cm_2 cm_3 cm_4 hm_0' hm_1' hm_2' hm_3' hm_4' _ (Rm_0.below (bth HB (by repeat (first | exact Below.refl _ _ | refine Below.alloc ?_ (by first | exact Nat.le_refl _ | (simp <;> omega)) _ | refine Below.setCell ?_ (by first | exact Nat.le_refl _ | (simp <;> omega)) _)))) (Rm_1.below (bth HB (by repeat (first | exact Below.refl _ _ | refine Below.alloc ?_ (by first | exact Nat.le_refl _ | (simp <;> omega)) _ | refine Below.setCell ?_ (by first | exact Nat.le_refl _ | (simp <;> omega)) _)))) (Rm_2.below (bth HB (by repeat (first | exact Below.refl _ _ | refine Below.alloc ?_ (by first | exact Nat.le_refl _ | (simp <;> omega)) _ | refine Below.setCell ?_ (by first | exact Nat.le_refl _ | (simp <;> omega)) _)))) (Rm_3.below (bth HB (by repeat (first | exact Below.refl _ _ | refine Below.alloc ?_ (by first | exact Nat.le_refl _ | (simp <;> omega)) _ | refine Below.setCell ?_ (by first | exact Nat.le_refl _ | (simp <;> omega)) _)))) (Rm_4.below (bth HB (by repeat (first | exact Below.refl _ _ | refine Below.alloc ?_ (by first | exact Nat.le_refl _ | (simp <;> omega)) _ | refine Below.setCell ?_ (by first | exact Nat.le_refl _ | (simp <;> omega)) _))))).mono ?_
  rintro e w2 ⟨As0_0, As0_1, As0_2, As0_3, As0_4, rfl, Os0_0, Os0_1, Os0_2, Os0_3, Os0_4, aps0, hb2⟩
  clear X1_0 X1_1 X1_2 X1_3 X1_4 X1_5 X1_6 X1_7
  have hq2 : Below w1.heap.size w1 w2 := bth (by repeat (first | exact Below.refl _ _ | refine Below.alloc ?_ (by first | exact Nat.le_refl _ | (simp <;> omega)) _ | refine Below.setCell ?_ (by first | exact Nat.le_refl _ | (simp <;> omega)) _)) hb2
  have z2 := hq2.size
  replace HB := bth HB hq2
  replace X1 := X1.below hq2 X1.lt
  have ins0 : Within [.slice As0_0 m.rules.length m.rules.length, .slice As0_1 m.pend.length m.pend.length, .slice As0_2 m.wait.length m.wait.length, .slice As0_3 m.shares.length m.shares.length, .slice As0_4 m.outs.length m.outs.length] (w1.heap.size) (w2.heap.size) := by
    intro v hv k hk
    simp only [List.mem_cons, List.not_mem_nil, or_false] at hv
    rcases hv with rfl | hv
    · have h := Os0_0.lt k hk; (try simp at h); omega
    rcases hv with rfl | hv
    · have h := Os0_1.lt k hk; (try simp at h); omega
    rcases hv with rfl | hv
    · have h := Os0_2.lt k hk; (try simp at h); omega
    rcases hv with rfl | hv
    · have h := Os0_3.lt k hk; (try simp at h); omega
    subst hv
    have h := Os0_4.lt k hk; (try simp at h); omega
  have X1_0 := (X1.cell 0).trans (show _ = some (.slice Am_0 m.rules.length cm_0) from rfl)
  have X1_1 := (X1.cell 1).trans (show _ = some (.slice Am_1 m.pend.length cm_1) from rfl)
  have X1_2 := (X1.cell 2).trans (show _ = some (.int .i64 m.turns) from rfl)
  have X1_3 := (X1.cell 3).trans (show _ = some (.int .i64 m.secs) from rfl)
  have X1_4 := (X1.cell 4).trans (show _ = some (.int .i64 m.spk) from rfl)
  have X1_5 := (X1.cell 5).trans (show _ = some (.slice Am_2 m.wait.length cm_2) from rfl)
  have X1_6 := (X1.cell 6).trans (show _ = some (.slice Am_3 m.shares.length cm_3) from rfl)
  have X1_7 := (X1.cell 7).trans (show _ = some (.slice Am_4 m.outs.length cm_4) from rfl)
  go_wp2_with fail
  refine (sAdoptedRules_is m As0_0 As0_1 As0_2 As0_3 As0_4 m.rules.length m.pend.length m.wait.length m.shares.length m.outs.length hm_0' hm_1' hm_2' hm_3' hm_4' _ (Os0_0.rds.below (by repeat (first | exact Below.refl _ _ | refine Below.alloc ?_ (by first | exact Nat.le_refl _ | (simp <;> omega)) _ | refine Below.setCell ?_ (by first | exact Nat.le_refl _ | (simp <;> omega)) _))) (Os0_1.rds.below (by repeat (first | exact Below.refl _ _ | refine Below.alloc ?_ (by first | exact Nat.le_refl _ | (simp <;> omega)) _ | refine Below.setCell ?_ (by first | exact Nat.le_refl _ | (simp <;> omega)) _))) (Os0_2.rds.below (by repeat (first | exact Below.refl _ _ | refine Below.alloc ?_ (by first | exact Nat.le_refl _ | (simp <;> omega)) _ | refine Below.setCell ?_ (by first | exact Nat.le_refl _ | (simp <;> omega)) _))) (Os0_3.rds.below (by repeat (first | exact Below.refl _ _ | refine Below.alloc ?_ (by first | exact Nat.le_refl _ | (simp <;> omega)) _ | refine Below.setCell ?_ (by first | exact Nat.le_refl _ | (simp <;> omega)) _))) (Os0_4.rds.below (by repeat (first | exact Below.refl _ _ | refine Below.alloc ?_ (by first | exact Nat.le_refl _ | (simp <;> omega)) _ | refine Below.setCell ?_ (by first | exact Nat.le_refl _ | (simp <;> omega)) _))) (Nat.le_refl _) (Nat.le_refl _) (Nat.le_refl _) (Nat.le_refl _) (Nat.le_refl _)).mono ?_
  rintro e w3 ⟨Aw0, cw0, rfl, Ow0, hb3⟩
  clear X1_0 X1_1 X1_2 X1_3 X1_4 X1_5 X1_6 X1_7
  have hq3 : Below w2.heap.size w2 w3 := bth (by repeat (first | exact Below.refl _ _ | refine Below.alloc ?_ (by first | exact Nat.le_refl _ | (simp <;> omega)) _ | refine Below.setCell ?_ (by first | exact Nat.le_refl _ | (simp <;> omega)) _)) hb3
  have z3 := hq3.size
  replace HB := bth HB hq3
  replace Os0_0 := Os0_0.later hq3
  replace Os0_1 := Os0_1.later hq3
  replace Os0_2 := Os0_2.later hq3
  replace Os0_3 := Os0_3.later hq3
  replace Os0_4 := Os0_4.later hq3
  replace X1 := X1.below hq3 X1.lt
  have inw0 : Within [.slice Aw0 (arL m).length cw0] (w2.heap.size) (w3.heap.size) := by
    intro v hv k hk
    simp only [List.mem_cons, List.not_mem_nil, or_false] at hv
    subst hv
    have h := Ow0.lt k hk; (try simp at h); omega
  have X1_0 := (X1.cell 0).trans (show _ = some (.slice Am_0 m.rules.length cm_0) from rfl)
  have X1_1 := (X1.cell 1).trans (show _ = some (.slice Am_1 m.pend.length cm_1) from rfl)
  have X1_2 := (X1.cell 2).trans (show _ = some (.int .i64 m.turns) from rfl)
  have X1_3 := (X1.cell 3).trans (show _ = some (.int .i64 m.secs) from rfl)
  have X1_4 := (X1.cell 4).trans (show _ = some (.int .i64 m.spk) from rfl)
  have X1_5 := (X1.cell 5).trans (show _ = some (.slice Am_2 m.wait.length cm_2) from rfl)
  have X1_6 := (X1.cell 6).trans (show _ = some (.slice Am_3 m.shares.length cm_3) from rfl)
  have X1_7 := (X1.cell 7).trans (show _ = some (.slice Am_4 m.outs.length cm_4) from rfl)
  go_wp2_with fail
  refine (toMeeting_is m Am_0 Am_1 Am_2 Am_3 Am_4 cm_0 cm_1 cm_2 cm_3 cm_4 hm_0' hm_1' hm_2' hm_3' hm_4' _ (Rm_0.below (bth HB (by repeat (first | exact Below.refl _ _ | refine Below.alloc ?_ (by first | exact Nat.le_refl _ | (simp <;> omega)) _ | refine Below.setCell ?_ (by first | exact Nat.le_refl _ | (simp <;> omega)) _)))) (Rm_1.below (bth HB (by repeat (first | exact Below.refl _ _ | refine Below.alloc ?_ (by first | exact Nat.le_refl _ | (simp <;> omega)) _ | refine Below.setCell ?_ (by first | exact Nat.le_refl _ | (simp <;> omega)) _)))) (Rm_2.below (bth HB (by repeat (first | exact Below.refl _ _ | refine Below.alloc ?_ (by first | exact Nat.le_refl _ | (simp <;> omega)) _ | refine Below.setCell ?_ (by first | exact Nat.le_refl _ | (simp <;> omega)) _)))) (Rm_3.below (bth HB (by repeat (first | exact Below.refl _ _ | refine Below.alloc ?_ (by first | exact Nat.le_refl _ | (simp <;> omega)) _ | refine Below.setCell ?_ (by first | exact Nat.le_refl _ | (simp <;> omega)) _)))) (Rm_4.below (bth HB (by repeat (first | exact Below.refl _ _ | refine Below.alloc ?_ (by first | exact Nat.le_refl _ | (simp <;> omega)) _ | refine Below.setCell ?_ (by first | exact Nat.le_refl _ | (simp <;> omega)) _))))).mono ?_
  rintro e w4 ⟨Ax0_0, Ax0_1, Ax0_2, Ax0_3, Ax0_4, rfl, Ox0_0, Ox0_1, Ox0_2, Ox0_3, Ox0_4, apx0, hb4⟩
  clear X1_0 X1_1 X1_2 X1_3 X1_4 X1_5 X1_6 X1_7
  have hq4 : Below w3.heap.size w3 w4 := bth (by repeat (first | exact Below.refl _ _ | refine Below.alloc ?_ (by first | exact Nat.le_refl _ | (simp <;> omega)) _ | refine Below.setCell ?_ (by first | exact Nat.le_refl _ | (simp <;> omega)) _)) hb4
  have z4 := hq4.size
  replace HB := bth HB hq4
  replace Ow0 := Ow0.later hq4
  replace X1 := X1.below hq4 X1.lt
  have inx0 : Within [.slice Ax0_0 m.rules.length m.rules.length, .slice Ax0_1 m.pend.length m.pend.length, .slice Ax0_2 m.wait.length m.wait.length, .slice Ax0_3 m.shares.length m.shares.length, .slice Ax0_4 m.outs.length m.outs.length] (w3.heap.size) (w4.heap.size) := by
    intro v hv k hk
    simp only [List.mem_cons, List.not_mem_nil, or_false] at hv
    rcases hv with rfl | hv
    · have h := Ox0_0.lt k hk; (try simp at h); omega
    rcases hv with rfl | hv
    · have h := Ox0_1.lt k hk; (try simp at h); omega
    rcases hv with rfl | hv
    · have h := Ox0_2.lt k hk; (try simp at h); omega
    rcases hv with rfl | hv
    · have h := Ox0_3.lt k hk; (try simp at h); omega
    subst hv
    have h := Ox0_4.lt k hk; (try simp at h); omega
  have X1_l0 : w.heap.size < w4.heap.size := by have h := X1.lt; omega
  have X1_0 := (X1.cell 0).trans (show _ = some (.slice Am_0 m.rules.length cm_0) from rfl)
  have X1_1 := (X1.cell 1).trans (show _ = some (.slice Am_1 m.pend.length cm_1) from rfl)
  have X1_2 := (X1.cell 2).trans (show _ = some (.int .i64 m.turns) from rfl)
  have X1_3 := (X1.cell 3).trans (show _ = some (.int .i64 m.secs) from rfl)
  have X1_4 := (X1.cell 4).trans (show _ = some (.int .i64 m.spk) from rfl)
  have X1_5 := (X1.cell 5).trans (show _ = some (.slice Am_2 m.wait.length cm_2) from rfl)
  have X1_6 := (X1.cell 6).trans (show _ = some (.slice Am_3 m.shares.length cm_3) from rfl)
  have X1_7 := (X1.cell 7).trans (show _ = some (.slice Am_4 m.outs.length cm_4) from rfl)
  go_wp2_with fail
  refine (iAdoptedRules_is m Ax0_0 Ax0_1 Ax0_2 Ax0_3 Ax0_4 m.rules.length m.pend.length m.wait.length m.shares.length m.outs.length hm_0' hm_1' hm_2' hm_3' hm_4' _ (Ox0_0.rds.below (by repeat (first | exact Below.refl _ _ | refine Below.alloc ?_ (by first | exact Nat.le_refl _ | (simp <;> omega)) _ | refine Below.setCell ?_ (by first | exact Nat.le_refl _ | (simp <;> omega)) _))) (Ox0_1.rds.below (by repeat (first | exact Below.refl _ _ | refine Below.alloc ?_ (by first | exact Nat.le_refl _ | (simp <;> omega)) _ | refine Below.setCell ?_ (by first | exact Nat.le_refl _ | (simp <;> omega)) _))) (Ox0_2.rds.below (by repeat (first | exact Below.refl _ _ | refine Below.alloc ?_ (by first | exact Nat.le_refl _ | (simp <;> omega)) _ | refine Below.setCell ?_ (by first | exact Nat.le_refl _ | (simp <;> omega)) _))) (Ox0_3.rds.below (by repeat (first | exact Below.refl _ _ | refine Below.alloc ?_ (by first | exact Nat.le_refl _ | (simp <;> omega)) _ | refine Below.setCell ?_ (by first | exact Nat.le_refl _ | (simp <;> omega)) _))) (Ox0_4.rds.below (by repeat (first | exact Below.refl _ _ | refine Below.alloc ?_ (by first | exact Nat.le_refl _ | (simp <;> omega)) _ | refine Below.setCell ?_ (by first | exact Nat.le_refl _ | (simp <;> omega)) _))) (Nat.le_refl _) (Nat.le_refl _) (Nat.le_refl _) (Nat.le_refl _) (Nat.le_refl _)).mono ?_
  rintro e w5 ⟨Ag0, cg0, rfl, Og0, hb5⟩
  clear X1_l0 X1_0 X1_1 X1_2 X1_3 X1_4 X1_5 X1_6 X1_7
  have hq5 : Below w4.heap.size w4 w5 := bth (by repeat (first | exact Below.refl _ _ | refine Below.alloc ?_ (by first | exact Nat.le_refl _ | (simp <;> omega)) _ | refine Below.setCell ?_ (by first | exact Nat.le_refl _ | (simp <;> omega)) _)) hb5
  have z5 := hq5.size
  replace HB := bth HB hq5
  replace Ow0 := Ow0.later hq5
  replace Ox0_0 := Ox0_0.later hq5
  replace Ox0_1 := Ox0_1.later hq5
  replace Ox0_2 := Ox0_2.later hq5
  replace Ox0_3 := Ox0_3.later hq5
  replace Ox0_4 := Ox0_4.later hq5
  replace X1 := X1.below hq5 X1.lt
  have X2 : Blk w5 (w4.heap.size) 40 #[.slice Ax0_0 m.rules.length m.rules.length, .slice Ax0_1 m.pend.length m.pend.length, .int .i64 m.turns, .int .i64 m.secs, .int .i64 m.spk, .slice Ax0_2 m.wait.length m.wait.length, .slice Ax0_3 m.shares.length m.shares.length, .slice Ax0_4 m.outs.length m.outs.length] := Blk.below (by repeat (first | exact Blk.new _ _ _ | exact Blk.new2 _ _ _ _ | exact Blk.new3 _ _ _ _ _ | refine Blk.alloc ?_ _)) hb5 (by simp <;> omega)
  have yX2 := X2.lt
  have ing0 : Within [.slice Ag0 (arL m).length cg0] (w4.heap.size + 1) (w5.heap.size) := by
    intro v hv k hk
    simp only [List.mem_cons, List.not_mem_nil, or_false] at hv
    subst hv
    have h := Og0.lt k hk; (try simp at h); omega
  have X1_0 := (X1.cell 0).trans (show _ = some (.slice Am_0 m.rules.length cm_0) from rfl)
  have X1_1 := (X1.cell 1).trans (show _ = some (.slice Am_1 m.pend.length cm_1) from rfl)
  have X1_2 := (X1.cell 2).trans (show _ = some (.int .i64 m.turns) from rfl)
  have X1_3 := (X1.cell 3).trans (show _ = some (.int .i64 m.secs) from rfl)
  have X1_4 := (X1.cell 4).trans (show _ = some (.int .i64 m.spk) from rfl)
  have X1_5 := (X1.cell 5).trans (show _ = some (.slice Am_2 m.wait.length cm_2) from rfl)
  have X1_6 := (X1.cell 6).trans (show _ = some (.slice Am_3 m.shares.length cm_3) from rfl)
  have X1_7 := (X1.cell 7).trans (show _ = some (.slice Am_4 m.outs.length cm_4) from rfl)
  have X2_0 := (X2.cell 0).trans (show _ = some (.slice Ax0_0 m.rules.length m.rules.length) from rfl)
  have X2_1 := (X2.cell 1).trans (show _ = some (.slice Ax0_1 m.pend.length m.pend.length) from rfl)
  have X2_2 := (X2.cell 2).trans (show _ = some (.int .i64 m.turns) from rfl)
  have X2_3 := (X2.cell 3).trans (show _ = some (.int .i64 m.secs) from rfl)
  have X2_4 := (X2.cell 4).trans (show _ = some (.int .i64 m.spk) from rfl)
  have X2_5 := (X2.cell 5).trans (show _ = some (.slice Ax0_2 m.wait.length m.wait.length) from rfl)
  have X2_6 := (X2.cell 6).trans (show _ = some (.slice Ax0_3 m.shares.length m.shares.length) from rfl)
  have X2_7 := (X2.cell 7).trans (show _ = some (.slice Ax0_4 m.outs.length m.outs.length) from rfl)
  go_wp2_with fail
  refine (eqIntS_is Ag0 Aw0 cg0 cw0 (arL m) (arL_len m hm_4') _ (Og0.rds.below (by repeat (first | exact Below.refl _ _ | refine Below.alloc ?_ (by first | exact Nat.le_refl _ | (simp <;> omega)) _ | refine Below.setCell ?_ (by first | exact Nat.le_refl _ | (simp <;> omega)) _))) (Ow0.rds.below (by repeat (first | exact Below.refl _ _ | refine Below.alloc ?_ (by first | exact Nat.le_refl _ | (simp <;> omega)) _ | refine Below.setCell ?_ (by first | exact Nat.le_refl _ | (simp <;> omega)) _)))).mono ?_
  rintro e w6 ⟨rfl, hb6⟩
  clear X1_0 X1_1 X1_2 X1_3 X1_4 X1_5 X1_6 X1_7
  clear X2_0 X2_1 X2_2 X2_3 X2_4 X2_5 X2_6 X2_7
  have hq6 : Below w5.heap.size w5 w6 := bth (by repeat (first | exact Below.refl _ _ | refine Below.alloc ?_ (by first | exact Nat.le_refl _ | (simp <;> omega)) _ | refine Below.setCell ?_ (by first | exact Nat.le_refl _ | (simp <;> omega)) _)) hb6
  have z6 := hq6.size
  replace HB := bth HB hq6
  replace Ow0 := Ow0.later hq6
  replace Ox0_0 := Ox0_0.later hq6
  replace Ox0_1 := Ox0_1.later hq6
  replace Ox0_2 := Ox0_2.later hq6
  replace Ox0_3 := Ox0_3.later hq6
  replace Ox0_4 := Ox0_4.later hq6
  replace Og0 := Og0.later hq6
  replace X1 := X1.below hq6 X1.lt
  replace X2 := X2.below hq6 X2.lt
  have X1_a : ∀ W, Below w6.heap.size w6 W → Blk W (w.heap.size) 30 #[.slice Am_0 m.rules.length cm_0, .slice Am_1 m.pend.length cm_1, .int .i64 m.turns, .int .i64 m.secs, .int .i64 m.spk, .slice Am_2 m.wait.length cm_2, .slice Am_3 m.shares.length cm_3, .slice Am_4 m.outs.length cm_4] := fun W h => X1.below h X1.lt
  have X2_a : ∀ W, Below w6.heap.size w6 W → Blk W (w4.heap.size) 40 #[.slice Ax0_0 m.rules.length m.rules.length, .slice Ax0_1 m.pend.length m.pend.length, .int .i64 m.turns, .int .i64 m.secs, .int .i64 m.spk, .slice Ax0_2 m.wait.length m.wait.length, .slice Ax0_3 m.shares.length m.shares.length, .slice Ax0_4 m.outs.length m.outs.length] := fun W h => X2.below h X2.lt
  have X1_0 := fun W hW => ((X1_a W hW).cell 0).trans (show _ = some (.slice Am_0 m.rules.length cm_0) from rfl)
  have X1_1 := fun W hW => ((X1_a W hW).cell 1).trans (show _ = some (.slice Am_1 m.pend.length cm_1) from rfl)
  have X1_2 := fun W hW => ((X1_a W hW).cell 2).trans (show _ = some (.int .i64 m.turns) from rfl)
  have X1_3 := fun W hW => ((X1_a W hW).cell 3).trans (show _ = some (.int .i64 m.secs) from rfl)
  have X1_4 := fun W hW => ((X1_a W hW).cell 4).trans (show _ = some (.int .i64 m.spk) from rfl)
  have X1_5 := fun W hW => ((X1_a W hW).cell 5).trans (show _ = some (.slice Am_2 m.wait.length cm_2) from rfl)
  have X1_6 := fun W hW => ((X1_a W hW).cell 6).trans (show _ = some (.slice Am_3 m.shares.length cm_3) from rfl)
  have X1_7 := fun W hW => ((X1_a W hW).cell 7).trans (show _ = some (.slice Am_4 m.outs.length cm_4) from rfl)
  have X2_0 := fun W hW => ((X2_a W hW).cell 0).trans (show _ = some (.slice Ax0_0 m.rules.length m.rules.length) from rfl)
  have X2_1 := fun W hW => ((X2_a W hW).cell 1).trans (show _ = some (.slice Ax0_1 m.pend.length m.pend.length) from rfl)
  have X2_2 := fun W hW => ((X2_a W hW).cell 2).trans (show _ = some (.int .i64 m.turns) from rfl)
  have X2_3 := fun W hW => ((X2_a W hW).cell 3).trans (show _ = some (.int .i64 m.secs) from rfl)
  have X2_4 := fun W hW => ((X2_a W hW).cell 4).trans (show _ = some (.int .i64 m.spk) from rfl)
  have X2_5 := fun W hW => ((X2_a W hW).cell 5).trans (show _ = some (.slice Ax0_2 m.wait.length m.wait.length) from rfl)
  have X2_6 := fun W hW => ((X2_a W hW).cell 6).trans (show _ = some (.slice Ax0_3 m.shares.length m.shares.length) from rfl)
  have X2_7 := fun W hW => ((X2_a W hW).cell 7).trans (show _ = some (.slice Ax0_4 m.outs.length m.outs.length) from rfl)
  clear X1_a X2_a
  go_wp2
  go_region_held3 (fun W => Below w6.heap.size w6 W) (first | exact (Below.refl _ _).drew | assumption) ((first
    | (go_at_call 12; refine (toMeeting_is m Am_0 Am_1 Am_2 Am_3 Am_4 cm_0 cm_1 cm_2 cm_3 cm_4 hm_0' hm_1' hm_2' hm_3' hm_4' _ (Rm_0.below (bth HB (Below.refl _ _).drew)) (Rm_1.below (bth HB (Below.refl _ _).drew)) (Rm_2.below (bth HB (Below.refl _ _).drew)) (Rm_3.below (bth HB (Below.refl _ _).drew)) (Rm_4.below (bth HB (Below.refl _ _).drew))).mono ?_; rintro e w7 ⟨Ay0_0, Ay0_1, Ay0_2, Ay0_3, Ay0_4, rfl, Oy0_0, Oy0_1, Oy0_2, Oy0_3, Oy0_4, _, hb7⟩; have hk7 : Below w6.heap.size w6 w7 := bth (Below.refl _ _).drew hb7)
    | (go_at_call 14; refine (eqMeeting_is m Ax0_0 Ax0_1 Ax0_2 Ax0_3 Ax0_4 Ay0_0 Ay0_1 Ay0_2 Ay0_3 Ay0_4 m.rules.length m.pend.length m.wait.length m.shares.length m.outs.length m.rules.length m.pend.length m.wait.length m.shares.length m.outs.length hm_0' hm_1' hm_2' hm_3' hm_4' _ (Ox0_0.rds.below hk7) (Ox0_1.rds.below hk7) (Ox0_2.rds.below hk7) (Ox0_3.rds.below hk7) (Ox0_4.rds.below hk7) Oy0_0.rds Oy0_1.rds Oy0_2.rds Oy0_3.rds Oy0_4.rds).mono ?_; rintro e w8 ⟨rfl, hb8⟩; have hk8 : Below w6.heap.size w6 w8 := bth hk7 hb8)))
  clear X1_0 X1_1 X1_2 X1_3 X1_4 X1_5 X1_6 X1_7 X2_0 X2_1 X2_2 X2_3 X2_4 X2_5 X2_6 X2_7
  have z8 := hk8.size
  replace HB := bth HB hk8
  replace Ow0 := Ow0.later hk8
  replace Ox0_0 := Ox0_0.later hk8
  replace Ox0_1 := Ox0_1.later hk8
  replace Ox0_2 := Ox0_2.later hk8
  replace Ox0_3 := Ox0_3.later hk8
  replace Ox0_4 := Ox0_4.later hk8
  replace Og0 := Og0.later hk8
  replace X1 := X1.below hk8 X1.lt
  replace X2 := X2.below hk8 X2.lt
  have X1_0 := (X1.cell 0).trans (show _ = some (.slice Am_0 m.rules.length cm_0) from rfl)
  have X1_1 := (X1.cell 1).trans (show _ = some (.slice Am_1 m.pend.length cm_1) from rfl)
  have X1_2 := (X1.cell 2).trans (show _ = some (.int .i64 m.turns) from rfl)
  have X1_3 := (X1.cell 3).trans (show _ = some (.int .i64 m.secs) from rfl)
  have X1_4 := (X1.cell 4).trans (show _ = some (.int .i64 m.spk) from rfl)
  have X1_5 := (X1.cell 5).trans (show _ = some (.slice Am_2 m.wait.length cm_2) from rfl)
  have X1_6 := (X1.cell 6).trans (show _ = some (.slice Am_3 m.shares.length cm_3) from rfl)
  have X1_7 := (X1.cell 7).trans (show _ = some (.slice Am_4 m.outs.length cm_4) from rfl)
  have X2_0 := (X2.cell 0).trans (show _ = some (.slice Ax0_0 m.rules.length m.rules.length) from rfl)
  have X2_1 := (X2.cell 1).trans (show _ = some (.slice Ax0_1 m.pend.length m.pend.length) from rfl)
  have X2_2 := (X2.cell 2).trans (show _ = some (.int .i64 m.turns) from rfl)
  have X2_3 := (X2.cell 3).trans (show _ = some (.int .i64 m.secs) from rfl)
  have X2_4 := (X2.cell 4).trans (show _ = some (.int .i64 m.spk) from rfl)
  have X2_5 := (X2.cell 5).trans (show _ = some (.slice Ax0_2 m.wait.length m.wait.length) from rfl)
  have X2_6 := (X2.cell 6).trans (show _ = some (.slice Ax0_3 m.shares.length m.shares.length) from rfl)
  have X2_7 := (X2.cell 7).trans (show _ = some (.slice Ax0_4 m.outs.length m.outs.length) from rfl)
  go_wp2_with fail
  refine (mkMeeting_is m Ax0_0 Ax0_1 Ax0_2 Ax0_3 Ax0_4 m.rules.length m.pend.length m.wait.length m.shares.length m.outs.length hm_0' hm_1' hm_2' hm_3' hm_4' (1) (by omega) (by omega) _ Ox0_0 Ox0_1 Ox0_2 Ox0_3 Ox0_4 apx0).mono ?_
  rintro e w9 ⟨rfl, M9_0, M9_1, M9_2, M9_3, M9_4, HG9⟩
  clear X1_0 X1_1 X1_2 X1_3 X1_4 X1_5 X1_6 X1_7
  clear X2_0 X2_1 X2_2 X2_3 X2_4 X2_5 X2_6 X2_7
  have z9 := HG9.size
  replace HB := HB.trans (HG9.below inx0 (by omega) HB.size)
  replace Ow0 := Ow0.keptL HG9 inw0 inx0 (by simp) (by omega)
  replace Og0 := Og0.keptL HG9 ing0 inx0 (by simp) (by omega)
  replace X1 := X1.keptL HG9 inx0 (by omega)
  replace X2 := X2.keptL HG9 inx0 (by omega)
  have X1_0 := (X1.cell 0).trans (show _ = some (.slice Am_0 m.rules.length cm_0) from rfl)
  have X1_1 := (X1.cell 1).trans (show _ = some (.slice Am_1 m.pend.length cm_1) from rfl)
  have X1_2 := (X1.cell 2).trans (show _ = some (.int .i64 m.turns) from rfl)
  have X1_3 := (X1.cell 3).trans (show _ = some (.int .i64 m.secs) from rfl)
  have X1_4 := (X1.cell 4).trans (show _ = some (.int .i64 m.spk) from rfl)
  have X1_5 := (X1.cell 5).trans (show _ = some (.slice Am_2 m.wait.length cm_2) from rfl)
  have X1_6 := (X1.cell 6).trans (show _ = some (.slice Am_3 m.shares.length cm_3) from rfl)
  have X1_7 := (X1.cell 7).trans (show _ = some (.slice Am_4 m.outs.length cm_4) from rfl)
  have X2_0 := (X2.cell 0).trans (show _ = some (.slice Ax0_0 m.rules.length m.rules.length) from rfl)
  have X2_1 := (X2.cell 1).trans (show _ = some (.slice Ax0_1 m.pend.length m.pend.length) from rfl)
  have X2_2 := (X2.cell 2).trans (show _ = some (.int .i64 m.turns) from rfl)
  have X2_3 := (X2.cell 3).trans (show _ = some (.int .i64 m.secs) from rfl)
  have X2_4 := (X2.cell 4).trans (show _ = some (.int .i64 m.spk) from rfl)
  have X2_5 := (X2.cell 5).trans (show _ = some (.slice Ax0_2 m.wait.length m.wait.length) from rfl)
  have X2_6 := (X2.cell 6).trans (show _ = some (.slice Ax0_3 m.shares.length m.shares.length) from rfl)
  have X2_7 := (X2.cell 7).trans (show _ = some (.slice Ax0_4 m.outs.length m.outs.length) from rfl)
  go_wp2_with fail
  refine (eqIntS_is Ag0 Aw0 cg0 cw0 (arL m) (arL_len m hm_4') _ (Og0.rds.below (by repeat (first | exact Below.refl _ _ | refine Below.alloc ?_ (by first | exact Nat.le_refl _ | (simp <;> omega)) _ | refine Below.setCell ?_ (by first | exact Nat.le_refl _ | (simp <;> omega)) _))) (Ow0.rds.below (by repeat (first | exact Below.refl _ _ | refine Below.alloc ?_ (by first | exact Nat.le_refl _ | (simp <;> omega)) _ | refine Below.setCell ?_ (by first | exact Nat.le_refl _ | (simp <;> omega)) _)))).mono ?_
  rintro e w10 ⟨rfl, hb10⟩
  clear X1_0 X1_1 X1_2 X1_3 X1_4 X1_5 X1_6 X1_7
  clear X2_0 X2_1 X2_2 X2_3 X2_4 X2_5 X2_6 X2_7
  have hq10 : Below w9.heap.size w9 w10 := bth (by repeat (first | exact Below.refl _ _ | refine Below.alloc ?_ (by first | exact Nat.le_refl _ | (simp <;> omega)) _ | refine Below.setCell ?_ (by first | exact Nat.le_refl _ | (simp <;> omega)) _)) hb10
  have z10 := hq10.size
  replace HB := bth HB hq10
  replace Ow0 := Ow0.later hq10
  replace Og0 := Og0.later hq10
  replace X1 := X1.below hq10 X1.lt
  replace X2 := X2.below hq10 X2.lt
  have X1_0 := (X1.cell 0).trans (show _ = some (.slice Am_0 m.rules.length cm_0) from rfl)
  have X1_1 := (X1.cell 1).trans (show _ = some (.slice Am_1 m.pend.length cm_1) from rfl)
  have X1_2 := (X1.cell 2).trans (show _ = some (.int .i64 m.turns) from rfl)
  have X1_3 := (X1.cell 3).trans (show _ = some (.int .i64 m.secs) from rfl)
  have X1_4 := (X1.cell 4).trans (show _ = some (.int .i64 m.spk) from rfl)
  have X1_5 := (X1.cell 5).trans (show _ = some (.slice Am_2 m.wait.length cm_2) from rfl)
  have X1_6 := (X1.cell 6).trans (show _ = some (.slice Am_3 m.shares.length cm_3) from rfl)
  have X1_7 := (X1.cell 7).trans (show _ = some (.slice Am_4 m.outs.length cm_4) from rfl)
  have X2_0 := (X2.cell 0).trans (show _ = some (.slice Ax0_0 m.rules.length m.rules.length) from rfl)
  have X2_1 := (X2.cell 1).trans (show _ = some (.slice Ax0_1 m.pend.length m.pend.length) from rfl)
  have X2_2 := (X2.cell 2).trans (show _ = some (.int .i64 m.turns) from rfl)
  have X2_3 := (X2.cell 3).trans (show _ = some (.int .i64 m.secs) from rfl)
  have X2_4 := (X2.cell 4).trans (show _ = some (.int .i64 m.spk) from rfl)
  have X2_5 := (X2.cell 5).trans (show _ = some (.slice Ax0_2 m.wait.length m.wait.length) from rfl)
  have X2_6 := (X2.cell 6).trans (show _ = some (.slice Ax0_3 m.shares.length m.shares.length) from rfl)
  have X2_7 := (X2.cell 7).trans (show _ = some (.slice Ax0_4 m.outs.length m.outs.length) from rfl)
  go_wp2_with fail
  refine (mkIntS_is _ Ag0 cg0 (arL m) (arL_len m hm_4') (1) (by omega) (by omega) _ Og0).mono ?_
  rintro e w11 ⟨rfl, M11_0, hg11⟩
  have HG11 := grownL_one hg11
  clear X1_0 X1_1 X1_2 X1_3 X1_4 X1_5 X1_6 X1_7
  clear X2_0 X2_1 X2_2 X2_3 X2_4 X2_5 X2_6 X2_7
  have z11 := HG11.size
  replace HB := HB.trans (HG11.below ing0 (by omega) HB.size)
  replace Ow0 := Ow0.keptL HG11 inw0 ing0 (by simp) (by omega)
  replace X1 := X1.keptL HG11 ing0 (by omega)
  replace X2 := X2.keptL HG11 ing0 (by omega)
  have X1_0 := (X1.cell 0).trans (show _ = some (.slice Am_0 m.rules.length cm_0) from rfl)
  have X1_1 := (X1.cell 1).trans (show _ = some (.slice Am_1 m.pend.length cm_1) from rfl)
  have X1_2 := (X1.cell 2).trans (show _ = some (.int .i64 m.turns) from rfl)
  have X1_3 := (X1.cell 3).trans (show _ = some (.int .i64 m.secs) from rfl)
  have X1_4 := (X1.cell 4).trans (show _ = some (.int .i64 m.spk) from rfl)
  have X1_5 := (X1.cell 5).trans (show _ = some (.slice Am_2 m.wait.length cm_2) from rfl)
  have X1_6 := (X1.cell 6).trans (show _ = some (.slice Am_3 m.shares.length cm_3) from rfl)
  have X1_7 := (X1.cell 7).trans (show _ = some (.slice Am_4 m.outs.length cm_4) from rfl)
  have X2_0 := (X2.cell 0).trans (show _ = some (.slice Ax0_0 m.rules.length m.rules.length) from rfl)
  have X2_1 := (X2.cell 1).trans (show _ = some (.slice Ax0_1 m.pend.length m.pend.length) from rfl)
  have X2_2 := (X2.cell 2).trans (show _ = some (.int .i64 m.turns) from rfl)
  have X2_3 := (X2.cell 3).trans (show _ = some (.int .i64 m.secs) from rfl)
  have X2_4 := (X2.cell 4).trans (show _ = some (.int .i64 m.spk) from rfl)
  have X2_5 := (X2.cell 5).trans (show _ = some (.slice Ax0_2 m.wait.length m.wait.length) from rfl)
  have X2_6 := (X2.cell 6).trans (show _ = some (.slice Ax0_3 m.shares.length m.shares.length) from rfl)
  have X2_7 := (X2.cell 7).trans (show _ = some (.slice Ax0_4 m.outs.length m.outs.length) from rfl)
  go_wp2_with fail
  refine (hdIntS_is Ag0 cg0 _ (arL_len m hm_4') (1) (by omega) (by omega) _ (M11_0.rds.below (by repeat (first | exact Below.refl _ _ | refine Below.alloc ?_ (by first | exact Nat.le_refl _ | (simp <;> omega)) _ | refine Below.setCell ?_ (by first | exact Nat.le_refl _ | (simp <;> omega)) _)))).mono ?_
  rintro e w12 ⟨rfl, hb12⟩
  clear X1_0 X1_1 X1_2 X1_3 X1_4 X1_5 X1_6 X1_7
  clear X2_0 X2_1 X2_2 X2_3 X2_4 X2_5 X2_6 X2_7
  have hq12 : Below w11.heap.size w11 w12 := bth (by repeat (first | exact Below.refl _ _ | refine Below.alloc ?_ (by first | exact Nat.le_refl _ | (simp <;> omega)) _ | refine Below.setCell ?_ (by first | exact Nat.le_refl _ | (simp <;> omega)) _)) hb12
  have z12 := hq12.size
  replace HB := bth HB hq12
  replace Ow0 := Ow0.later hq12
  replace M11_0 := M11_0.later hq12
  replace X1 := X1.below hq12 X1.lt
  replace X2 := X2.below hq12 X2.lt
  have X1_0 := (X1.cell 0).trans (show _ = some (.slice Am_0 m.rules.length cm_0) from rfl)
  have X1_1 := (X1.cell 1).trans (show _ = some (.slice Am_1 m.pend.length cm_1) from rfl)
  have X1_2 := (X1.cell 2).trans (show _ = some (.int .i64 m.turns) from rfl)
  have X1_3 := (X1.cell 3).trans (show _ = some (.int .i64 m.secs) from rfl)
  have X1_4 := (X1.cell 4).trans (show _ = some (.int .i64 m.spk) from rfl)
  have X1_5 := (X1.cell 5).trans (show _ = some (.slice Am_2 m.wait.length cm_2) from rfl)
  have X1_6 := (X1.cell 6).trans (show _ = some (.slice Am_3 m.shares.length cm_3) from rfl)
  have X1_7 := (X1.cell 7).trans (show _ = some (.slice Am_4 m.outs.length cm_4) from rfl)
  have X2_0 := (X2.cell 0).trans (show _ = some (.slice Ax0_0 m.rules.length m.rules.length) from rfl)
  have X2_1 := (X2.cell 1).trans (show _ = some (.slice Ax0_1 m.pend.length m.pend.length) from rfl)
  have X2_2 := (X2.cell 2).trans (show _ = some (.int .i64 m.turns) from rfl)
  have X2_3 := (X2.cell 3).trans (show _ = some (.int .i64 m.secs) from rfl)
  have X2_4 := (X2.cell 4).trans (show _ = some (.int .i64 m.spk) from rfl)
  have X2_5 := (X2.cell 5).trans (show _ = some (.slice Ax0_2 m.wait.length m.wait.length) from rfl)
  have X2_6 := (X2.cell 6).trans (show _ = some (.slice Ax0_3 m.shares.length m.shares.length) from rfl)
  have X2_7 := (X2.cell 7).trans (show _ = some (.slice Ax0_4 m.outs.length m.outs.length) from rfl)
  go_wp2_with fail
  refine (toMeeting_is m Am_0 Am_1 Am_2 Am_3 Am_4 cm_0 cm_1 cm_2 cm_3 cm_4 hm_0' hm_1' hm_2' hm_3' hm_4' _ (Rm_0.below (bth HB (by repeat (first | exact Below.refl _ _ | refine Below.alloc ?_ (by first | exact Nat.le_refl _ | (simp <;> omega)) _ | refine Below.setCell ?_ (by first | exact Nat.le_refl _ | (simp <;> omega)) _)))) (Rm_1.below (bth HB (by repeat (first | exact Below.refl _ _ | refine Below.alloc ?_ (by first | exact Nat.le_refl _ | (simp <;> omega)) _ | refine Below.setCell ?_ (by first | exact Nat.le_refl _ | (simp <;> omega)) _)))) (Rm_2.below (bth HB (by repeat (first | exact Below.refl _ _ | refine Below.alloc ?_ (by first | exact Nat.le_refl _ | (simp <;> omega)) _ | refine Below.setCell ?_ (by first | exact Nat.le_refl _ | (simp <;> omega)) _)))) (Rm_3.below (bth HB (by repeat (first | exact Below.refl _ _ | refine Below.alloc ?_ (by first | exact Nat.le_refl _ | (simp <;> omega)) _ | refine Below.setCell ?_ (by first | exact Nat.le_refl _ | (simp <;> omega)) _)))) (Rm_4.below (bth HB (by repeat (first | exact Below.refl _ _ | refine Below.alloc ?_ (by first | exact Nat.le_refl _ | (simp <;> omega)) _ | refine Below.setCell ?_ (by first | exact Nat.le_refl _ | (simp <;> omega)) _))))).mono ?_
  rintro e w13 ⟨At0_0, At0_1, At0_2, At0_3, At0_4, rfl, Ot0_0, Ot0_1, Ot0_2, Ot0_3, Ot0_4, apt0, hb13⟩
  clear X1_0 X1_1 X1_2 X1_3 X1_4 X1_5 X1_6 X1_7
  clear X2_0 X2_1 X2_2 X2_3 X2_4 X2_5 X2_6 X2_7
  have hq13 : Below w12.heap.size w12 w13 := bth (by repeat (first | exact Below.refl _ _ | refine Below.alloc ?_ (by first | exact Nat.le_refl _ | (simp <;> omega)) _ | refine Below.setCell ?_ (by first | exact Nat.le_refl _ | (simp <;> omega)) _)) hb13
  have z13 := hq13.size
  replace HB := bth HB hq13
  replace Ow0 := Ow0.later hq13
  replace M11_0 := M11_0.later hq13
  replace X1 := X1.below hq13 X1.lt
  replace X2 := X2.below hq13 X2.lt
  have int0 : Within [.slice At0_0 m.rules.length m.rules.length, .slice At0_1 m.pend.length m.pend.length, .slice At0_2 m.wait.length m.wait.length, .slice At0_3 m.shares.length m.shares.length, .slice At0_4 m.outs.length m.outs.length] (w12.heap.size) (w13.heap.size) := by
    intro v hv k hk
    simp only [List.mem_cons, List.not_mem_nil, or_false] at hv
    rcases hv with rfl | hv
    · have h := Ot0_0.lt k hk; (try simp at h); omega
    rcases hv with rfl | hv
    · have h := Ot0_1.lt k hk; (try simp at h); omega
    rcases hv with rfl | hv
    · have h := Ot0_2.lt k hk; (try simp at h); omega
    rcases hv with rfl | hv
    · have h := Ot0_3.lt k hk; (try simp at h); omega
    subst hv
    have h := Ot0_4.lt k hk; (try simp at h); omega
  have X1_0 := (X1.cell 0).trans (show _ = some (.slice Am_0 m.rules.length cm_0) from rfl)
  have X1_1 := (X1.cell 1).trans (show _ = some (.slice Am_1 m.pend.length cm_1) from rfl)
  have X1_2 := (X1.cell 2).trans (show _ = some (.int .i64 m.turns) from rfl)
  have X1_3 := (X1.cell 3).trans (show _ = some (.int .i64 m.secs) from rfl)
  have X1_4 := (X1.cell 4).trans (show _ = some (.int .i64 m.spk) from rfl)
  have X1_5 := (X1.cell 5).trans (show _ = some (.slice Am_2 m.wait.length cm_2) from rfl)
  have X1_6 := (X1.cell 6).trans (show _ = some (.slice Am_3 m.shares.length cm_3) from rfl)
  have X1_7 := (X1.cell 7).trans (show _ = some (.slice Am_4 m.outs.length cm_4) from rfl)
  have X2_0 := (X2.cell 0).trans (show _ = some (.slice Ax0_0 m.rules.length m.rules.length) from rfl)
  have X2_1 := (X2.cell 1).trans (show _ = some (.slice Ax0_1 m.pend.length m.pend.length) from rfl)
  have X2_2 := (X2.cell 2).trans (show _ = some (.int .i64 m.turns) from rfl)
  have X2_3 := (X2.cell 3).trans (show _ = some (.int .i64 m.secs) from rfl)
  have X2_4 := (X2.cell 4).trans (show _ = some (.int .i64 m.spk) from rfl)
  have X2_5 := (X2.cell 5).trans (show _ = some (.slice Ax0_2 m.wait.length m.wait.length) from rfl)
  have X2_6 := (X2.cell 6).trans (show _ = some (.slice Ax0_3 m.shares.length m.shares.length) from rfl)
  have X2_7 := (X2.cell 7).trans (show _ = some (.slice Ax0_4 m.outs.length m.outs.length) from rfl)
  go_wp2_with fail
  refine (iAdoptedRules_is m At0_0 At0_1 At0_2 At0_3 At0_4 m.rules.length m.pend.length m.wait.length m.shares.length m.outs.length hm_0' hm_1' hm_2' hm_3' hm_4' _ (Ot0_0.rds.below (by repeat (first | exact Below.refl _ _ | refine Below.alloc ?_ (by first | exact Nat.le_refl _ | (simp <;> omega)) _ | refine Below.setCell ?_ (by first | exact Nat.le_refl _ | (simp <;> omega)) _))) (Ot0_1.rds.below (by repeat (first | exact Below.refl _ _ | refine Below.alloc ?_ (by first | exact Nat.le_refl _ | (simp <;> omega)) _ | refine Below.setCell ?_ (by first | exact Nat.le_refl _ | (simp <;> omega)) _))) (Ot0_2.rds.below (by repeat (first | exact Below.refl _ _ | refine Below.alloc ?_ (by first | exact Nat.le_refl _ | (simp <;> omega)) _ | refine Below.setCell ?_ (by first | exact Nat.le_refl _ | (simp <;> omega)) _))) (Ot0_3.rds.below (by repeat (first | exact Below.refl _ _ | refine Below.alloc ?_ (by first | exact Nat.le_refl _ | (simp <;> omega)) _ | refine Below.setCell ?_ (by first | exact Nat.le_refl _ | (simp <;> omega)) _))) (Ot0_4.rds.below (by repeat (first | exact Below.refl _ _ | refine Below.alloc ?_ (by first | exact Nat.le_refl _ | (simp <;> omega)) _ | refine Below.setCell ?_ (by first | exact Nat.le_refl _ | (simp <;> omega)) _))) (Nat.le_refl _) (Nat.le_refl _) (Nat.le_refl _) (Nat.le_refl _) (Nat.le_refl _)).mono ?_
  rintro e w14 ⟨Ah0, ch0, rfl, Oh0, hb14⟩
  clear X1_0 X1_1 X1_2 X1_3 X1_4 X1_5 X1_6 X1_7
  clear X2_0 X2_1 X2_2 X2_3 X2_4 X2_5 X2_6 X2_7
  have hq14 : Below w13.heap.size w13 w14 := bth (by repeat (first | exact Below.refl _ _ | refine Below.alloc ?_ (by first | exact Nat.le_refl _ | (simp <;> omega)) _ | refine Below.setCell ?_ (by first | exact Nat.le_refl _ | (simp <;> omega)) _)) hb14
  have z14 := hq14.size
  replace HB := bth HB hq14
  replace Ow0 := Ow0.later hq14
  replace M11_0 := M11_0.later hq14
  replace Ot0_0 := Ot0_0.later hq14
  replace Ot0_1 := Ot0_1.later hq14
  replace Ot0_2 := Ot0_2.later hq14
  replace Ot0_3 := Ot0_3.later hq14
  replace Ot0_4 := Ot0_4.later hq14
  replace X1 := X1.below hq14 X1.lt
  replace X2 := X2.below hq14 X2.lt
  have inh0 : Within [.slice Ah0 (arL m).length ch0] (w13.heap.size) (w14.heap.size) := by
    intro v hv k hk
    simp only [List.mem_cons, List.not_mem_nil, or_false] at hv
    subst hv
    have h := Oh0.lt k hk; (try simp at h); omega
  have X1_0 := (X1.cell 0).trans (show _ = some (.slice Am_0 m.rules.length cm_0) from rfl)
  have X1_1 := (X1.cell 1).trans (show _ = some (.slice Am_1 m.pend.length cm_1) from rfl)
  have X1_2 := (X1.cell 2).trans (show _ = some (.int .i64 m.turns) from rfl)
  have X1_3 := (X1.cell 3).trans (show _ = some (.int .i64 m.secs) from rfl)
  have X1_4 := (X1.cell 4).trans (show _ = some (.int .i64 m.spk) from rfl)
  have X1_5 := (X1.cell 5).trans (show _ = some (.slice Am_2 m.wait.length cm_2) from rfl)
  have X1_6 := (X1.cell 6).trans (show _ = some (.slice Am_3 m.shares.length cm_3) from rfl)
  have X1_7 := (X1.cell 7).trans (show _ = some (.slice Am_4 m.outs.length cm_4) from rfl)
  have X2_0 := (X2.cell 0).trans (show _ = some (.slice Ax0_0 m.rules.length m.rules.length) from rfl)
  have X2_1 := (X2.cell 1).trans (show _ = some (.slice Ax0_1 m.pend.length m.pend.length) from rfl)
  have X2_2 := (X2.cell 2).trans (show _ = some (.int .i64 m.turns) from rfl)
  have X2_3 := (X2.cell 3).trans (show _ = some (.int .i64 m.secs) from rfl)
  have X2_4 := (X2.cell 4).trans (show _ = some (.int .i64 m.spk) from rfl)
  have X2_5 := (X2.cell 5).trans (show _ = some (.slice Ax0_2 m.wait.length m.wait.length) from rfl)
  have X2_6 := (X2.cell 6).trans (show _ = some (.slice Ax0_3 m.shares.length m.shares.length) from rfl)
  have X2_7 := (X2.cell 7).trans (show _ = some (.slice Ax0_4 m.outs.length m.outs.length) from rfl)
  go_wp2_with fail
  refine (eqIntS_is Ah0 Aw0 ch0 cw0 (arL m) (arL_len m hm_4') _ (Oh0.rds.below (by repeat (first | exact Below.refl _ _ | refine Below.alloc ?_ (by first | exact Nat.le_refl _ | (simp <;> omega)) _ | refine Below.setCell ?_ (by first | exact Nat.le_refl _ | (simp <;> omega)) _))) (Ow0.rds.below (by repeat (first | exact Below.refl _ _ | refine Below.alloc ?_ (by first | exact Nat.le_refl _ | (simp <;> omega)) _ | refine Below.setCell ?_ (by first | exact Nat.le_refl _ | (simp <;> omega)) _)))).mono ?_
  rintro e w15 ⟨rfl, hb15⟩
  clear X1_0 X1_1 X1_2 X1_3 X1_4 X1_5 X1_6 X1_7
  clear X2_0 X2_1 X2_2 X2_3 X2_4 X2_5 X2_6 X2_7
  have hq15 : Below w14.heap.size w14 w15 := bth (by repeat (first | exact Below.refl _ _ | refine Below.alloc ?_ (by first | exact Nat.le_refl _ | (simp <;> omega)) _ | refine Below.setCell ?_ (by first | exact Nat.le_refl _ | (simp <;> omega)) _)) hb15
  have z15 := hq15.size
  replace HB := bth HB hq15
  replace Ow0 := Ow0.later hq15
  replace M11_0 := M11_0.later hq15
  replace Oh0 := Oh0.later hq15
  replace X1 := X1.below hq15 X1.lt
  replace X2 := X2.below hq15 X2.lt
  have X1_0 := (X1.cell 0).trans (show _ = some (.slice Am_0 m.rules.length cm_0) from rfl)
  have X1_1 := (X1.cell 1).trans (show _ = some (.slice Am_1 m.pend.length cm_1) from rfl)
  have X1_2 := (X1.cell 2).trans (show _ = some (.int .i64 m.turns) from rfl)
  have X1_3 := (X1.cell 3).trans (show _ = some (.int .i64 m.secs) from rfl)
  have X1_4 := (X1.cell 4).trans (show _ = some (.int .i64 m.spk) from rfl)
  have X1_5 := (X1.cell 5).trans (show _ = some (.slice Am_2 m.wait.length cm_2) from rfl)
  have X1_6 := (X1.cell 6).trans (show _ = some (.slice Am_3 m.shares.length cm_3) from rfl)
  have X1_7 := (X1.cell 7).trans (show _ = some (.slice Am_4 m.outs.length cm_4) from rfl)
  have X2_0 := (X2.cell 0).trans (show _ = some (.slice Ax0_0 m.rules.length m.rules.length) from rfl)
  have X2_1 := (X2.cell 1).trans (show _ = some (.slice Ax0_1 m.pend.length m.pend.length) from rfl)
  have X2_2 := (X2.cell 2).trans (show _ = some (.int .i64 m.turns) from rfl)
  have X2_3 := (X2.cell 3).trans (show _ = some (.int .i64 m.secs) from rfl)
  have X2_4 := (X2.cell 4).trans (show _ = some (.int .i64 m.spk) from rfl)
  have X2_5 := (X2.cell 5).trans (show _ = some (.slice Ax0_2 m.wait.length m.wait.length) from rfl)
  have X2_6 := (X2.cell 6).trans (show _ = some (.slice Ax0_3 m.shares.length m.shares.length) from rfl)
  have X2_7 := (X2.cell 7).trans (show _ = some (.slice Ax0_4 m.outs.length m.outs.length) from rfl)
  go_wp2_with fail
  refine (hdIntS_is Ag0 cg0 _ (arL_len m hm_4') (1) (by omega) (by omega) _ (M11_0.rds.below (by repeat (first | exact Below.refl _ _ | refine Below.alloc ?_ (by first | exact Nat.le_refl _ | (simp <;> omega)) _ | refine Below.setCell ?_ (by first | exact Nat.le_refl _ | (simp <;> omega)) _)))).mono ?_
  rintro e w16 ⟨rfl, hb16⟩
  clear X1_0 X1_1 X1_2 X1_3 X1_4 X1_5 X1_6 X1_7
  clear X2_0 X2_1 X2_2 X2_3 X2_4 X2_5 X2_6 X2_7
  have hq16 : Below w15.heap.size w15 w16 := bth (by repeat (first | exact Below.refl _ _ | refine Below.alloc ?_ (by first | exact Nat.le_refl _ | (simp <;> omega)) _ | refine Below.setCell ?_ (by first | exact Nat.le_refl _ | (simp <;> omega)) _)) hb16
  have z16 := hq16.size
  replace HB := bth HB hq16
  replace Ow0 := Ow0.later hq16
  replace M11_0 := M11_0.later hq16
  replace Oh0 := Oh0.later hq16
  replace X1 := X1.below hq16 X1.lt
  replace X2 := X2.below hq16 X2.lt
  have X1_0 := (X1.cell 0).trans (show _ = some (.slice Am_0 m.rules.length cm_0) from rfl)
  have X1_1 := (X1.cell 1).trans (show _ = some (.slice Am_1 m.pend.length cm_1) from rfl)
  have X1_2 := (X1.cell 2).trans (show _ = some (.int .i64 m.turns) from rfl)
  have X1_3 := (X1.cell 3).trans (show _ = some (.int .i64 m.secs) from rfl)
  have X1_4 := (X1.cell 4).trans (show _ = some (.int .i64 m.spk) from rfl)
  have X1_5 := (X1.cell 5).trans (show _ = some (.slice Am_2 m.wait.length cm_2) from rfl)
  have X1_6 := (X1.cell 6).trans (show _ = some (.slice Am_3 m.shares.length cm_3) from rfl)
  have X1_7 := (X1.cell 7).trans (show _ = some (.slice Am_4 m.outs.length cm_4) from rfl)
  have X2_0 := (X2.cell 0).trans (show _ = some (.slice Ax0_0 m.rules.length m.rules.length) from rfl)
  have X2_1 := (X2.cell 1).trans (show _ = some (.slice Ax0_1 m.pend.length m.pend.length) from rfl)
  have X2_2 := (X2.cell 2).trans (show _ = some (.int .i64 m.turns) from rfl)
  have X2_3 := (X2.cell 3).trans (show _ = some (.int .i64 m.secs) from rfl)
  have X2_4 := (X2.cell 4).trans (show _ = some (.int .i64 m.spk) from rfl)
  have X2_5 := (X2.cell 5).trans (show _ = some (.slice Ax0_2 m.wait.length m.wait.length) from rfl)
  have X2_6 := (X2.cell 6).trans (show _ = some (.slice Ax0_3 m.shares.length m.shares.length) from rfl)
  have X2_7 := (X2.cell 7).trans (show _ = some (.slice Ax0_4 m.outs.length m.outs.length) from rfl)
  go_wp2
  go_ret
  exact ⟨rfl, bth HB (by repeat (first | exact Below.refl _ _ | refine Below.alloc ?_ (by first | exact Nat.le_refl _ | (simp <;> omega)) _ | refine Below.setCell ?_ (by first | exact Nat.le_refl _ | (simp <;> omega)) _))⟩
open Go.ChangeShapes Go.WideShapes Go.ChangeAt Go.Deep
set_option maxRecDepth 100000 in
theorem adoptedRules_lifted (os : Os) (started : os.Started) (H : Type) (enc : TypeId × Value → H) :
    ReturnsInHanded {} Try.checked os 9 .any (Rows.fnExactAdoptedRulesSpec.pre6 enc Try.prog Try.f9 Rows.fnExactAdoptedRulesRow.domain false) (Rows.fnExactAdoptedRulesSpec.post enc Try.prog Try.f9 false true false false) := by
  refine law_lift (C := Try.checked) (rt := 4) prog_own started (by kernel_rfl) Try.func9
    (ChangeSpec.witness6 (enc := enc) (C := Try.checked) false ⟨#[], #[.agg #[.slice none 0 0, .slice none 0 0, .int .i64 0, .int .i64 0, .int .i64 0, .slice none 0 0, .slice none 0 0, .slice none 0 0]], []⟩ 8 (by kernel_rfl) (by kernel_rfl) (by kernel_rfl) (by kernel_rfl))
    prog_laid (by rw [Try.params9]; intro t ht; simp at ht; rcases ht with rfl; all_goals exact ⟨by kernel_rfl, of_decide_eq_true (by kernel_rfl)⟩) rfl Try.underlying4 rfl
    (by rw [Try.params9]; intro l hl; match l, hl with | [d0], _ => rfl) ?_
  intro W base args ds p hval hA
  rw [Try.params9] at hA hval
  obtain ⟨v0, d0, rfl, rfl, h0⟩ := trodAll_one hA
  obtain ⟨cs_0, rfl, _⟩ := okWide_struct Try.underlying30 (hval 0 30 v0 rfl rfl)
  obtain ⟨fuel_0, f_0⟩ := h0
  obtain ⟨m, A0, A1, A2, A3, A4, c0, c1, c2, c3, c4, e_0, l0, l1, l2, l3, l4, R0, R1, R2, R3, R4⟩ := rd_Mee f_0
  rw [agg_of_list (cs := cs_0) e_0]
  exact law_adoptedRules m A0 A1 A2 A3 A4 c0 c1 c2 c3 c4 l0 l1 l2 l3 l4 W R0 R1 R2 R3 R4
theorem adoptedRules_holds : Rows.FnExactAdoptedRulesSaid :=
  OpenClaim.holds_of_wide 9 Try.f9 rfl rfl rfl rfl rfl rfl rfl ⟨rfl, rfl, rfl, rfl, rfl⟩ rfl rfl rfl rfl rfl (by kernel_rfl) Try.func9 (by kernel_rfl)
    (of_decide_eq_true (by kernel_rfl)) (by unfold Func.isWrapper; rw [if_neg (of_decide_eq_false (by kernel_rfl))]; exact ⟨rfl, rfl⟩)
    (fun os started H enc _ => adoptedRules_lifted os started H enc)
#print axioms adoptedRules_holds
end Go.Proofs.Ytkkdegmfmimdgaa
