/- The law of RunActs: the program's answer is the reference's, meeting and acts are left as they were, and the result is its own memory. -/
import Derived.Deep.RegionHeld3
import Derived.Test.YtjimibkgocieoaaGreatRa9
import Derived.Test.YtjimibkgocieoaaGreatRa3
import Derived.Test.YtjimibkgocieoaaGreatRa10
import Derived.Test.YtjimibkgocieoaaGreatRa25
import Derived.Test.YtjimibkgocieoaaGreatRa0
set_option maxHeartbeats 16000000
set_option maxRecDepth 100000
namespace Go.Proofs.YtjimibkgocieoaaGreat
open Go.RowKit Go.G9
theorem zb53 {p : Prop} (h : p := by
 intro v hv k hk
 simp only [List.mem_cons, List.not_mem_nil, or_false] at hv
 rcases hv with rfl | hv
 ·have h := Ow0_0.lt k hk; (try simp at h); omega
 rcases hv with rfl | hv
 ·have h := Ow0_1.lt k hk; (try simp at h); omega
 rcases hv with rfl | hv
 ·have h := Ow0_2.lt k hk; (try simp at h); omega
 rcases hv with rfl | hv
 ·have h := Ow0_3.lt k hk; (try simp at h); omega
 subst hv
 have h := Ow0_4.lt k hk
 (try simp at h)
 omega) : p := h
theorem zb54 {p : Prop} (h : p := by
 intro v hv k hk
 simp only [List.mem_cons, List.not_mem_nil, or_false] at hv
 rcases hv with rfl | hv
 ·have h := Ox0_0.lt k hk; (try simp at h); omega
 rcases hv with rfl | hv
 ·have h := Ox0_1.lt k hk; (try simp at h); omega
 rcases hv with rfl | hv
 ·have h := Ox0_2.lt k hk; (try simp at h); omega
 rcases hv with rfl | hv
 ·have h := Ox0_3.lt k hk; (try simp at h); omega
 subst hv
 have h := Ox0_4.lt k hk
 (try simp at h)
 omega) : p := h
theorem zb55 {p : Prop} (h : p := by
 intro v hv k hk
 simp only [List.mem_cons, List.not_mem_nil, or_false] at hv
 rcases hv with rfl | hv
 ·have h := Og0_0.lt k hk; (try simp at h); omega
 rcases hv with rfl | hv
 ·have h := Og0_1.lt k hk; (try simp at h); omega
 rcases hv with rfl | hv
 ·have h := Og0_2.lt k hk; (try simp at h); omega
 rcases hv with rfl | hv
 ·have h := Og0_3.lt k hk; (try simp at h); omega
 subst hv
 have h := Og0_4.lt k hk
 (try simp at h)
 omega) : p := h
theorem law_runActsL (m : Mee) (Am_0 Am_1 Am_2 Am_3 Am_4 : Option Addr) (cm_0 cm_1 cm_2 cm_3 cm_4 : Nat) (hm_0 : m.rules.length ≤ maxLen) (hm_1 : m.pend.length ≤ maxLen) (hm_2 : m.wait.length ≤ maxLen) (hm_3 : m.shares.length ≤ maxLen) (hm_4 : m.outs.length ≤ maxLen) (Aal : Option Addr) (cal : Nat) (al : List Ac) (hal : al.length ≤ maxLen) (w : World) (Rm_0 : Rds 7 Rul.cells w Am_0 m.rules) (Rm_1 : Rds 3 Que.cells w Am_1 m.pend) (Rm_2 : Rds 1 intC w Am_2 m.wait) (Rm_3 : Rds 3 Sha.cells w Am_3 m.shares) (Rm_4 : Rds 3 Out.cells w Am_4 m.outs) (Ral : Rds 6 Ac.cells w Aal al) :
 Calls Tryz.prog 6 #[.agg #[.slice Am_0 m.rules.length cm_0, .slice Am_1 m.pend.length cm_1, .int .i64 m.turns, .int .i64 m.secs, .int .i64 m.spk, .slice Am_2 m.wait.length cm_2, .slice Am_3 m.shares.length cm_3, .slice Am_4 m.outs.length cm_4], .slice Aal al.length cal] w fun e w' => e = .returned (.bool true) ∧ Below w.heap.size w w' := by
 go_enter Tryz.func6, Tryz.ntmps6
 go_wp2_with fail
 refine (szMeeting_is m Am_0 Am_1 Am_2 Am_3 Am_4 cm_0 cm_1 cm_2 cm_3 cm_4 hm_0 hm_1 hm_2 hm_3 hm_4 1048576 (by omega) (by omega) _ (Rm_0.below bel)).mono ?_
 rintro e w1 ⟨r0, rfl, hr0, hs0, hl0, hb1⟩
 have hq1 : Below w.heap.size w w1 := bth bel hb1; have z1 := hq1.size; have HB : Below w.heap.size w w1 := hq1; have X1 : Blk w1 (w.heap.size) 77 #[.slice Am_0 m.rules.length cm_0, .slice Am_1 m.pend.length cm_1, .int .i64 m.turns, .int .i64 m.secs, .int .i64 m.spk, .slice Am_2 m.wait.length cm_2, .slice Am_3 m.shares.length cm_3, .slice Am_4 m.outs.length cm_4] := Blk.below (by repeat (first | exact Blk.new _ _ _ | exact Blk.new2 _ _ _ _ | exact Blk.new3 _ _ _ _ _ | refine Blk.alloc ?_ _)) hb1 (by simp <;> omega)
 have yX1 := X1.lt
 obtain ⟨X1_0, X1_1, X1_2, X1_3, X1_4, X1_5, X1_6, X1_7⟩ := X1.cs8
 by_cases h00 : r0 < 0
 ·go_wp2
  go_ret
  exact ⟨rfl, bth HB bel⟩
 clear X1_0 X1_1 X1_2 X1_3 X1_4 X1_5 X1_6 X1_7
 have hm_0' : m.rules.length ≤ 1048576 := by omega
 have hm_1' : m.pend.length ≤ 1048576 := by omega
 have hm_2' : m.wait.length ≤ 1048576 := by omega
 have hm_3' : m.shares.length ≤ 1048576 := by omega
 have hm_4' : m.outs.length ≤ 1048576 := by omega
 clear hl0
 obtain ⟨X1_0, X1_1, X1_2, X1_3, X1_4, X1_5, X1_6, X1_7⟩ := X1.cs8
 go_wp2_with fail
 refine (szActS_is Aal cal al hal r0 (by omega) (by omega) _ ).mono ?_
 rintro e w2 ⟨r1, rfl, hr1, hs1, hl1, hb2⟩
 clear X1_0 X1_1 X1_2 X1_3 X1_4 X1_5 X1_6 X1_7; have hq2 : Below w1.heap.size w1 w2 := bth bel hb2; have z2 := hq2.size; replace HB := bth HB hq2; replace X1 := X1.to hq2
 obtain ⟨X1_0, X1_1, X1_2, X1_3, X1_4, X1_5, X1_6, X1_7⟩ := X1.cs8
 by_cases h01 : r1 < 0
 ·go_wp2
  go_ret
  exact ⟨rfl, bth HB bel⟩
 clear X1_0 X1_1 X1_2 X1_3 X1_4 X1_5 X1_6 X1_7
 have hal' : al.length ≤ 1048576 := by omega
 clear hl1
 obtain ⟨X1_0, X1_1, X1_2, X1_3, X1_4, X1_5, X1_6, X1_7⟩ := X1.cs8
 go_wp2_with fail
 refine (toMeeting_is m Am_0 Am_1 Am_2 Am_3 Am_4 cm_0 cm_1 cm_2 cm_3 cm_4 hm_0' hm_1' hm_2' hm_3' hm_4' _ (Rm_0.below (bth HB bel)) (Rm_1.below (bth HB bel)) (Rm_2.below (bth HB bel)) (Rm_3.below (bth HB bel)) (Rm_4.below (bth HB bel))).mono ?_
 rintro e w3 ⟨As0_0, As0_1, As0_2, As0_3, As0_4, rfl, Os0_0, Os0_1, Os0_2, Os0_3, Os0_4, aps0, hb3⟩
 clear X1_0 X1_1 X1_2 X1_3 X1_4 X1_5 X1_6 X1_7; have hq3 : Below w2.heap.size w2 w3 := bth bel hb3; have z3 := hq3.size; replace HB := bth HB hq3; replace X1 := X1.to hq3
 have ins0 : Within [.slice As0_0 m.rules.length m.rules.length, .slice As0_1 m.pend.length m.pend.length, .slice As0_2 m.wait.length m.wait.length, .slice As0_3 m.shares.length m.shares.length, .slice As0_4 m.outs.length m.outs.length] (w2.heap.size) (w3.heap.size) := by
  intro v hv k hk
  simp only [List.mem_cons, List.not_mem_nil, or_false] at hv
  rcases hv with rfl | hv
  ·have h := Os0_0.lt k hk; (try simp at h); omega
  rcases hv with rfl | hv
  ·have h := Os0_1.lt k hk; (try simp at h); omega
  rcases hv with rfl | hv
  ·have h := Os0_2.lt k hk; (try simp at h); omega
  rcases hv with rfl | hv
  ·have h := Os0_3.lt k hk; (try simp at h); omega
  subst hv
  have h := Os0_4.lt k hk
  (try simp at h)
  omega
 obtain ⟨X1_0, X1_1, X1_2, X1_3, X1_4, X1_5, X1_6, X1_7⟩ := X1.cs8
 go_wp2_with fail
 refine (toActS_is Aal cal al hal' _ (Ral.below (bth HB bel))).mono ?_
 rintro e w4 ⟨As1, rfl, Os1, hb4⟩
 clear X1_0 X1_1 X1_2 X1_3 X1_4 X1_5 X1_6 X1_7; have hq4 : Below w3.heap.size w3 w4 := bth bel hb4; have z4 := hq4.size; replace HB := bth HB hq4; replace Os0_0 := Os0_0.later hq4; replace Os0_1 := Os0_1.later hq4; replace Os0_2 := Os0_2.later hq4; replace Os0_3 := Os0_3.later hq4; replace Os0_4 := Os0_4.later hq4; replace X1 := X1.to hq4
 have ins1 : Within [.slice As1 al.length al.length] (w3.heap.size) (w4.heap.size) := by
  intro v hv k hk
  simp only [List.mem_cons, List.not_mem_nil, or_false] at hv
  subst hv
  have h := Os1.lt k hk
  (try simp at h)
  omega
 obtain ⟨X1_0, X1_1, X1_2, X1_3, X1_4, X1_5, X1_6, X1_7⟩ := X1.cs8
 go_wp2_with fail
 refine (sRunL_is m As0_0 As0_1 As0_2 As0_3 As0_4 m.rules.length m.pend.length m.wait.length m.shares.length m.outs.length hm_0' hm_1' hm_2' hm_3' hm_4' As1 al.length al hal' _ (Os0_0.rds.below bel) (Os0_1.rds.below bel) (Os0_2.rds.below bel) (Os0_3.rds.below bel) (Os0_4.rds.below bel) (Os1.rds.below bel) Os0_0.nilOk Os0_1.nilOk Os0_2.nilOk Os0_3.nilOk Os0_4.nilOk Os1.nilOk (Nat.le_refl _) (Nat.le_refl _) (Nat.le_refl _) (Nat.le_refl _) (Nat.le_refl _) (Nat.le_refl _)).mono ?_
 rintro e w5 ⟨Aw0_0, cw0_0, Aw0_1, cw0_1, Aw0_2, cw0_2, Aw0_3, cw0_3, Aw0_4, cw0_4, rfl, Ow0_0, Ow0_1, Ow0_2, Ow0_3, Ow0_4, apw0, hb5⟩
 clear X1_0 X1_1 X1_2 X1_3 X1_4 X1_5 X1_6 X1_7; have hq5 : Below w4.heap.size w4 w5 := bth bel hb5; have z5 := hq5.size; replace HB := bth HB hq5; replace Os0_0 := Os0_0.later hq5; replace Os0_1 := Os0_1.later hq5; replace Os0_2 := Os0_2.later hq5; replace Os0_3 := Os0_3.later hq5; replace Os0_4 := Os0_4.later hq5; replace Os1 := Os1.later hq5; replace X1 := X1.to hq5
 have inw0 : Within [.slice Aw0_0 (runM m al).rules.length cw0_0, .slice Aw0_1 (runM m al).pend.length cw0_1, .slice Aw0_2 (runM m al).wait.length cw0_2, .slice Aw0_3 (runM m al).shares.length cw0_3, .slice Aw0_4 (runM m al).outs.length cw0_4] (w4.heap.size) (w5.heap.size) := by
  exact zb53
 have X1_l0 : w.heap.size < w5.heap.size := by have h := X1.lt; omega
 obtain ⟨X1_0, X1_1, X1_2, X1_3, X1_4, X1_5, X1_6, X1_7⟩ := X1.cs8
 go_wp2_with fail
 refine (toMeeting_is m Am_0 Am_1 Am_2 Am_3 Am_4 cm_0 cm_1 cm_2 cm_3 cm_4 hm_0' hm_1' hm_2' hm_3' hm_4' _ (Rm_0.below (bth HB bel)) (Rm_1.below (bth HB bel)) (Rm_2.below (bth HB bel)) (Rm_3.below (bth HB bel)) (Rm_4.below (bth HB bel))).mono ?_
 rintro e w6 ⟨Ax0_0, Ax0_1, Ax0_2, Ax0_3, Ax0_4, rfl, Ox0_0, Ox0_1, Ox0_2, Ox0_3, Ox0_4, apx0, hb6⟩
 clear X1_l0 X1_0 X1_1 X1_2 X1_3 X1_4 X1_5 X1_6 X1_7; have hq6 : Below w5.heap.size w5 w6 := bth bel hb6; have z6 := hq6.size; replace HB := bth HB hq6; replace Ow0_0 := Ow0_0.later hq6; replace Ow0_1 := Ow0_1.later hq6; replace Ow0_2 := Ow0_2.later hq6; replace Ow0_3 := Ow0_3.later hq6; replace Ow0_4 := Ow0_4.later hq6; replace X1 := X1.to hq6; have X2 : Blk w6 (w5.heap.size) 32 #[.slice Aw0_0 (runM m al).rules.length cw0_0, .slice Aw0_1 (runM m al).pend.length cw0_1, .int .i64 (runM m al).turns, .int .i64 (runM m al).secs, .int .i64 (runM m al).spk, .slice Aw0_2 (runM m al).wait.length cw0_2, .slice Aw0_3 (runM m al).shares.length cw0_3, .slice Aw0_4 (runM m al).outs.length cw0_4] := Blk.below (by repeat (first | exact Blk.new _ _ _ | exact Blk.new2 _ _ _ _ | exact Blk.new3 _ _ _ _ _ | refine Blk.alloc ?_ _)) hb6 (by simp <;> omega)
 have yX2 := X2.lt
 have inx0 : Within [.slice Ax0_0 m.rules.length m.rules.length, .slice Ax0_1 m.pend.length m.pend.length, .slice Ax0_2 m.wait.length m.wait.length, .slice Ax0_3 m.shares.length m.shares.length, .slice Ax0_4 m.outs.length m.outs.length] (w5.heap.size + 1) (w6.heap.size) := by
  exact zb54
 have X1_l0 : w.heap.size < w6.heap.size := by have h := X1.lt; omega
 obtain ⟨X1_0, X1_1, X1_2, X1_3, X1_4, X1_5, X1_6, X1_7⟩ := X1.cs8
 have X2_l0 : w5.heap.size < w6.heap.size := by have h := X2.lt; omega
 have X2_' := X2.cs8
 go_wp2_with fail
 refine (toActS_is Aal cal al hal' _ (Ral.below (bth HB bel))).mono ?_
 rintro e w7 ⟨Ax1, rfl, Ox1, hb7⟩
 clear X1_l0 X1_0 X1_1 X1_2 X1_3 X1_4 X1_5 X1_6 X1_7; clear X2_l0 X2_'; have hq7 : Below w6.heap.size w6 w7 := bth bel hb7; have z7 := hq7.size; replace HB := bth HB hq7; replace Ow0_0 := Ow0_0.later hq7; replace Ow0_1 := Ow0_1.later hq7; replace Ow0_2 := Ow0_2.later hq7; replace Ow0_3 := Ow0_3.later hq7; replace Ow0_4 := Ow0_4.later hq7; replace Ox0_0 := Ox0_0.later hq7; replace Ox0_1 := Ox0_1.later hq7
 replace Ox0_2 := Ox0_2.later hq7; replace Ox0_3 := Ox0_3.later hq7; replace Ox0_4 := Ox0_4.later hq7; replace X1 := X1.to hq7; replace X2 := X2.to hq7; have X3 : Blk w7 (w6.heap.size) 32 #[.slice Ax0_0 m.rules.length m.rules.length, .slice Ax0_1 m.pend.length m.pend.length, .int .i64 m.turns, .int .i64 m.secs, .int .i64 m.spk, .slice Ax0_2 m.wait.length m.wait.length, .slice Ax0_3 m.shares.length m.shares.length, .slice Ax0_4 m.outs.length m.outs.length] := Blk.below (by repeat (first | exact Blk.new _ _ _ | exact Blk.new2 _ _ _ _ | exact Blk.new3 _ _ _ _ _ | refine Blk.alloc ?_ _)) hb7 (by simp <;> omega)
 have yX3 := X3.lt
 have inx1 : Within [.slice Ax1 al.length al.length] (w6.heap.size + 1) (w7.heap.size) := by
  intro v hv k hk
  simp only [List.mem_cons, List.not_mem_nil, or_false] at hv
  subst hv
  have h := Ox1.lt k hk
  (try simp at h)
  omega
 obtain ⟨X1_0, X1_1, X1_2, X1_3, X1_4, X1_5, X1_6, X1_7⟩ := X1.cs8
 have X2_' := X2.cs8
 obtain ⟨X3_0, X3_1, X3_2, X3_3, X3_4, X3_5, X3_6, X3_7⟩ := X3.cs8
 go_wp2_with fail
 refine (iRunL_is m Ax0_0 Ax0_1 Ax0_2 Ax0_3 Ax0_4 m.rules.length m.pend.length m.wait.length m.shares.length m.outs.length hm_0' hm_1' hm_2' hm_3' hm_4' Ax1 al.length al hal' _ (Ox0_0.rds.below bel) (Ox0_1.rds.below bel) (Ox0_2.rds.below bel) (Ox0_3.rds.below bel) (Ox0_4.rds.below bel) (Ox1.rds.below bel) Ox0_0.nilOk Ox0_1.nilOk Ox0_2.nilOk Ox0_3.nilOk Ox0_4.nilOk Ox1.nilOk (Nat.le_refl _) (Nat.le_refl _) (Nat.le_refl _) (Nat.le_refl _) (Nat.le_refl _) (Nat.le_refl _)).mono ?_
 rintro e w8 ⟨Ag0_0, cg0_0, Ag0_1, cg0_1, Ag0_2, cg0_2, Ag0_3, cg0_3, Ag0_4, cg0_4, rfl, Og0_0, Og0_1, Og0_2, Og0_3, Og0_4, apg0, hb8⟩
 clear X1_0 X1_1 X1_2 X1_3 X1_4 X1_5 X1_6 X1_7; clear X2_'; clear X3_0 X3_1 X3_2 X3_3 X3_4 X3_5 X3_6 X3_7; have hq8 : Below w7.heap.size w7 w8 := bth bel hb8; have z8 := hq8.size; replace HB := bth HB hq8; replace Ow0_0 := Ow0_0.later hq8; replace Ow0_1 := Ow0_1.later hq8; replace Ow0_2 := Ow0_2.later hq8; replace Ow0_3 := Ow0_3.later hq8; replace Ow0_4 := Ow0_4.later hq8; replace Ox0_0 := Ox0_0.later hq8
 replace Ox0_1 := Ox0_1.later hq8; replace Ox0_2 := Ox0_2.later hq8; replace Ox0_3 := Ox0_3.later hq8; replace Ox0_4 := Ox0_4.later hq8; replace Ox1 := Ox1.later hq8; replace X1 := X1.to hq8; replace X2 := X2.to hq8; replace X3 := X3.to hq8
 have ing0 : Within [.slice Ag0_0 (runM m al).rules.length cg0_0, .slice Ag0_1 (runM m al).pend.length cg0_1, .slice Ag0_2 (runM m al).wait.length cg0_2, .slice Ag0_3 (runM m al).shares.length cg0_3, .slice Ag0_4 (runM m al).outs.length cg0_4] (w7.heap.size) (w8.heap.size) := by
  exact zb55
 have X1_l0 : w.heap.size < w8.heap.size := by have h := X1.lt; omega
 obtain ⟨X1_0, X1_1, X1_2, X1_3, X1_4, X1_5, X1_6, X1_7⟩ := X1.cs8
 have X2_l0 : w5.heap.size < w8.heap.size := by have h := X2.lt; omega
 have X2_' := X2.cs8
 have X3_l0 : w6.heap.size < w8.heap.size := by have h := X3.lt; omega
 obtain ⟨X3_0, X3_1, X3_2, X3_3, X3_4, X3_5, X3_6, X3_7⟩ := X3.cs8
 go_wp2_with fail
 refine (eqMeeting_is (runM m al) Ag0_0 Ag0_1 Ag0_2 Ag0_3 Ag0_4 Aw0_0 Aw0_1 Aw0_2 Aw0_3 Aw0_4 cg0_0 cg0_1 cg0_2 cg0_3 cg0_4 cw0_0 cw0_1 cw0_2 cw0_3 cw0_4 (ruL0 m al) (ruL1 m al) (ruL2 m al) (ruL3 m al) (ruL4 m al) _ (Og0_0.rds.below bel) (Og0_1.rds.below bel) (Og0_2.rds.below bel) (Og0_3.rds.below bel) (Og0_4.rds.below bel) (Ow0_0.rds.below bel) (Ow0_1.rds.below bel) (Ow0_2.rds.below bel) (Ow0_3.rds.below bel) (Ow0_4.rds.below bel)).mono ?_
 rintro e w9 ⟨rfl, hb9⟩
 clear X1_l0 X1_0 X1_1 X1_2 X1_3 X1_4 X1_5 X1_6 X1_7; clear X2_l0 X2_'; clear X3_l0 X3_0 X3_1 X3_2 X3_3 X3_4 X3_5 X3_6 X3_7; have hq9 : Below w8.heap.size w8 w9 := bth bel hb9; have z9 := hq9.size; replace HB := bth HB hq9; replace Ow0_0 := Ow0_0.later hq9; replace Ow0_1 := Ow0_1.later hq9; replace Ow0_2 := Ow0_2.later hq9; replace Ow0_3 := Ow0_3.later hq9; replace Ow0_4 := Ow0_4.later hq9; replace Ox0_0 := Ox0_0.later hq9
 replace Ox0_1 := Ox0_1.later hq9; replace Ox0_2 := Ox0_2.later hq9; replace Ox0_3 := Ox0_3.later hq9; replace Ox0_4 := Ox0_4.later hq9; replace Ox1 := Ox1.later hq9; replace Og0_0 := Og0_0.later hq9; replace Og0_1 := Og0_1.later hq9; replace Og0_2 := Og0_2.later hq9; replace Og0_3 := Og0_3.later hq9; replace Og0_4 := Og0_4.later hq9; replace X1 := X1.to hq9; replace X2 := X2.to hq9; replace X3 := X3.to hq9
 have X4 : Blk w9 (w8.heap.size) 32 #[.slice Ag0_0 (runM m al).rules.length cg0_0, .slice Ag0_1 (runM m al).pend.length cg0_1, .int .i64 (runM m al).turns, .int .i64 (runM m al).secs, .int .i64 (runM m al).spk, .slice Ag0_2 (runM m al).wait.length cg0_2, .slice Ag0_3 (runM m al).shares.length cg0_3, .slice Ag0_4 (runM m al).outs.length cg0_4] := Blk.below (by repeat (first | exact Blk.new _ _ _ | exact Blk.new2 _ _ _ _ | exact Blk.new3 _ _ _ _ _ | refine Blk.alloc ?_ _)) hb9 (by simp <;> omega)
 have yX4 := X4.lt
 have X1_a : ∀ W, Below w9.heap.size w9 W → Blk W (w.heap.size) 77 #[.slice Am_0 m.rules.length cm_0, .slice Am_1 m.pend.length cm_1, .int .i64 m.turns, .int .i64 m.secs, .int .i64 m.spk, .slice Am_2 m.wait.length cm_2, .slice Am_3 m.shares.length cm_3, .slice Am_4 m.outs.length cm_4] := fun W h => X1.to h
 have X2_a : ∀ W, Below w9.heap.size w9 W → Blk W (w5.heap.size) 32 #[.slice Aw0_0 (runM m al).rules.length cw0_0, .slice Aw0_1 (runM m al).pend.length cw0_1, .int .i64 (runM m al).turns, .int .i64 (runM m al).secs, .int .i64 (runM m al).spk, .slice Aw0_2 (runM m al).wait.length cw0_2, .slice Aw0_3 (runM m al).shares.length cw0_3, .slice Aw0_4 (runM m al).outs.length cw0_4] := fun W h => X2.to h
 have X3_a : ∀ W, Below w9.heap.size w9 W → Blk W (w6.heap.size) 32 #[.slice Ax0_0 m.rules.length m.rules.length, .slice Ax0_1 m.pend.length m.pend.length, .int .i64 m.turns, .int .i64 m.secs, .int .i64 m.spk, .slice Ax0_2 m.wait.length m.wait.length, .slice Ax0_3 m.shares.length m.shares.length, .slice Ax0_4 m.outs.length m.outs.length] := fun W h => X3.to h
 have X4_a : ∀ W, Below w9.heap.size w9 W → Blk W (w8.heap.size) 32 #[.slice Ag0_0 (runM m al).rules.length cg0_0, .slice Ag0_1 (runM m al).pend.length cg0_1, .int .i64 (runM m al).turns, .int .i64 (runM m al).secs, .int .i64 (runM m al).spk, .slice Ag0_2 (runM m al).wait.length cg0_2, .slice Ag0_3 (runM m al).shares.length cg0_3, .slice Ag0_4 (runM m al).outs.length cg0_4] := fun W h => X4.to h
 have X1_0 := fun W hW => ((X1_a W hW).cell 0).trans (show _ = some (.slice Am_0 m.rules.length cm_0) from rfl)
 have X1_1 := fun W hW => ((X1_a W hW).cell 1).trans (show _ = some (.slice Am_1 m.pend.length cm_1) from rfl)
 have X1_2 := fun W hW => ((X1_a W hW).cell 2).trans (show _ = some (.int .i64 m.turns) from rfl)
 have X1_3 := fun W hW => ((X1_a W hW).cell 3).trans (show _ = some (.int .i64 m.secs) from rfl)
 have X1_4 := fun W hW => ((X1_a W hW).cell 4).trans (show _ = some (.int .i64 m.spk) from rfl)
 have X1_5 := fun W hW => ((X1_a W hW).cell 5).trans (show _ = some (.slice Am_2 m.wait.length cm_2) from rfl)
 have X1_6 := fun W hW => ((X1_a W hW).cell 6).trans (show _ = some (.slice Am_3 m.shares.length cm_3) from rfl)
 have X1_7 := fun W hW => ((X1_a W hW).cell 7).trans (show _ = some (.slice Am_4 m.outs.length cm_4) from rfl)
 have X3_0 := fun W hW => ((X3_a W hW).cell 0).trans (show _ = some (.slice Ax0_0 m.rules.length m.rules.length) from rfl)
 have X3_1 := fun W hW => ((X3_a W hW).cell 1).trans (show _ = some (.slice Ax0_1 m.pend.length m.pend.length) from rfl)
 have X3_2 := fun W hW => ((X3_a W hW).cell 2).trans (show _ = some (.int .i64 m.turns) from rfl)
 have X3_3 := fun W hW => ((X3_a W hW).cell 3).trans (show _ = some (.int .i64 m.secs) from rfl)
 have X3_4 := fun W hW => ((X3_a W hW).cell 4).trans (show _ = some (.int .i64 m.spk) from rfl)
 have X3_5 := fun W hW => ((X3_a W hW).cell 5).trans (show _ = some (.slice Ax0_2 m.wait.length m.wait.length) from rfl)
 have X3_6 := fun W hW => ((X3_a W hW).cell 6).trans (show _ = some (.slice Ax0_3 m.shares.length m.shares.length) from rfl)
 have X3_7 := fun W hW => ((X3_a W hW).cell 7).trans (show _ = some (.slice Ax0_4 m.outs.length m.outs.length) from rfl)
 clear X1_a X2_a X3_a X4_a
 go_wp2
 go_region_held3 (fun W => Below w9.heap.size w9 W) (first | exact (Below.refl _ _).drew | assumption) ((first
  | (go_at_call 35; refine (toMeeting_is m Am_0 Am_1 Am_2 Am_3 Am_4 cm_0 cm_1 cm_2 cm_3 cm_4 hm_0' hm_1' hm_2' hm_3' hm_4' _ (Rm_0.below (bth HB (Below.refl _ _).drew)) (Rm_1.below (bth HB (Below.refl _ _).drew)) (Rm_2.below (bth HB (Below.refl _ _).drew)) (Rm_3.below (bth HB (Below.refl _ _).drew)) (Rm_4.below (bth HB (Below.refl _ _).drew))).mono ?_; rintro e w10 ⟨Ay0_0, Ay0_1, Ay0_2, Ay0_3, Ay0_4, rfl, Oy0_0, Oy0_1, Oy0_2, Oy0_3, Oy0_4, _, hb10⟩; have hk10 : Below w9.heap.size w9 w10 := bth (Below.refl _ _).drew hb10)
  | (go_at_call 37; refine (eqMeeting_is m Ax0_0 Ax0_1 Ax0_2 Ax0_3 Ax0_4 Ay0_0 Ay0_1 Ay0_2 Ay0_3 Ay0_4 m.rules.length m.pend.length m.wait.length m.shares.length m.outs.length m.rules.length m.pend.length m.wait.length m.shares.length m.outs.length hm_0' hm_1' hm_2' hm_3' hm_4' _ (Ox0_0.rds.below hk10) (Ox0_1.rds.below hk10) (Ox0_2.rds.below hk10) (Ox0_3.rds.below hk10) (Ox0_4.rds.below hk10) Oy0_0.rds Oy0_1.rds Oy0_2.rds Oy0_3.rds Oy0_4.rds).mono ?_; rintro e w11 ⟨rfl, hb11⟩; have hk11 : Below w9.heap.size w9 w11 := bth hk10 hb11)))
 clear X1_0 X1_1 X1_2 X1_3 X1_4 X1_5 X1_6 X1_7 X3_0 X3_1 X3_2 X3_3 X3_4 X3_5 X3_6 X3_7; have z11 := hk11.size; replace HB := bth HB hk11; replace Ow0_0 := Ow0_0.later hk11; replace Ow0_1 := Ow0_1.later hk11; replace Ow0_2 := Ow0_2.later hk11; replace Ow0_3 := Ow0_3.later hk11; replace Ow0_4 := Ow0_4.later hk11; replace Ox0_0 := Ox0_0.later hk11; replace Ox0_1 := Ox0_1.later hk11; replace Ox0_2 := Ox0_2.later hk11
 replace Ox0_3 := Ox0_3.later hk11; replace Ox0_4 := Ox0_4.later hk11; replace Ox1 := Ox1.later hk11; replace Og0_0 := Og0_0.later hk11; replace Og0_1 := Og0_1.later hk11; replace Og0_2 := Og0_2.later hk11; replace Og0_3 := Og0_3.later hk11; replace Og0_4 := Og0_4.later hk11; replace X1 := X1.to hk11; replace X2 := X2.to hk11; replace X3 := X3.to hk11; replace X4 := X4.to hk11
 obtain ⟨X1_0, X1_1, X1_2, X1_3, X1_4, X1_5, X1_6, X1_7⟩ := X1.cs8
 have X2_' := X2.cs8
 obtain ⟨X3_0, X3_1, X3_2, X3_3, X3_4, X3_5, X3_6, X3_7⟩ := X3.cs8
 have X4_' := X4.cs8
 go_wp2_with fail
 refine (toActS_is Aal cal al hal' _ (Ral.below (bth HB bel))).mono ?_
 rintro e w12 ⟨Ay1, rfl, Oy1, hb12⟩
 clear X1_0 X1_1 X1_2 X1_3 X1_4 X1_5 X1_6 X1_7; clear X2_'; clear X3_0 X3_1 X3_2 X3_3 X3_4 X3_5 X3_6 X3_7; clear X4_'; have hq12 : Below w11.heap.size w11 w12 := bth bel hb12; have z12 := hq12.size; replace HB := bth HB hq12; replace Ow0_0 := Ow0_0.later hq12; replace Ow0_1 := Ow0_1.later hq12; replace Ow0_2 := Ow0_2.later hq12; replace Ow0_3 := Ow0_3.later hq12; replace Ow0_4 := Ow0_4.later hq12; replace Ox0_0 := Ox0_0.later hq12
 replace Ox0_1 := Ox0_1.later hq12; replace Ox0_2 := Ox0_2.later hq12; replace Ox0_3 := Ox0_3.later hq12; replace Ox0_4 := Ox0_4.later hq12; replace Ox1 := Ox1.later hq12; replace Og0_0 := Og0_0.later hq12; replace Og0_1 := Og0_1.later hq12; replace Og0_2 := Og0_2.later hq12; replace Og0_3 := Og0_3.later hq12; replace Og0_4 := Og0_4.later hq12; replace X1 := X1.to hq12; replace X2 := X2.to hq12; replace X3 := X3.to hq12
 replace X4 := X4.to hq12
 have iny1 : Within [.slice Ay1 al.length al.length] (w11.heap.size) (w12.heap.size) := by
  intro v hv k hk
  simp only [List.mem_cons, List.not_mem_nil, or_false] at hv
  subst hv
  have h := Oy1.lt k hk
  (try simp at h)
  omega
 obtain ⟨X1_0, X1_1, X1_2, X1_3, X1_4, X1_5, X1_6, X1_7⟩ := X1.cs8
 have X2_' := X2.cs8
 obtain ⟨X3_0, X3_1, X3_2, X3_3, X3_4, X3_5, X3_6, X3_7⟩ := X3.cs8
 have X4_' := X4.cs8
 go_wp2_with fail
 refine (eqActS_is Ax1 Ay1 al.length al.length al hal' _ (Ox1.rds.below bel) (Oy1.rds.below bel)).mono ?_
 rintro e w13 ⟨rfl, hb13⟩
 clear X1_0 X1_1 X1_2 X1_3 X1_4 X1_5 X1_6 X1_7; clear X2_'; clear X3_0 X3_1 X3_2 X3_3 X3_4 X3_5 X3_6 X3_7; clear X4_'; have hq13 : Below w12.heap.size w12 w13 := bth bel hb13; have z13 := hq13.size; replace HB := bth HB hq13; replace Ow0_0 := Ow0_0.later hq13; replace Ow0_1 := Ow0_1.later hq13; replace Ow0_2 := Ow0_2.later hq13; replace Ow0_3 := Ow0_3.later hq13; replace Ow0_4 := Ow0_4.later hq13; replace Ox0_0 := Ox0_0.later hq13
 replace Ox0_1 := Ox0_1.later hq13; replace Ox0_2 := Ox0_2.later hq13; replace Ox0_3 := Ox0_3.later hq13; replace Ox0_4 := Ox0_4.later hq13; replace Ox1 := Ox1.later hq13; replace Og0_0 := Og0_0.later hq13; replace Og0_1 := Og0_1.later hq13; replace Og0_2 := Og0_2.later hq13; replace Og0_3 := Og0_3.later hq13; replace Og0_4 := Og0_4.later hq13; replace Oy1 := Oy1.later hq13; replace X1 := X1.to hq13
 replace X2 := X2.to hq13; replace X3 := X3.to hq13; replace X4 := X4.to hq13
 obtain ⟨X1_0, X1_1, X1_2, X1_3, X1_4, X1_5, X1_6, X1_7⟩ := X1.cs8
 have X2_' := X2.cs8
 obtain ⟨X3_0, X3_1, X3_2, X3_3, X3_4, X3_5, X3_6, X3_7⟩ := X3.cs8
 have X4_' := X4.cs8
 go_wp2_with fail
 refine (mkMeeting_is m Ax0_0 Ax0_1 Ax0_2 Ax0_3 Ax0_4 m.rules.length m.pend.length m.wait.length m.shares.length m.outs.length hm_0' hm_1' hm_2' hm_3' hm_4' (1) (by omega) (by omega) _ Ox0_0 Ox0_1 Ox0_2 Ox0_3 Ox0_4 apx0).mono ?_
 rintro e w14 ⟨rfl, M14_0, M14_1, M14_2, M14_3, M14_4, HG14⟩
 clear X1_0 X1_1 X1_2 X1_3 X1_4 X1_5 X1_6 X1_7; clear X2_'; clear X3_0 X3_1 X3_2 X3_3 X3_4 X3_5 X3_6 X3_7; clear X4_'; have z14 := HG14.size; replace HB := HB.trans (HG14.below inx0 (by omega) HB.size); replace Ow0_0 := Ow0_0.keptL HG14 inw0 inx0 (by simp) (by omega); replace Ow0_1 := Ow0_1.keptL HG14 inw0 inx0 (by simp) (by omega); replace Ow0_2 := Ow0_2.keptL HG14 inw0 inx0 (by simp) (by omega); replace Ow0_3 := Ow0_3.keptL HG14 inw0 inx0 (by simp) (by omega)
 replace Ow0_4 := Ow0_4.keptL HG14 inw0 inx0 (by simp) (by omega); replace Ox1 := Ox1.keptL HG14 inx1 inx0 (by simp) (by omega); replace Og0_0 := Og0_0.keptL HG14 ing0 inx0 (by simp) (by omega); replace Og0_1 := Og0_1.keptL HG14 ing0 inx0 (by simp) (by omega); replace Og0_2 := Og0_2.keptL HG14 ing0 inx0 (by simp) (by omega); replace Og0_3 := Og0_3.keptL HG14 ing0 inx0 (by simp) (by omega); replace Og0_4 := Og0_4.keptL HG14 ing0 inx0 (by simp) (by omega)
 replace X1 := X1.keptL HG14 inx0 (by omega); replace X2 := X2.keptL HG14 inx0 (by omega); replace X3 := X3.keptL HG14 inx0 (by omega); replace X4 := X4.keptL HG14 inx0 (by omega)
 obtain ⟨X1_0, X1_1, X1_2, X1_3, X1_4, X1_5, X1_6, X1_7⟩ := X1.cs8
 have X2_' := X2.cs8
 obtain ⟨X3_0, X3_1, X3_2, X3_3, X3_4, X3_5, X3_6, X3_7⟩ := X3.cs8
 have X4_' := X4.cs8
 go_wp2_with fail
 refine (mkActS_is _ Ax1 al.length al hal' (1 + 7 * (m.rules.length : Int) + 3 * (m.pend.length : Int) + (m.wait.length : Int) + 3 * (m.shares.length : Int) + 3 * (m.outs.length : Int)) (by omega) (by omega) _ Ox1).mono ?_
 rintro e w15 ⟨rfl, M15_0, hg15⟩
 have HG15 := grownL_one hg15; clear X1_0 X1_1 X1_2 X1_3 X1_4 X1_5 X1_6 X1_7; clear X2_'; clear X3_0 X3_1 X3_2 X3_3 X3_4 X3_5 X3_6 X3_7; clear X4_'; have z15 := HG15.size; replace HB := HB.trans (HG15.below inx1 (by omega) HB.size); replace Ow0_0 := Ow0_0.keptL HG15 inw0 inx1 (by simp) (by omega); replace Ow0_1 := Ow0_1.keptL HG15 inw0 inx1 (by simp) (by omega); replace Ow0_2 := Ow0_2.keptL HG15 inw0 inx1 (by simp) (by omega)
 replace Ow0_3 := Ow0_3.keptL HG15 inw0 inx1 (by simp) (by omega); replace Ow0_4 := Ow0_4.keptL HG15 inw0 inx1 (by simp) (by omega); replace M14_0 := M14_0.keptL HG15 inx0 inx1 (by simp) (by omega); replace M14_1 := M14_1.keptL HG15 inx0 inx1 (by simp) (by omega); replace M14_2 := M14_2.keptL HG15 inx0 inx1 (by simp) (by omega); replace M14_3 := M14_3.keptL HG15 inx0 inx1 (by simp) (by omega); replace M14_4 := M14_4.keptL HG15 inx0 inx1 (by simp) (by omega)
 replace Og0_0 := Og0_0.keptL HG15 ing0 inx1 (by simp) (by omega); replace Og0_1 := Og0_1.keptL HG15 ing0 inx1 (by simp) (by omega); replace Og0_2 := Og0_2.keptL HG15 ing0 inx1 (by simp) (by omega); replace Og0_3 := Og0_3.keptL HG15 ing0 inx1 (by simp) (by omega); replace Og0_4 := Og0_4.keptL HG15 ing0 inx1 (by simp) (by omega); replace X1 := X1.keptL HG15 inx1 (by omega); replace X2 := X2.keptL HG15 inx1 (by omega)
 replace X3 := X3.keptL HG15 inx1 (by omega); replace X4 := X4.keptL HG15 inx1 (by omega)
 obtain ⟨X1_0, X1_1, X1_2, X1_3, X1_4, X1_5, X1_6, X1_7⟩ := X1.cs8
 have X2_' := X2.cs8
 obtain ⟨X3_0, X3_1, X3_2, X3_3, X3_4, X3_5, X3_6, X3_7⟩ := X3.cs8
 have X4_' := X4.cs8
 go_wp2_with fail
 refine (eqMeeting_is (runM m al) Ag0_0 Ag0_1 Ag0_2 Ag0_3 Ag0_4 Aw0_0 Aw0_1 Aw0_2 Aw0_3 Aw0_4 cg0_0 cg0_1 cg0_2 cg0_3 cg0_4 cw0_0 cw0_1 cw0_2 cw0_3 cw0_4 (ruL0 m al) (ruL1 m al) (ruL2 m al) (ruL3 m al) (ruL4 m al) _ (Og0_0.rds.below bel) (Og0_1.rds.below bel) (Og0_2.rds.below bel) (Og0_3.rds.below bel) (Og0_4.rds.below bel) (Ow0_0.rds.below bel) (Ow0_1.rds.below bel) (Ow0_2.rds.below bel) (Ow0_3.rds.below bel) (Ow0_4.rds.below bel)).mono ?_
 rintro e w16 ⟨rfl, hb16⟩
 clear X1_0 X1_1 X1_2 X1_3 X1_4 X1_5 X1_6 X1_7; clear X2_'; clear X3_0 X3_1 X3_2 X3_3 X3_4 X3_5 X3_6 X3_7; clear X4_'; have hq16 : Below w15.heap.size w15 w16 := bth bel hb16; have z16 := hq16.size; replace HB := bth HB hq16; replace Ow0_0 := Ow0_0.later hq16; replace Ow0_1 := Ow0_1.later hq16; replace Ow0_2 := Ow0_2.later hq16; replace Ow0_3 := Ow0_3.later hq16; replace Ow0_4 := Ow0_4.later hq16; replace Og0_0 := Og0_0.later hq16
 replace Og0_1 := Og0_1.later hq16; replace Og0_2 := Og0_2.later hq16; replace Og0_3 := Og0_3.later hq16; replace Og0_4 := Og0_4.later hq16; replace X1 := X1.to hq16; replace X2 := X2.to hq16; replace X3 := X3.to hq16; replace X4 := X4.to hq16
 obtain ⟨X1_0, X1_1, X1_2, X1_3, X1_4, X1_5, X1_6, X1_7⟩ := X1.cs8
 have X2_' := X2.cs8
 obtain ⟨X3_0, X3_1, X3_2, X3_3, X3_4, X3_5, X3_6, X3_7⟩ := X3.cs8
 have X4_' := X4.cs8
 go_wp2_with fail
 refine (mkMeeting_is (runM m al) Ag0_0 Ag0_1 Ag0_2 Ag0_3 Ag0_4 cg0_0 cg0_1 cg0_2 cg0_3 cg0_4 (ruL0 m al) (ruL1 m al) (ruL2 m al) (ruL3 m al) (ruL4 m al) (1) (by omega) (by omega) _ Og0_0 Og0_1 Og0_2 Og0_3 Og0_4 apg0).mono ?_
 rintro e w17 ⟨rfl, M17_0, M17_1, M17_2, M17_3, M17_4, HG17⟩
 clear X1_0 X1_1 X1_2 X1_3 X1_4 X1_5 X1_6 X1_7; clear X2_'; clear X3_0 X3_1 X3_2 X3_3 X3_4 X3_5 X3_6 X3_7; clear X4_'; have z17 := HG17.size; replace HB := HB.trans (HG17.below ing0 (by omega) HB.size); replace Ow0_0 := Ow0_0.keptL HG17 inw0 ing0 (by simp) (by omega); replace Ow0_1 := Ow0_1.keptL HG17 inw0 ing0 (by simp) (by omega); replace Ow0_2 := Ow0_2.keptL HG17 inw0 ing0 (by simp) (by omega); replace Ow0_3 := Ow0_3.keptL HG17 inw0 ing0 (by simp) (by omega)
 replace Ow0_4 := Ow0_4.keptL HG17 inw0 ing0 (by simp) (by omega); replace X1 := X1.keptL HG17 ing0 (by omega); replace X2 := X2.keptL HG17 ing0 (by omega); replace X3 := X3.keptL HG17 ing0 (by omega); replace X4 := X4.keptL HG17 ing0 (by omega)
 obtain ⟨X1_0, X1_1, X1_2, X1_3, X1_4, X1_5, X1_6, X1_7⟩ := X1.cs8
 have X2_' := X2.cs8
 obtain ⟨X3_0, X3_1, X3_2, X3_3, X3_4, X3_5, X3_6, X3_7⟩ := X3.cs8
 have X4_' := X4.cs8
 go_wp2_with fail
 refine (hdMeeting_is (runM m al) Ag0_0 Ag0_1 Ag0_2 Ag0_3 Ag0_4 cg0_0 cg0_1 cg0_2 cg0_3 cg0_4 (ruL0 m al) (ruL1 m al) (ruL2 m al) (ruL3 m al) (ruL4 m al) (1) (by omega) (by omega) _ (M17_0.rds.below bel) (M17_1.rds.below bel) (M17_2.rds.below bel) (M17_3.rds.below bel) (M17_4.rds.below bel)).mono ?_
 rintro e w18 ⟨rfl, hb18⟩
 clear X1_0 X1_1 X1_2 X1_3 X1_4 X1_5 X1_6 X1_7; clear X2_'; clear X3_0 X3_1 X3_2 X3_3 X3_4 X3_5 X3_6 X3_7; clear X4_'; have hq18 : Below w17.heap.size w17 w18 := bth bel hb18; have z18 := hq18.size; replace HB := bth HB hq18; replace Ow0_0 := Ow0_0.later hq18; replace Ow0_1 := Ow0_1.later hq18; replace Ow0_2 := Ow0_2.later hq18; replace Ow0_3 := Ow0_3.later hq18; replace Ow0_4 := Ow0_4.later hq18; replace M17_0 := M17_0.later hq18
 replace M17_1 := M17_1.later hq18; replace M17_2 := M17_2.later hq18; replace M17_3 := M17_3.later hq18; replace M17_4 := M17_4.later hq18; replace X1 := X1.to hq18; replace X2 := X2.to hq18; replace X3 := X3.to hq18; replace X4 := X4.to hq18
 obtain ⟨X1_0, X1_1, X1_2, X1_3, X1_4, X1_5, X1_6, X1_7⟩ := X1.cs8
 have X2_' := X2.cs8
 obtain ⟨X3_0, X3_1, X3_2, X3_3, X3_4, X3_5, X3_6, X3_7⟩ := X3.cs8
 have X4_' := X4.cs8
 go_wp2_with fail
 refine (toMeeting_is m Am_0 Am_1 Am_2 Am_3 Am_4 cm_0 cm_1 cm_2 cm_3 cm_4 hm_0' hm_1' hm_2' hm_3' hm_4' _ (Rm_0.below (bth HB bel)) (Rm_1.below (bth HB bel)) (Rm_2.below (bth HB bel)) (Rm_3.below (bth HB bel)) (Rm_4.below (bth HB bel))).mono ?_
 rintro e w19 ⟨At0_0, At0_1, At0_2, At0_3, At0_4, rfl, Ot0_0, Ot0_1, Ot0_2, Ot0_3, Ot0_4, apt0, hb19⟩
 clear X1_0 X1_1 X1_2 X1_3 X1_4 X1_5 X1_6 X1_7; clear X2_'; clear X3_0 X3_1 X3_2 X3_3 X3_4 X3_5 X3_6 X3_7; clear X4_'; have hq19 : Below w18.heap.size w18 w19 := bth bel hb19; have z19 := hq19.size; replace HB := bth HB hq19; replace Ow0_0 := Ow0_0.later hq19; replace Ow0_1 := Ow0_1.later hq19; replace Ow0_2 := Ow0_2.later hq19; replace Ow0_3 := Ow0_3.later hq19; replace Ow0_4 := Ow0_4.later hq19; replace M17_0 := M17_0.later hq19
 replace M17_1 := M17_1.later hq19; replace M17_2 := M17_2.later hq19; replace M17_3 := M17_3.later hq19; replace M17_4 := M17_4.later hq19; replace X1 := X1.to hq19; replace X2 := X2.to hq19; replace X3 := X3.to hq19; replace X4 := X4.to hq19
 have int0 : Within [.slice At0_0 m.rules.length m.rules.length, .slice At0_1 m.pend.length m.pend.length, .slice At0_2 m.wait.length m.wait.length, .slice At0_3 m.shares.length m.shares.length, .slice At0_4 m.outs.length m.outs.length] (w18.heap.size) (w19.heap.size) := by
  intro v hv k hk
  simp only [List.mem_cons, List.not_mem_nil, or_false] at hv
  rcases hv with rfl | hv
  ·have h := Ot0_0.lt k hk; (try simp at h); omega
  rcases hv with rfl | hv
  ·have h := Ot0_1.lt k hk; (try simp at h); omega
  rcases hv with rfl | hv
  ·have h := Ot0_2.lt k hk; (try simp at h); omega
  rcases hv with rfl | hv
  ·have h := Ot0_3.lt k hk; (try simp at h); omega
  subst hv
  have h := Ot0_4.lt k hk
  (try simp at h)
  omega
 obtain ⟨X1_0, X1_1, X1_2, X1_3, X1_4, X1_5, X1_6, X1_7⟩ := X1.cs8
 have X2_' := X2.cs8
 obtain ⟨X3_0, X3_1, X3_2, X3_3, X3_4, X3_5, X3_6, X3_7⟩ := X3.cs8
 have X4_' := X4.cs8
 go_wp2_with fail
 refine (toActS_is Aal cal al hal' _ (Ral.below (bth HB bel))).mono ?_
 rintro e w20 ⟨At1, rfl, Ot1, hb20⟩
 clear X1_0 X1_1 X1_2 X1_3 X1_4 X1_5 X1_6 X1_7; clear X2_'; clear X3_0 X3_1 X3_2 X3_3 X3_4 X3_5 X3_6 X3_7; clear X4_'; have hq20 : Below w19.heap.size w19 w20 := bth bel hb20; have z20 := hq20.size; replace HB := bth HB hq20; replace Ow0_0 := Ow0_0.later hq20; replace Ow0_1 := Ow0_1.later hq20; replace Ow0_2 := Ow0_2.later hq20; replace Ow0_3 := Ow0_3.later hq20; replace Ow0_4 := Ow0_4.later hq20; replace M17_0 := M17_0.later hq20
 replace M17_1 := M17_1.later hq20; replace M17_2 := M17_2.later hq20; replace M17_3 := M17_3.later hq20; replace M17_4 := M17_4.later hq20; replace Ot0_0 := Ot0_0.later hq20; replace Ot0_1 := Ot0_1.later hq20; replace Ot0_2 := Ot0_2.later hq20; replace Ot0_3 := Ot0_3.later hq20; replace Ot0_4 := Ot0_4.later hq20; replace X1 := X1.to hq20; replace X2 := X2.to hq20; replace X3 := X3.to hq20; replace X4 := X4.to hq20
 have int1 : Within [.slice At1 al.length al.length] (w19.heap.size) (w20.heap.size) := by
  intro v hv k hk
  simp only [List.mem_cons, List.not_mem_nil, or_false] at hv
  subst hv
  have h := Ot1.lt k hk
  (try simp at h)
  omega
 obtain ⟨X1_0, X1_1, X1_2, X1_3, X1_4, X1_5, X1_6, X1_7⟩ := X1.cs8
 have X2_' := X2.cs8
 obtain ⟨X3_0, X3_1, X3_2, X3_3, X3_4, X3_5, X3_6, X3_7⟩ := X3.cs8
 have X4_' := X4.cs8
 go_wp2_with fail
 refine (iRunL_is m At0_0 At0_1 At0_2 At0_3 At0_4 m.rules.length m.pend.length m.wait.length m.shares.length m.outs.length hm_0' hm_1' hm_2' hm_3' hm_4' At1 al.length al hal' _ (Ot0_0.rds.below bel) (Ot0_1.rds.below bel) (Ot0_2.rds.below bel) (Ot0_3.rds.below bel) (Ot0_4.rds.below bel) (Ot1.rds.below bel) Ot0_0.nilOk Ot0_1.nilOk Ot0_2.nilOk Ot0_3.nilOk Ot0_4.nilOk Ot1.nilOk (Nat.le_refl _) (Nat.le_refl _) (Nat.le_refl _) (Nat.le_refl _) (Nat.le_refl _) (Nat.le_refl _)).mono ?_
 rintro e w21 ⟨Ah0_0, ch0_0, Ah0_1, ch0_1, Ah0_2, ch0_2, Ah0_3, ch0_3, Ah0_4, ch0_4, rfl, Oh0_0, Oh0_1, Oh0_2, Oh0_3, Oh0_4, aph0, hb21⟩
 clear X1_0 X1_1 X1_2 X1_3 X1_4 X1_5 X1_6 X1_7; clear X2_'; clear X3_0 X3_1 X3_2 X3_3 X3_4 X3_5 X3_6 X3_7; clear X4_'; have hq21 : Below w20.heap.size w20 w21 := bth bel hb21; have z21 := hq21.size; replace HB := bth HB hq21; replace Ow0_0 := Ow0_0.later hq21; replace Ow0_1 := Ow0_1.later hq21; replace Ow0_2 := Ow0_2.later hq21; replace Ow0_3 := Ow0_3.later hq21; replace Ow0_4 := Ow0_4.later hq21; replace M17_0 := M17_0.later hq21
 replace M17_1 := M17_1.later hq21; replace M17_2 := M17_2.later hq21; replace M17_3 := M17_3.later hq21; replace M17_4 := M17_4.later hq21; replace Ot0_0 := Ot0_0.later hq21; replace Ot0_1 := Ot0_1.later hq21; replace Ot0_2 := Ot0_2.later hq21; replace Ot0_3 := Ot0_3.later hq21; replace Ot0_4 := Ot0_4.later hq21; replace Ot1 := Ot1.later hq21; replace X1 := X1.to hq21; replace X2 := X2.to hq21; replace X3 := X3.to hq21
 replace X4 := X4.to hq21
 have inh0 : Within [.slice Ah0_0 (runM m al).rules.length ch0_0, .slice Ah0_1 (runM m al).pend.length ch0_1, .slice Ah0_2 (runM m al).wait.length ch0_2, .slice Ah0_3 (runM m al).shares.length ch0_3, .slice Ah0_4 (runM m al).outs.length ch0_4] (w20.heap.size) (w21.heap.size) := by
  intro v hv k hk
  simp only [List.mem_cons, List.not_mem_nil, or_false] at hv
  rcases hv with rfl | hv
  ·have h := Oh0_0.lt k hk; (try simp at h); omega
  rcases hv with rfl | hv
  ·have h := Oh0_1.lt k hk; (try simp at h); omega
  rcases hv with rfl | hv
  ·have h := Oh0_2.lt k hk; (try simp at h); omega
  rcases hv with rfl | hv
  ·have h := Oh0_3.lt k hk; (try simp at h); omega
  subst hv
  have h := Oh0_4.lt k hk
  (try simp at h)
  omega
 have X1_l0 : w.heap.size < w21.heap.size := by have h := X1.lt; omega
 obtain ⟨X1_0, X1_1, X1_2, X1_3, X1_4, X1_5, X1_6, X1_7⟩ := X1.cs8
 have X2_l0 : w5.heap.size < w21.heap.size := by have h := X2.lt; omega
 have X2_' := X2.cs8
 have X3_l0 : w6.heap.size < w21.heap.size := by have h := X3.lt; omega
 obtain ⟨X3_0, X3_1, X3_2, X3_3, X3_4, X3_5, X3_6, X3_7⟩ := X3.cs8
 have X4_l0 : w8.heap.size < w21.heap.size := by have h := X4.lt; omega
 have X4_' := X4.cs8
 go_wp2_with fail
 refine (eqMeeting_is (runM m al) Ah0_0 Ah0_1 Ah0_2 Ah0_3 Ah0_4 Aw0_0 Aw0_1 Aw0_2 Aw0_3 Aw0_4 ch0_0 ch0_1 ch0_2 ch0_3 ch0_4 cw0_0 cw0_1 cw0_2 cw0_3 cw0_4 (ruL0 m al) (ruL1 m al) (ruL2 m al) (ruL3 m al) (ruL4 m al) _ (Oh0_0.rds.below bel) (Oh0_1.rds.below bel) (Oh0_2.rds.below bel) (Oh0_3.rds.below bel) (Oh0_4.rds.below bel) (Ow0_0.rds.below bel) (Ow0_1.rds.below bel) (Ow0_2.rds.below bel) (Ow0_3.rds.below bel) (Ow0_4.rds.below bel)).mono ?_
 rintro e w22 ⟨rfl, hb22⟩
 clear X1_l0 X1_0 X1_1 X1_2 X1_3 X1_4 X1_5 X1_6 X1_7; clear X2_l0 X2_'; clear X3_l0 X3_0 X3_1 X3_2 X3_3 X3_4 X3_5 X3_6 X3_7; clear X4_l0 X4_'; have hq22 : Below w21.heap.size w21 w22 := bth bel hb22; have z22 := hq22.size; replace HB := bth HB hq22; replace Ow0_0 := Ow0_0.later hq22; replace Ow0_1 := Ow0_1.later hq22; replace Ow0_2 := Ow0_2.later hq22; replace Ow0_3 := Ow0_3.later hq22; replace Ow0_4 := Ow0_4.later hq22
 replace M17_0 := M17_0.later hq22; replace M17_1 := M17_1.later hq22; replace M17_2 := M17_2.later hq22; replace M17_3 := M17_3.later hq22; replace M17_4 := M17_4.later hq22; replace Oh0_0 := Oh0_0.later hq22; replace Oh0_1 := Oh0_1.later hq22; replace Oh0_2 := Oh0_2.later hq22; replace Oh0_3 := Oh0_3.later hq22; replace Oh0_4 := Oh0_4.later hq22; replace X1 := X1.to hq22; replace X2 := X2.to hq22
 replace X3 := X3.to hq22; replace X4 := X4.to hq22; have X5 : Blk w22 (w21.heap.size) 32 #[.slice Ah0_0 (runM m al).rules.length ch0_0, .slice Ah0_1 (runM m al).pend.length ch0_1, .int .i64 (runM m al).turns, .int .i64 (runM m al).secs, .int .i64 (runM m al).spk, .slice Ah0_2 (runM m al).wait.length ch0_2, .slice Ah0_3 (runM m al).shares.length ch0_3, .slice Ah0_4 (runM m al).outs.length ch0_4] := Blk.below (by repeat (first | exact Blk.new _ _ _ | exact Blk.new2 _ _ _ _ | exact Blk.new3 _ _ _ _ _ | refine Blk.alloc ?_ _)) hb22 (by simp <;> omega)
 have yX5 := X5.lt
 obtain ⟨X1_0, X1_1, X1_2, X1_3, X1_4, X1_5, X1_6, X1_7⟩ := X1.cs8
 have X2_' := X2.cs8
 obtain ⟨X3_0, X3_1, X3_2, X3_3, X3_4, X3_5, X3_6, X3_7⟩ := X3.cs8
 have X4_' := X4.cs8; have X5_' := X5.cs8
 go_wp2_with fail
 refine (hdMeeting_is (runM m al) Ag0_0 Ag0_1 Ag0_2 Ag0_3 Ag0_4 cg0_0 cg0_1 cg0_2 cg0_3 cg0_4 (ruL0 m al) (ruL1 m al) (ruL2 m al) (ruL3 m al) (ruL4 m al) (1) (by omega) (by omega) _ (M17_0.rds.below bel) (M17_1.rds.below bel) (M17_2.rds.below bel) (M17_3.rds.below bel) (M17_4.rds.below bel)).mono ?_
 rintro e w23 ⟨rfl, hb23⟩
 clear X1_0 X1_1 X1_2 X1_3 X1_4 X1_5 X1_6 X1_7; clear X2_'; clear X3_0 X3_1 X3_2 X3_3 X3_4 X3_5 X3_6 X3_7; clear X4_'; clear X5_'; have hq23 : Below w22.heap.size w22 w23 := bth bel hb23; have z23 := hq23.size; replace HB := bth HB hq23; replace Ow0_0 := Ow0_0.later hq23; replace Ow0_1 := Ow0_1.later hq23; replace Ow0_2 := Ow0_2.later hq23; replace Ow0_3 := Ow0_3.later hq23; replace Ow0_4 := Ow0_4.later hq23
 replace M17_0 := M17_0.later hq23; replace M17_1 := M17_1.later hq23; replace M17_2 := M17_2.later hq23; replace M17_3 := M17_3.later hq23; replace M17_4 := M17_4.later hq23; replace Oh0_0 := Oh0_0.later hq23; replace Oh0_1 := Oh0_1.later hq23; replace Oh0_2 := Oh0_2.later hq23; replace Oh0_3 := Oh0_3.later hq23; replace Oh0_4 := Oh0_4.later hq23; replace X1 := X1.to hq23; replace X2 := X2.to hq23
 replace X3 := X3.to hq23; replace X4 := X4.to hq23; replace X5 := X5.to hq23
 obtain ⟨X1_0, X1_1, X1_2, X1_3, X1_4, X1_5, X1_6, X1_7⟩ := X1.cs8
 have X2_' := X2.cs8
 obtain ⟨X3_0, X3_1, X3_2, X3_3, X3_4, X3_5, X3_6, X3_7⟩ := X3.cs8
 have X4_' := X4.cs8; have X5_' := X5.cs8
 go_wp2
 go_ret
 exact ⟨rfl, bth HB bel⟩
open Go.ChangeShapes Go.WideShapes Go.ChangeAt Go.Deep
theorem runActsL_lifted (os : Os) (started : os.Started) (H : Type) (enc : TypeId × Value → H) :
  ReturnsInHanded {} Tryz.checked os 6 .any (Rows.fnExactRunActsSpec.pre6 enc Tryz.prog Tryz.f6 Rows.fnExactRunActsRow.domain false) (Rows.fnExactRunActsSpec.post enc Tryz.prog Tryz.f6 false true false false) := by
 refine law_lift (C := Tryz.checked) (rt := 4) prog_own started (by kernel_rfl) Tryz.func6
  (ChangeSpec.witness6 (enc := enc) (C := Tryz.checked) false ⟨#[], #[.agg #[.slice none 0 0, .slice none 0 0, .int .i64 0, .int .i64 0, .int .i64 0, .slice none 0 0, .slice none 0 0, .slice none 0 0],  .slice none 0 0], []⟩ 8 (by kernel_rfl) (by kernel_rfl) (by kernel_rfl) (by kernel_rfl))
  prog_laid (by rw [Tryz.params6]; intro t ht; simp at ht; rcases ht with rfl | rfl; all_goals exact ⟨by kernel_rfl, of_decide_eq_true (by kernel_rfl)⟩) rfl Tryz.underlying4 rfl
  (by rw [Tryz.params6]; intro l hl; match l, hl with | [d0, d1], _ => rfl) ?_
 intro W base args ds p hval hA
 rw [Tryz.params6] at hA hval
 obtain ⟨v0, v1, d0, d1, p0, p1, rfl, rfl, rfl, h0, h1⟩ := trodAll_two hA
 obtain ⟨a_al, len_al, cap_al, rfl⟩ := okWide_slice Tryz.underlying86 (hval 1 86 v1 rfl rfl)
 obtain ⟨fuel_al, f_al⟩ := h1
 obtain ⟨A_al, c_al, al, e_al, l_al, R_al⟩ := rd_slice Ac.cells 6 (by decide) Tryz.underlying86 cells_Ac (fun _ _ _ h => rd_Ac h) f_al
 simp [Value.cells] at e_al
 obtain ⟨rfl, rfl, rfl⟩ := e_al
 obtain ⟨cs_0, rfl, _⟩ := okWide_struct Tryz.underlying77 (hval 0 77 v0 rfl rfl)
 obtain ⟨fuel_0, f_0⟩ := h0
 obtain ⟨m, A0, A1, A2, A3, A4, c0, c1, c2, c3, c4, e_0, l0, l1, l2, l3, l4, R0, R1, R2, R3, R4⟩ := rd_Mee f_0
 rw [agg_of_list (cs := cs_0) e_0]
 exact law_runActsL m A0 A1 A2 A3 A4 c0 c1 c2 c3 c4 l0 l1 l2 l3 l4 _ _ al l_al W R0 R1 R2 R3 R4 R_al
theorem runActsL_holds : Rows.FnExactRunActsSaid :=
 OpenClaim.holds_of_wide 6 Tryz.f6 rfl rfl rfl rfl rfl rfl rfl ⟨rfl, rfl, rfl, rfl, rfl⟩ rfl rfl rfl rfl rfl (by kernel_rfl) Tryz.func6 (by kernel_rfl)
  (of_decide_eq_true (by kernel_rfl)) (by unfold Func.isWrapper; rw [if_neg (of_decide_eq_false (by kernel_rfl))]; exact ⟨rfl, rfl⟩)
  (fun os started H enc _ => runActsL_lifted os started H enc)
#print axioms runActsL_holds
end Go.Proofs.YtjimibkgocieoaaGreat
