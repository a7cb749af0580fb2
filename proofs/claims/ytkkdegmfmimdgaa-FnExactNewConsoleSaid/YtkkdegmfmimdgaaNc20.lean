/- The law of NewConsole: the program's answer is the reference's, the argument is left as it was, and the result is its own memory. -/
import Derived.Test.YtkkdegmfmimdgaaNc18
import Derived.Test.YtkkdegmfmimdgaaNc13
import Derived.Test.YtkkdegmfmimdgaaNc19
import Derived.Test.YtkkdegmfmimdgaaNc3
import Derived.Deep.RegionHeld3
namespace Go.Proofs.Ytkkdegmfmimdgaa
open Go.RowKit Go.G9
set_option maxHeartbeats 8000000 in
set_option maxRecDepth 100000 in
theorem law_newConsole (Axs : Option Addr) (cxs : Nat) (xs : List Rul) (hxs : xs.length ≤ maxLen) (tu : Int) (se : Int) (w : World) (Rxs : Rds 7 Rul.cells w Axs xs) :
  Calls Try.prog 8 #[.slice Axs xs.length cxs, .int .i64 tu, .int .i64 se] w fun e w' => e = .returned (.bool true) ∧ Below w.heap.size w w' := by
  go_enter Try.func8, Try.ntmps8
  go_wp2_with fail
  refine (szRuleS_is Axs cxs xs hxs 1048576 (by omega) (by omega) _ (Rxs.below (by repeat (first | exact Below.refl _ _ | refine Below.alloc ?_ (by first | exact Nat.le_refl _ | (simp <;> omega)) _ | refine Below.setCell ?_ (by first | exact Nat.le_refl _ | (simp <;> omega)) _)))).mono ?_
  rintro e w1 ⟨r0, rfl, hr0, hs0, hl0, hb1⟩
  have hq1 : Below w.heap.size w w1 := bth (by repeat (first | exact Below.refl _ _ | refine Below.alloc ?_ (by first | exact Nat.le_refl _ | (simp <;> omega)) _ | refine Below.setCell ?_ (by first | exact Nat.le_refl _ | (simp <;> omega)) _)) hb1
  have z1 := hq1.size
  have HB : Below w.heap.size w w1 := hq1
  by_cases h00 : r0 < 0
  · go_wp2
    go_ret
    exact ⟨rfl, bth HB (by repeat (first | exact Below.refl _ _ | refine Below.alloc ?_ (by first | exact Nat.le_refl _ | (simp <;> omega)) _ | refine Below.setCell ?_ (by first | exact Nat.le_refl _ | (simp <;> omega)) _))⟩
  have hxs' : xs.length ≤ 1048576 := by omega
  clear hl0
  go_wp2_with fail
  refine (toRuleS_is Axs cxs xs hxs' _ (Rxs.below (bth HB (by repeat (first | exact Below.refl _ _ | refine Below.alloc ?_ (by first | exact Nat.le_refl _ | (simp <;> omega)) _ | refine Below.setCell ?_ (by first | exact Nat.le_refl _ | (simp <;> omega)) _))))).mono ?_
  rintro e w2 ⟨As0, rfl, Os0, hb2⟩
  have hq2 : Below w1.heap.size w1 w2 := bth (by repeat (first | exact Below.refl _ _ | refine Below.alloc ?_ (by first | exact Nat.le_refl _ | (simp <;> omega)) _ | refine Below.setCell ?_ (by first | exact Nat.le_refl _ | (simp <;> omega)) _)) hb2
  have z2 := hq2.size
  replace HB := bth HB hq2
  have ins0 : Within [.slice As0 xs.length xs.length] (w1.heap.size) (w2.heap.size) := by
    intro v hv k hk
    simp only [List.mem_cons, List.not_mem_nil, or_false] at hv
    subst hv
    have h := Os0.lt k hk; (try simp at h); omega
  go_wp2_with fail
  refine (sNewConsole_is As0 xs.length xs hxs' tu se _ (Os0.rds.below (by repeat (first | exact Below.refl _ _ | refine Below.alloc ?_ (by first | exact Nat.le_refl _ | (simp <;> omega)) _ | refine Below.setCell ?_ (by first | exact Nat.le_refl _ | (simp <;> omega)) _))) Os0.nilOk (Nat.le_refl _)).mono ?_
  rintro e w3 ⟨Aw0_0, cw0_0, Aw0_1, cw0_1, Aw0_2, cw0_2, Aw0_3, cw0_3, Aw0_4, cw0_4, rfl, Ow0_0, Ow0_1, Ow0_2, Ow0_3, Ow0_4, apw0, hb3⟩
  have hq3 : Below w2.heap.size w2 w3 := bth (by repeat (first | exact Below.refl _ _ | refine Below.alloc ?_ (by first | exact Nat.le_refl _ | (simp <;> omega)) _ | refine Below.setCell ?_ (by first | exact Nat.le_refl _ | (simp <;> omega)) _)) hb3
  have z3 := hq3.size
  replace HB := bth HB hq3
  replace Os0 := Os0.later hq3
  have inw0 : Within [.slice Aw0_0 (ncC xs tu se).rules.length cw0_0, .slice Aw0_1 (ncC xs tu se).pend.length cw0_1, .slice Aw0_2 (ncC xs tu se).wait.length cw0_2, .slice Aw0_3 (ncC xs tu se).shares.length cw0_3, .slice Aw0_4 (ncC xs tu se).outs.length cw0_4] (w2.heap.size) (w3.heap.size) := by
    intro v hv k hk
    simp only [List.mem_cons, List.not_mem_nil, or_false] at hv
    rcases hv with rfl | hv
    · have h := Ow0_0.lt k hk; (try simp at h); omega
    rcases hv with rfl | hv
    · have h := Ow0_1.lt k hk; (try simp at h); omega
    rcases hv with rfl | hv
    · have h := Ow0_2.lt k hk; (try simp at h); omega
    rcases hv with rfl | hv
    · have h := Ow0_3.lt k hk; (try simp at h); omega
    subst hv
    have h := Ow0_4.lt k hk; (try simp at h); omega
  go_wp2_with fail
  refine (toRuleS_is Axs cxs xs hxs' _ (Rxs.below (bth HB (by repeat (first | exact Below.refl _ _ | refine Below.alloc ?_ (by first | exact Nat.le_refl _ | (simp <;> omega)) _ | refine Below.setCell ?_ (by first | exact Nat.le_refl _ | (simp <;> omega)) _))))).mono ?_
  rintro e w4 ⟨Ax0, rfl, Ox0, hb4⟩
  have hq4 : Below w3.heap.size w3 w4 := bth (by repeat (first | exact Below.refl _ _ | refine Below.alloc ?_ (by first | exact Nat.le_refl _ | (simp <;> omega)) _ | refine Below.setCell ?_ (by first | exact Nat.le_refl _ | (simp <;> omega)) _)) hb4
  have z4 := hq4.size
  replace HB := bth HB hq4
  replace Ow0_0 := Ow0_0.later hq4
  replace Ow0_1 := Ow0_1.later hq4
  replace Ow0_2 := Ow0_2.later hq4
  replace Ow0_3 := Ow0_3.later hq4
  replace Ow0_4 := Ow0_4.later hq4
  have X1 : Blk w4 (w3.heap.size) 62 #[.slice Aw0_0 (ncC xs tu se).rules.length cw0_0, .slice Aw0_1 (ncC xs tu se).pend.length cw0_1, .int .i64 (ncC xs tu se).turns, .int .i64 (ncC xs tu se).secs, .int .i64 (ncC xs tu se).spk, .slice Aw0_2 (ncC xs tu se).wait.length cw0_2, .slice Aw0_3 (ncC xs tu se).shares.length cw0_3, .slice Aw0_4 (ncC xs tu se).outs.length cw0_4, .string (ncC xs tu se).dur, .string (ncC xs tu se).pen, .int .i64 (ncC xs tu se).cnt] := Blk.below (by repeat (first | exact Blk.new _ _ _ | exact Blk.new2 _ _ _ _ | exact Blk.new3 _ _ _ _ _ | refine Blk.alloc ?_ _)) hb4 (by simp <;> omega)
  have yX1 := X1.lt
  have inx0 : Within [.slice Ax0 xs.length xs.length] (w3.heap.size + 1) (w4.heap.size) := by
    intro v hv k hk
    simp only [List.mem_cons, List.not_mem_nil, or_false] at hv
    subst hv
    have h := Ox0.lt k hk; (try simp at h); omega
  have X1_0 := (X1.cell 0).trans (show _ = some (.slice Aw0_0 (ncC xs tu se).rules.length cw0_0) from rfl)
  have X1_1 := (X1.cell 1).trans (show _ = some (.slice Aw0_1 (ncC xs tu se).pend.length cw0_1) from rfl)
  have X1_2 := (X1.cell 2).trans (show _ = some (.int .i64 (ncC xs tu se).turns) from rfl)
  have X1_3 := (X1.cell 3).trans (show _ = some (.int .i64 (ncC xs tu se).secs) from rfl)
  have X1_4 := (X1.cell 4).trans (show _ = some (.int .i64 (ncC xs tu se).spk) from rfl)
  have X1_5 := (X1.cell 5).trans (show _ = some (.slice Aw0_2 (ncC xs tu se).wait.length cw0_2) from rfl)
  have X1_6 := (X1.cell 6).trans (show _ = some (.slice Aw0_3 (ncC xs tu se).shares.length cw0_3) from rfl)
  have X1_7 := (X1.cell 7).trans (show _ = some (.slice Aw0_4 (ncC xs tu se).outs.length cw0_4) from rfl)
  have X1_8 := (X1.cell 8).trans (show _ = some (.string (ncC xs tu se).dur) from rfl)
  have X1_9 := (X1.cell 9).trans (show _ = some (.string (ncC xs tu se).pen) from rfl)
  have X1_10 := (X1.cell 10).trans (show _ = some (.int .i64 (ncC xs tu se).cnt) from rfl)
  go_wp2_with fail
  refine (iNewConsole_is Ax0 xs.length xs hxs' tu se _ (Ox0.rds.below (by repeat (first | exact Below.refl _ _ | refine Below.alloc ?_ (by first | exact Nat.le_refl _ | (simp <;> omega)) _ | refine Below.setCell ?_ (by first | exact Nat.le_refl _ | (simp <;> omega)) _))) Ox0.nilOk (Nat.le_refl _)).mono ?_
  rintro e w5 ⟨Ag0_0, cg0_0, Ag0_1, cg0_1, Ag0_2, cg0_2, Ag0_3, cg0_3, Ag0_4, cg0_4, rfl, Og0_0, Og0_1, Og0_2, Og0_3, Og0_4, apg0, hb5⟩
  clear X1_0 X1_1 X1_2 X1_3 X1_4 X1_5 X1_6 X1_7 X1_8 X1_9 X1_10
  have hq5 : Below w4.heap.size w4 w5 := bth (by repeat (first | exact Below.refl _ _ | refine Below.alloc ?_ (by first | exact Nat.le_refl _ | (simp <;> omega)) _ | refine Below.setCell ?_ (by first | exact Nat.le_refl _ | (simp <;> omega)) _)) hb5
  have z5 := hq5.size
  replace HB := bth HB hq5
  replace Ow0_0 := Ow0_0.later hq5
  replace Ow0_1 := Ow0_1.later hq5
  replace Ow0_2 := Ow0_2.later hq5
  replace Ow0_3 := Ow0_3.later hq5
  replace Ow0_4 := Ow0_4.later hq5
  replace Ox0 := Ox0.later hq5
  replace X1 := X1.below hq5 X1.lt
  have ing0 : Within [.slice Ag0_0 (ncC xs tu se).rules.length cg0_0, .slice Ag0_1 (ncC xs tu se).pend.length cg0_1, .slice Ag0_2 (ncC xs tu se).wait.length cg0_2, .slice Ag0_3 (ncC xs tu se).shares.length cg0_3, .slice Ag0_4 (ncC xs tu se).outs.length cg0_4] (w4.heap.size) (w5.heap.size) := by
    intro v hv k hk
    simp only [List.mem_cons, List.not_mem_nil, or_false] at hv
    rcases hv with rfl | hv
    · have h := Og0_0.lt k hk; (try simp at h); omega
    rcases hv with rfl | hv
    · have h := Og0_1.lt k hk; (try simp at h); omega
    rcases hv with rfl | hv
    · have h := Og0_2.lt k hk; (try simp at h); omega
    rcases hv with rfl | hv
    · have h := Og0_3.lt k hk; (try simp at h); omega
    subst hv
    have h := Og0_4.lt k hk; (try simp at h); omega
  have X1_l0 : w3.heap.size < w5.heap.size := by have h := X1.lt; omega
  have X1_0 := (X1.cell 0).trans (show _ = some (.slice Aw0_0 (ncC xs tu se).rules.length cw0_0) from rfl)
  have X1_1 := (X1.cell 1).trans (show _ = some (.slice Aw0_1 (ncC xs tu se).pend.length cw0_1) from rfl)
  have X1_2 := (X1.cell 2).trans (show _ = some (.int .i64 (ncC xs tu se).turns) from rfl)
  have X1_3 := (X1.cell 3).trans (show _ = some (.int .i64 (ncC xs tu se).secs) from rfl)
  have X1_4 := (X1.cell 4).trans (show _ = some (.int .i64 (ncC xs tu se).spk) from rfl)
  have X1_5 := (X1.cell 5).trans (show _ = some (.slice Aw0_2 (ncC xs tu se).wait.length cw0_2) from rfl)
  have X1_6 := (X1.cell 6).trans (show _ = some (.slice Aw0_3 (ncC xs tu se).shares.length cw0_3) from rfl)
  have X1_7 := (X1.cell 7).trans (show _ = some (.slice Aw0_4 (ncC xs tu se).outs.length cw0_4) from rfl)
  have X1_8 := (X1.cell 8).trans (show _ = some (.string (ncC xs tu se).dur) from rfl)
  have X1_9 := (X1.cell 9).trans (show _ = some (.string (ncC xs tu se).pen) from rfl)
  have X1_10 := (X1.cell 10).trans (show _ = some (.int .i64 (ncC xs tu se).cnt) from rfl)
  go_wp2_with fail
  refine (eqConsole_is (ncC xs tu se) Ag0_0 Ag0_1 Ag0_2 Ag0_3 Ag0_4 Aw0_0 Aw0_1 Aw0_2 Aw0_3 Aw0_4 cg0_0 cg0_1 cg0_2 cg0_3 cg0_4 cw0_0 cw0_1 cw0_2 cw0_3 cw0_4 (nmM_len xs tu se hxs') (nmM_l1 xs tu se) (nmM_l2 xs tu se) (nmM_l3 xs tu se) (nmM_l4 xs tu se) _ (Og0_0.rds.below (by repeat (first | exact Below.refl _ _ | refine Below.alloc ?_ (by first | exact Nat.le_refl _ | (simp <;> omega)) _ | refine Below.setCell ?_ (by first | exact Nat.le_refl _ | (simp <;> omega)) _))) (Og0_1.rds.below (by repeat (first | exact Below.refl _ _ | refine Below.alloc ?_ (by first | exact Nat.le_refl _ | (simp <;> omega)) _ | refine Below.setCell ?_ (by first | exact Nat.le_refl _ | (simp <;> omega)) _))) (Og0_2.rds.below (by repeat (first | exact Below.refl _ _ | refine Below.alloc ?_ (by first | exact Nat.le_refl _ | (simp <;> omega)) _ | refine Below.setCell ?_ (by first | exact Nat.le_refl _ | (simp <;> omega)) _))) (Og0_3.rds.below (by repeat (first | exact Below.refl _ _ | refine Below.alloc ?_ (by first | exact Nat.le_refl _ | (simp <;> omega)) _ | refine Below.setCell ?_ (by first | exact Nat.le_refl _ | (simp <;> omega)) _))) (Og0_4.rds.below (by repeat (first | exact Below.refl _ _ | refine Below.alloc ?_ (by first | exact Nat.le_refl _ | (simp <;> omega)) _ | refine Below.setCell ?_ (by first | exact Nat.le_refl _ | (simp <;> omega)) _))) (Ow0_0.rds.below (by repeat (first | exact Below.refl _ _ | refine Below.alloc ?_ (by first | exact Nat.le_refl _ | (simp <;> omega)) _ | refine Below.setCell ?_ (by first | exact Nat.le_refl _ | (simp <;> omega)) _))) (Ow0_1.rds.below (by repeat (first | exact Below.refl _ _ | refine Below.alloc ?_ (by first | exact Nat.le_refl _ | (simp <;> omega)) _ | refine Below.setCell ?_ (by first | exact Nat.le_refl _ | (simp <;> omega)) _))) (Ow0_2.rds.below (by repeat (first | exact Below.refl _ _ | refine Below.alloc ?_ (by first | exact Nat.le_refl _ | (simp <;> omega)) _ | refine Below.setCell ?_ (by first | exact Nat.le_refl _ | (simp <;> omega)) _))) (Ow0_3.rds.below (by repeat (first | exact Below.refl _ _ | refine Below.alloc ?_ (by first | exact Nat.le_refl _ | (simp <;> omega)) _ | refine Below.setCell ?_ (by first | exact Nat.le_refl _ | (simp <;> omega)) _))) (Ow0_4.rds.below (by repeat (first | exact Below.refl _ _ | refine Below.alloc ?_ (by first | exact Nat.le_refl _ | (simp <;> omega)) _ | refine Below.setCell ?_ (by first | exact Nat.le_refl _ | (simp <;> omega)) _)))).mono ?_
  rintro e w6 ⟨rfl, hb6⟩
  clear X1_l0 X1_0 X1_1 X1_2 X1_3 X1_4 X1_5 X1_6 X1_7 X1_8 X1_9 X1_10
  have hq6 : Below w5.heap.size w5 w6 := bth (by repeat (first | exact Below.refl _ _ | refine Below.alloc ?_ (by first | exact Nat.le_refl _ | (simp <;> omega)) _ | refine Below.setCell ?_ (by first | exact Nat.le_refl _ | (simp <;> omega)) _)) hb6
  have z6 := hq6.size
  replace HB := bth HB hq6
  replace Ow0_0 := Ow0_0.later hq6
  replace Ow0_1 := Ow0_1.later hq6
  replace Ow0_2 := Ow0_2.later hq6
  replace Ow0_3 := Ow0_3.later hq6
  replace Ow0_4 := Ow0_4.later hq6
  replace Ox0 := Ox0.later hq6
  replace Og0_0 := Og0_0.later hq6
  replace Og0_1 := Og0_1.later hq6
  replace Og0_2 := Og0_2.later hq6
  replace Og0_3 := Og0_3.later hq6
  replace Og0_4 := Og0_4.later hq6
  replace X1 := X1.below hq6 X1.lt
  have X2 : Blk w6 (w5.heap.size) 62 #[.slice Ag0_0 (ncC xs tu se).rules.length cg0_0, .slice Ag0_1 (ncC xs tu se).pend.length cg0_1, .int .i64 (ncC xs tu se).turns, .int .i64 (ncC xs tu se).secs, .int .i64 (ncC xs tu se).spk, .slice Ag0_2 (ncC xs tu se).wait.length cg0_2, .slice Ag0_3 (ncC xs tu se).shares.length cg0_3, .slice Ag0_4 (ncC xs tu se).outs.length cg0_4, .string (ncC xs tu se).dur, .string (ncC xs tu se).pen, .int .i64 (ncC xs tu se).cnt] := Blk.below (by repeat (first | exact Blk.new _ _ _ | exact Blk.new2 _ _ _ _ | exact Blk.new3 _ _ _ _ _ | refine Blk.alloc ?_ _)) hb6 (by simp <;> omega)
  have yX2 := X2.lt
  have X1_0 := (X1.cell 0).trans (show _ = some (.slice Aw0_0 (ncC xs tu se).rules.length cw0_0) from rfl)
  have X1_1 := (X1.cell 1).trans (show _ = some (.slice Aw0_1 (ncC xs tu se).pend.length cw0_1) from rfl)
  have X1_2 := (X1.cell 2).trans (show _ = some (.int .i64 (ncC xs tu se).turns) from rfl)
  have X1_3 := (X1.cell 3).trans (show _ = some (.int .i64 (ncC xs tu se).secs) from rfl)
  have X1_4 := (X1.cell 4).trans (show _ = some (.int .i64 (ncC xs tu se).spk) from rfl)
  have X1_5 := (X1.cell 5).trans (show _ = some (.slice Aw0_2 (ncC xs tu se).wait.length cw0_2) from rfl)
  have X1_6 := (X1.cell 6).trans (show _ = some (.slice Aw0_3 (ncC xs tu se).shares.length cw0_3) from rfl)
  have X1_7 := (X1.cell 7).trans (show _ = some (.slice Aw0_4 (ncC xs tu se).outs.length cw0_4) from rfl)
  have X1_8 := (X1.cell 8).trans (show _ = some (.string (ncC xs tu se).dur) from rfl)
  have X1_9 := (X1.cell 9).trans (show _ = some (.string (ncC xs tu se).pen) from rfl)
  have X1_10 := (X1.cell 10).trans (show _ = some (.int .i64 (ncC xs tu se).cnt) from rfl)
  have X2_0 := (X2.cell 0).trans (show _ = some (.slice Ag0_0 (ncC xs tu se).rules.length cg0_0) from rfl)
  have X2_1 := (X2.cell 1).trans (show _ = some (.slice Ag0_1 (ncC xs tu se).pend.length cg0_1) from rfl)
  have X2_2 := (X2.cell 2).trans (show _ = some (.int .i64 (ncC xs tu se).turns) from rfl)
  have X2_3 := (X2.cell 3).trans (show _ = some (.int .i64 (ncC xs tu se).secs) from rfl)
  have X2_4 := (X2.cell 4).trans (show _ = some (.int .i64 (ncC xs tu se).spk) from rfl)
  have X2_5 := (X2.cell 5).trans (show _ = some (.slice Ag0_2 (ncC xs tu se).wait.length cg0_2) from rfl)
  have X2_6 := (X2.cell 6).trans (show _ = some (.slice Ag0_3 (ncC xs tu se).shares.length cg0_3) from rfl)
  have X2_7 := (X2.cell 7).trans (show _ = some (.slice Ag0_4 (ncC xs tu se).outs.length cg0_4) from rfl)
  have X2_8 := (X2.cell 8).trans (show _ = some (.string (ncC xs tu se).dur) from rfl)
  have X2_9 := (X2.cell 9).trans (show _ = some (.string (ncC xs tu se).pen) from rfl)
  have X2_10 := (X2.cell 10).trans (show _ = some (.int .i64 (ncC xs tu se).cnt) from rfl)
  go_wp2_with fail
  refine (toRuleS_is Axs cxs xs hxs' _ (Rxs.below (bth HB (by repeat (first | exact Below.refl _ _ | refine Below.alloc ?_ (by first | exact Nat.le_refl _ | (simp <;> omega)) _ | refine Below.setCell ?_ (by first | exact Nat.le_refl _ | (simp <;> omega)) _))))).mono ?_
  rintro e w7 ⟨Ay0, rfl, Oy0, hb7⟩
  clear X1_0 X1_1 X1_2 X1_3 X1_4 X1_5 X1_6 X1_7 X1_8 X1_9 X1_10
  clear X2_0 X2_1 X2_2 X2_3 X2_4 X2_5 X2_6 X2_7 X2_8 X2_9 X2_10
  have hq7 : Below w6.heap.size w6 w7 := bth (by repeat (first | exact Below.refl _ _ | refine Below.alloc ?_ (by first | exact Nat.le_refl _ | (simp <;> omega)) _ | refine Below.setCell ?_ (by first | exact Nat.le_refl _ | (simp <;> omega)) _)) hb7
  have z7 := hq7.size
  replace HB := bth HB hq7
  replace Ow0_0 := Ow0_0.later hq7
  replace Ow0_1 := Ow0_1.later hq7
  replace Ow0_2 := Ow0_2.later hq7
  replace Ow0_3 := Ow0_3.later hq7
  replace Ow0_4 := Ow0_4.later hq7
  replace Ox0 := Ox0.later hq7
  replace Og0_0 := Og0_0.later hq7
  replace Og0_1 := Og0_1.later hq7
  replace Og0_2 := Og0_2.later hq7
  replace Og0_3 := Og0_3.later hq7
  replace Og0_4 := Og0_4.later hq7
  replace X1 := X1.below hq7 X1.lt
  replace X2 := X2.below hq7 X2.lt
  have iny0 : Within [.slice Ay0 xs.length xs.length] (w6.heap.size) (w7.heap.size) := by
    intro v hv k hk
    simp only [List.mem_cons, List.not_mem_nil, or_false] at hv
    subst hv
    have h := Oy0.lt k hk; (try simp at h); omega
  have X1_0 := (X1.cell 0).trans (show _ = some (.slice Aw0_0 (ncC xs tu se).rules.length cw0_0) from rfl)
  have X1_1 := (X1.cell 1).trans (show _ = some (.slice Aw0_1 (ncC xs tu se).pend.length cw0_1) from rfl)
  have X1_2 := (X1.cell 2).trans (show _ = some (.int .i64 (ncC xs tu se).turns) from rfl)
  have X1_3 := (X1.cell 3).trans (show _ = some (.int .i64 (ncC xs tu se).secs) from rfl)
  have X1_4 := (X1.cell 4).trans (show _ = some (.int .i64 (ncC xs tu se).spk) from rfl)
  have X1_5 := (X1.cell 5).trans (show _ = some (.slice Aw0_2 (ncC xs tu se).wait.length cw0_2) from rfl)
  have X1_6 := (X1.cell 6).trans (show _ = some (.slice Aw0_3 (ncC xs tu se).shares.length cw0_3) from rfl)
  have X1_7 := (X1.cell 7).trans (show _ = some (.slice Aw0_4 (ncC xs tu se).outs.length cw0_4) from rfl)
  have X1_8 := (X1.cell 8).trans (show _ = some (.string (ncC xs tu se).dur) from rfl)
  have X1_9 := (X1.cell 9).trans (show _ = some (.string (ncC xs tu se).pen) from rfl)
  have X1_10 := (X1.cell 10).trans (show _ = some (.int .i64 (ncC xs tu se).cnt) from rfl)
  have X2_0 := (X2.cell 0).trans (show _ = some (.slice Ag0_0 (ncC xs tu se).rules.length cg0_0) from rfl)
  have X2_1 := (X2.cell 1).trans (show _ = some (.slice Ag0_1 (ncC xs tu se).pend.length cg0_1) from rfl)
  have X2_2 := (X2.cell 2).trans (show _ = some (.int .i64 (ncC xs tu se).turns) from rfl)
  have X2_3 := (X2.cell 3).trans (show _ = some (.int .i64 (ncC xs tu se).secs) from rfl)
  have X2_4 := (X2.cell 4).trans (show _ = some (.int .i64 (ncC xs tu se).spk) from rfl)
  have X2_5 := (X2.cell 5).trans (show _ = some (.slice Ag0_2 (ncC xs tu se).wait.length cg0_2) from rfl)
  have X2_6 := (X2.cell 6).trans (show _ = some (.slice Ag0_3 (ncC xs tu se).shares.length cg0_3) from rfl)
  have X2_7 := (X2.cell 7).trans (show _ = some (.slice Ag0_4 (ncC xs tu se).outs.length cg0_4) from rfl)
  have X2_8 := (X2.cell 8).trans (show _ = some (.string (ncC xs tu se).dur) from rfl)
  have X2_9 := (X2.cell 9).trans (show _ = some (.string (ncC xs tu se).pen) from rfl)
  have X2_10 := (X2.cell 10).trans (show _ = some (.int .i64 (ncC xs tu se).cnt) from rfl)
  go_wp2_with fail
  refine (eqRuleS_is Ax0 Ay0 xs.length xs.length xs hxs' _ (Ox0.rds.below (by repeat (first | exact Below.refl _ _ | refine Below.alloc ?_ (by first | exact Nat.le_refl _ | (simp <;> omega)) _ | refine Below.setCell ?_ (by first | exact Nat.le_refl _ | (simp <;> omega)) _))) (Oy0.rds.below (by repeat (first | exact Below.refl _ _ | refine Below.alloc ?_ (by first | exact Nat.le_refl _ | (simp <;> omega)) _ | refine Below.setCell ?_ (by first | exact Nat.le_refl _ | (simp <;> omega)) _)))).mono ?_
  rintro e w8 ⟨rfl, hb8⟩
  clear X1_0 X1_1 X1_2 X1_3 X1_4 X1_5 X1_6 X1_7 X1_8 X1_9 X1_10
  clear X2_0 X2_1 X2_2 X2_3 X2_4 X2_5 X2_6 X2_7 X2_8 X2_9 X2_10
  have hq8 : Below w7.heap.size w7 w8 := bth (by repeat (first | exact Below.refl _ _ | refine Below.alloc ?_ (by first | exact Nat.le_refl _ | (simp <;> omega)) _ | refine Below.setCell ?_ (by first | exact Nat.le_refl _ | (simp <;> omega)) _)) hb8
  have z8 := hq8.size
  replace HB := bth HB hq8
  replace Ow0_0 := Ow0_0.later hq8
  replace Ow0_1 := Ow0_1.later hq8
  replace Ow0_2 := Ow0_2.later hq8
  replace Ow0_3 := Ow0_3.later hq8
  replace Ow0_4 := Ow0_4.later hq8
  replace Ox0 := Ox0.later hq8
  replace Og0_0 := Og0_0.later hq8
  replace Og0_1 := Og0_1.later hq8
  replace Og0_2 := Og0_2.later hq8
  replace Og0_3 := Og0_3.later hq8
  replace Og0_4 := Og0_4.later hq8
  replace Oy0 := Oy0.later hq8
  replace X1 := X1.below hq8 X1.lt
  replace X2 := X2.below hq8 X2.lt
  have X1_0 := (X1.cell 0).trans (show _ = some (.slice Aw0_0 (ncC xs tu se).rules.length cw0_0) from rfl)
  have X1_1 := (X1.cell 1).trans (show _ = some (.slice Aw0_1 (ncC xs tu se).pend.length cw0_1) from rfl)
  have X1_2 := (X1.cell 2).trans (show _ = some (.int .i64 (ncC xs tu se).turns) from rfl)
  have X1_3 := (X1.cell 3).trans (show _ = some (.int .i64 (ncC xs tu se).secs) from rfl)
  have X1_4 := (X1.cell 4).trans (show _ = some (.int .i64 (ncC xs tu se).spk) from rfl)
  have X1_5 := (X1.cell 5).trans (show _ = some (.slice Aw0_2 (ncC xs tu se).wait.length cw0_2) from rfl)
  have X1_6 := (X1.cell 6).trans (show _ = some (.slice Aw0_3 (ncC xs tu se).shares.length cw0_3) from rfl)
  have X1_7 := (X1.cell 7).trans (show _ = some (.slice Aw0_4 (ncC xs tu se).outs.length cw0_4) from rfl)
  have X1_8 := (X1.cell 8).trans (show _ = some (.string (ncC xs tu se).dur) from rfl)
  have X1_9 := (X1.cell 9).trans (show _ = some (.string (ncC xs tu se).pen) from rfl)
  have X1_10 := (X1.cell 10).trans (show _ = some (.int .i64 (ncC xs tu se).cnt) from rfl)
  have X2_0 := (X2.cell 0).trans (show _ = some (.slice Ag0_0 (ncC xs tu se).rules.length cg0_0) from rfl)
  have X2_1 := (X2.cell 1).trans (show _ = some (.slice Ag0_1 (ncC xs tu se).pend.length cg0_1) from rfl)
  have X2_2 := (X2.cell 2).trans (show _ = some (.int .i64 (ncC xs tu se).turns) from rfl)
  have X2_3 := (X2.cell 3).trans (show _ = some (.int .i64 (ncC xs tu se).secs) from rfl)
  have X2_4 := (X2.cell 4).trans (show _ = some (.int .i64 (ncC xs tu se).spk) from rfl)
  have X2_5 := (X2.cell 5).trans (show _ = some (.slice Ag0_2 (ncC xs tu se).wait.length cg0_2) from rfl)
  have X2_6 := (X2.cell 6).trans (show _ = some (.slice Ag0_3 (ncC xs tu se).shares.length cg0_3) from rfl)
  have X2_7 := (X2.cell 7).trans (show _ = some (.slice Ag0_4 (ncC xs tu se).outs.length cg0_4) from rfl)
  have X2_8 := (X2.cell 8).trans (show _ = some (.string (ncC xs tu se).dur) from rfl)
  have X2_9 := (X2.cell 9).trans (show _ = some (.string (ncC xs tu se).pen) from rfl)
  have X2_10 := (X2.cell 10).trans (show _ = some (.int .i64 (ncC xs tu se).cnt) from rfl)
  go_wp2_with fail
  refine (mkRuleS_is _ Ax0 xs.length xs hxs' (1) (by omega) (by omega) _ Ox0).mono ?_
  rintro e w9 ⟨rfl, M9_0, hg9⟩
  have HG9 := grownL_one hg9
  clear X1_0 X1_1 X1_2 X1_3 X1_4 X1_5 X1_6 X1_7 X1_8 X1_9 X1_10
  clear X2_0 X2_1 X2_2 X2_3 X2_4 X2_5 X2_6 X2_7 X2_8 X2_9 X2_10
  have z9 := HG9.size
  replace HB := HB.trans (HG9.below inx0 (by omega) HB.size)
  replace Ow0_0 := Ow0_0.keptL HG9 inw0 inx0 (by simp) (by omega)
  replace Ow0_1 := Ow0_1.keptL HG9 inw0 inx0 (by simp) (by omega)
  replace Ow0_2 := Ow0_2.keptL HG9 inw0 inx0 (by simp) (by omega)
  replace Ow0_3 := Ow0_3.keptL HG9 inw0 inx0 (by simp) (by omega)
  replace Ow0_4 := Ow0_4.keptL HG9 inw0 inx0 (by simp) (by omega)
  replace Og0_0 := Og0_0.keptL HG9 ing0 inx0 (by simp) (by omega)
  replace Og0_1 := Og0_1.keptL HG9 ing0 inx0 (by simp) (by omega)
  replace Og0_2 := Og0_2.keptL HG9 ing0 inx0 (by simp) (by omega)
  replace Og0_3 := Og0_3.keptL HG9 ing0 inx0 (by simp) (by omega)
  replace Og0_4 := Og0_4.keptL HG9 ing0 inx0 (by simp) (by omega)
  replace X1 := X1.keptL HG9 inx0 (by omega)
  replace X2 := X2.keptL HG9 inx0 (by omega)
  have X1_0 := (X1.cell 0).trans (show _ = some (.slice Aw0_0 (ncC xs tu se).rules.length cw0_0) from rfl)
  have X1_1 := (X1.cell 1).trans (show _ = some (.slice Aw0_1 (ncC xs tu se).pend.length cw0_1) from rfl)
  have X1_2 := (X1.cell 2).trans (show _ = some (.int .i64 (ncC xs tu se).turns) from rfl)
  have X1_3 := (X1.cell 3).trans (show _ = some (.int .i64 (ncC xs tu se).secs) from rfl)
  have X1_4 := (X1.cell 4).trans (show _ = some (.int .i64 (ncC xs tu se).spk) from rfl)
  have X1_5 := (X1.cell 5).trans (show _ = some (.slice Aw0_2 (ncC xs tu se).wait.length cw0_2) from rfl)
  have X1_6 := (X1.cell 6).trans (show _ = some (.slice Aw0_3 (ncC xs tu se).shares.length cw0_3) from rfl)
  have X1_7 := (X1.cell 7).trans (show _ = some (.slice Aw0_4 (ncC xs tu se).outs.length cw0_4) from rfl)
  have X1_8 := (X1.cell 8).trans (show _ = some (.string (ncC xs tu se).dur) from rfl)
  have X1_9 := (X1.cell 9).trans (show _ = some (.string (ncC xs tu se).pen) from rfl)
  have X1_10 := (X1.cell 10).trans (show _ = some (.int .i64 (ncC xs tu se).cnt) from rfl)
  have X2_0 := (X2.cell 0).trans (show _ = some (.slice Ag0_0 (ncC xs tu se).rules.length cg0_0) from rfl)
  have X2_1 := (X2.cell 1).trans (show _ = some (.slice Ag0_1 (ncC xs tu se).pend.length cg0_1) from rfl)
  have X2_2 := (X2.cell 2).trans (show _ = some (.int .i64 (ncC xs tu se).turns) from rfl)
  have X2_3 := (X2.cell 3).trans (show _ = some (.int .i64 (ncC xs tu se).secs) from rfl)
  have X2_4 := (X2.cell 4).trans (show _ = some (.int .i64 (ncC xs tu se).spk) from rfl)
  have X2_5 := (X2.cell 5).trans (show _ = some (.slice Ag0_2 (ncC xs tu se).wait.length cg0_2) from rfl)
  have X2_6 := (X2.cell 6).trans (show _ = some (.slice Ag0_3 (ncC xs tu se).shares.length cg0_3) from rfl)
  have X2_7 := (X2.cell 7).trans (show _ = some (.slice Ag0_4 (ncC xs tu se).outs.length cg0_4) from rfl)
  have X2_8 := (X2.cell 8).trans (show _ = some (.string (ncC xs tu se).dur) from rfl)
  have X2_9 := (X2.cell 9).trans (show _ = some (.string (ncC xs tu se).pen) from rfl)
  have X2_10 := (X2.cell 10).trans (show _ = some (.int .i64 (ncC xs tu se).cnt) from rfl)
  go_wp2_with fail
  refine (eqConsole_is (ncC xs tu se) Ag0_0 Ag0_1 Ag0_2 Ag0_3 Ag0_4 Aw0_0 Aw0_1 Aw0_2 Aw0_3 Aw0_4 cg0_0 cg0_1 cg0_2 cg0_3 cg0_4 cw0_0 cw0_1 cw0_2 cw0_3 cw0_4 (nmM_len xs tu se hxs') (nmM_l1 xs tu se) (nmM_l2 xs tu se) (nmM_l3 xs tu se) (nmM_l4 xs tu se) _ (Og0_0.rds.below (by repeat (first | exact Below.refl _ _ | refine Below.alloc ?_ (by first | exact Nat.le_refl _ | (simp <;> omega)) _ | refine Below.setCell ?_ (by first | exact Nat.le_refl _ | (simp <;> omega)) _))) (Og0_1.rds.below (by repeat (first | exact Below.refl _ _ | refine Below.alloc ?_ (by first | exact Nat.le_refl _ | (simp <;> omega)) _ | refine Below.setCell ?_ (by first | exact Nat.le_refl _ | (simp <;> omega)) _))) (Og0_2.rds.below (by repeat (first | exact Below.refl _ _ | refine Below.alloc ?_ (by first | exact Nat.le_refl _ | (simp <;> omega)) _ | refine Below.setCell ?_ (by first | exact Nat.le_refl _ | (simp <;> omega)) _))) (Og0_3.rds.below (by repeat (first | exact Below.refl _ _ | refine Below.alloc ?_ (by first | exact Nat.le_refl _ | (simp <;> omega)) _ | refine Below.setCell ?_ (by first | exact Nat.le_refl _ | (simp <;> omega)) _))) (Og0_4.rds.below (by repeat (first | exact Below.refl _ _ | refine Below.alloc ?_ (by first | exact Nat.le_refl _ | (simp <;> omega)) _ | refine Below.setCell ?_ (by first | exact Nat.le_refl _ | (simp <;> omega)) _))) (Ow0_0.rds.below (by repeat (first | exact Below.refl _ _ | refine Below.alloc ?_ (by first | exact Nat.le_refl _ | (simp <;> omega)) _ | refine Below.setCell ?_ (by first | exact Nat.le_refl _ | (simp <;> omega)) _))) (Ow0_1.rds.below (by repeat (first | exact Below.refl _ _ | refine Below.alloc ?_ (by first | exact Nat.le_refl _ | (simp <;> omega)) _ | refine Below.setCell ?_ (by first | exact Nat.le_refl _ | (simp <;> omega)) _))) (Ow0_2.rds.below (by repeat (first | exact Below.refl _ _ | refine Below.alloc ?_ (by first | exact Nat.le_refl _ | (simp <;> omega)) _ | refine Below.setCell ?_ (by first | exact Nat.le_refl _ | (simp <;> omega)) _))) (Ow0_3.rds.below (by repeat (first | exact Below.refl _ _ | refine Below.alloc ?_ (by first | exact Nat.le_refl _ | (simp <;> omega)) _ | refine Below.setCell ?_ (by first | exact Nat.le_refl _ | (simp <;> omega)) _))) (Ow0_4.rds.below (by repeat (first | exact Below.refl _ _ | refine Below.alloc ?_ (by first | exact Nat.le_refl _ | (simp <;> omega)) _ | refine Below.setCell ?_ (by first | exact Nat.le_refl _ | (simp <;> omega)) _)))).mono ?_
  rintro e w10 ⟨rfl, hb10⟩
  clear X1_0 X1_1 X1_2 X1_3 X1_4 X1_5 X1_6 X1_7 X1_8 X1_9 X1_10
  clear X2_0 X2_1 X2_2 X2_3 X2_4 X2_5 X2_6 X2_7 X2_8 X2_9 X2_10
  have hq10 : Below w9.heap.size w9 w10 := bth (by repeat (first | exact Below.refl _ _ | refine Below.alloc ?_ (by first | exact Nat.le_refl _ | (simp <;> omega)) _ | refine Below.setCell ?_ (by first | exact Nat.le_refl _ | (simp <;> omega)) _)) hb10
  have z10 := hq10.size
  replace HB := bth HB hq10
  replace Ow0_0 := Ow0_0.later hq10
  replace Ow0_1 := Ow0_1.later hq10
  replace Ow0_2 := Ow0_2.later hq10
  replace Ow0_3 := Ow0_3.later hq10
  replace Ow0_4 := Ow0_4.later hq10
  replace Og0_0 := Og0_0.later hq10
  replace Og0_1 := Og0_1.later hq10
  replace Og0_2 := Og0_2.later hq10
  replace Og0_3 := Og0_3.later hq10
  replace Og0_4 := Og0_4.later hq10
  replace X1 := X1.below hq10 X1.lt
  replace X2 := X2.below hq10 X2.lt
  have X1_0 := (X1.cell 0).trans (show _ = some (.slice Aw0_0 (ncC xs tu se).rules.length cw0_0) from rfl)
  have X1_1 := (X1.cell 1).trans (show _ = some (.slice Aw0_1 (ncC xs tu se).pend.length cw0_1) from rfl)
  have X1_2 := (X1.cell 2).trans (show _ = some (.int .i64 (ncC xs tu se).turns) from rfl)
  have X1_3 := (X1.cell 3).trans (show _ = some (.int .i64 (ncC xs tu se).secs) from rfl)
  have X1_4 := (X1.cell 4).trans (show _ = some (.int .i64 (ncC xs tu se).spk) from rfl)
  have X1_5 := (X1.cell 5).trans (show _ = some (.slice Aw0_2 (ncC xs tu se).wait.length cw0_2) from rfl)
  have X1_6 := (X1.cell 6).trans (show _ = some (.slice Aw0_3 (ncC xs tu se).shares.length cw0_3) from rfl)
  have X1_7 := (X1.cell 7).trans (show _ = some (.slice Aw0_4 (ncC xs tu se).outs.length cw0_4) from rfl)
  have X1_8 := (X1.cell 8).trans (show _ = some (.string (ncC xs tu se).dur) from rfl)
  have X1_9 := (X1.cell 9).trans (show _ = some (.string (ncC xs tu se).pen) from rfl)
  have X1_10 := (X1.cell 10).trans (show _ = some (.int .i64 (ncC xs tu se).cnt) from rfl)
  have X2_0 := (X2.cell 0).trans (show _ = some (.slice Ag0_0 (ncC xs tu se).rules.length cg0_0) from rfl)
  have X2_1 := (X2.cell 1).trans (show _ = some (.slice Ag0_1 (ncC xs tu se).pend.length cg0_1) from rfl)
  have X2_2 := (X2.cell 2).trans (show _ = some (.int .i64 (ncC xs tu se).turns) from rfl)
  have X2_3 := (X2.cell 3).trans (show _ = some (.int .i64 (ncC xs tu se).secs) from rfl)
  have X2_4 := (X2.cell 4).trans (show _ = some (.int .i64 (ncC xs tu se).spk) from rfl)
  have X2_5 := (X2.cell 5).trans (show _ = some (.slice Ag0_2 (ncC xs tu se).wait.length cg0_2) from rfl)
  have X2_6 := (X2.cell 6).trans (show _ = some (.slice Ag0_3 (ncC xs tu se).shares.length cg0_3) from rfl)
  have X2_7 := (X2.cell 7).trans (show _ = some (.slice Ag0_4 (ncC xs tu se).outs.length cg0_4) from rfl)
  have X2_8 := (X2.cell 8).trans (show _ = some (.string (ncC xs tu se).dur) from rfl)
  have X2_9 := (X2.cell 9).trans (show _ = some (.string (ncC xs tu se).pen) from rfl)
  have X2_10 := (X2.cell 10).trans (show _ = some (.int .i64 (ncC xs tu se).cnt) from rfl)
  go_wp2_with fail
  refine (mkConsole_is (ncC xs tu se) Ag0_0 Ag0_1 Ag0_2 Ag0_3 Ag0_4 cg0_0 cg0_1 cg0_2 cg0_3 cg0_4 (nmM_len xs tu se hxs') (nmM_l1 xs tu se) (nmM_l2 xs tu se) (nmM_l3 xs tu se) (nmM_l4 xs tu se) (1) (by omega) (by omega) _ Og0_0 Og0_1 Og0_2 Og0_3 Og0_4 apg0).mono ?_
  rintro e w11 ⟨rfl, M11_0, M11_1, M11_2, M11_3, M11_4, HG11⟩
  clear X1_0 X1_1 X1_2 X1_3 X1_4 X1_5 X1_6 X1_7 X1_8 X1_9 X1_10
  clear X2_0 X2_1 X2_2 X2_3 X2_4 X2_5 X2_6 X2_7 X2_8 X2_9 X2_10
  have z11 := HG11.size
  replace HB := HB.trans (HG11.below ing0 (by omega) HB.size)
  replace Ow0_0 := Ow0_0.keptL HG11 inw0 ing0 (by simp) (by omega)
  replace Ow0_1 := Ow0_1.keptL HG11 inw0 ing0 (by simp) (by omega)
  replace Ow0_2 := Ow0_2.keptL HG11 inw0 ing0 (by simp) (by omega)
  replace Ow0_3 := Ow0_3.keptL HG11 inw0 ing0 (by simp) (by omega)
  replace Ow0_4 := Ow0_4.keptL HG11 inw0 ing0 (by simp) (by omega)
  replace X1 := X1.keptL HG11 ing0 (by omega)
  replace X2 := X2.keptL HG11 ing0 (by omega)
  have X1_0 := (X1.cell 0).trans (show _ = some (.slice Aw0_0 (ncC xs tu se).rules.length cw0_0) from rfl)
  have X1_1 := (X1.cell 1).trans (show _ = some (.slice Aw0_1 (ncC xs tu se).pend.length cw0_1) from rfl)
  have X1_2 := (X1.cell 2).trans (show _ = some (.int .i64 (ncC xs tu se).turns) from rfl)
  have X1_3 := (X1.cell 3).trans (show _ = some (.int .i64 (ncC xs tu se).secs) from rfl)
  have X1_4 := (X1.cell 4).trans (show _ = some (.int .i64 (ncC xs tu se).spk) from rfl)
  have X1_5 := (X1.cell 5).trans (show _ = some (.slice Aw0_2 (ncC xs tu se).wait.length cw0_2) from rfl)
  have X1_6 := (X1.cell 6).trans (show _ = some (.slice Aw0_3 (ncC xs tu se).shares.length cw0_3) from rfl)
  have X1_7 := (X1.cell 7).trans (show _ = some (.slice Aw0_4 (ncC xs tu se).outs.length cw0_4) from rfl)
  have X1_8 := (X1.cell 8).trans (show _ = some (.string (ncC xs tu se).dur) from rfl)
  have X1_9 := (X1.cell 9).trans (show _ = some (.string (ncC xs tu se).pen) from rfl)
  have X1_10 := (X1.cell 10).trans (show _ = some (.int .i64 (ncC xs tu se).cnt) from rfl)
  have X2_0 := (X2.cell 0).trans (show _ = some (.slice Ag0_0 (ncC xs tu se).rules.length cg0_0) from rfl)
  have X2_1 := (X2.cell 1).trans (show _ = some (.slice Ag0_1 (ncC xs tu se).pend.length cg0_1) from rfl)
  have X2_2 := (X2.cell 2).trans (show _ = some (.int .i64 (ncC xs tu se).turns) from rfl)
  have X2_3 := (X2.cell 3).trans (show _ = some (.int .i64 (ncC xs tu se).secs) from rfl)
  have X2_4 := (X2.cell 4).trans (show _ = some (.int .i64 (ncC xs tu se).spk) from rfl)
  have X2_5 := (X2.cell 5).trans (show _ = some (.slice Ag0_2 (ncC xs tu se).wait.length cg0_2) from rfl)
  have X2_6 := (X2.cell 6).trans (show _ = some (.slice Ag0_3 (ncC xs tu se).shares.length cg0_3) from rfl)
  have X2_7 := (X2.cell 7).trans (show _ = some (.slice Ag0_4 (ncC xs tu se).outs.length cg0_4) from rfl)
  have X2_8 := (X2.cell 8).trans (show _ = some (.string (ncC xs tu se).dur) from rfl)
  have X2_9 := (X2.cell 9).trans (show _ = some (.string (ncC xs tu se).pen) from rfl)
  have X2_10 := (X2.cell 10).trans (show _ = some (.int .i64 (ncC xs tu se).cnt) from rfl)
  go_wp2_with fail
  refine (hdConsole_is (ncC xs tu se) Ag0_0 Ag0_1 Ag0_2 Ag0_3 Ag0_4 cg0_0 cg0_1 cg0_2 cg0_3 cg0_4 (nmM_len xs tu se hxs') (nmM_l1 xs tu se) (nmM_l2 xs tu se) (nmM_l3 xs tu se) (nmM_l4 xs tu se) (1) (by omega) (by omega) _ (M11_0.rds.below (by repeat (first | exact Below.refl _ _ | refine Below.alloc ?_ (by first | exact Nat.le_refl _ | (simp <;> omega)) _ | refine Below.setCell ?_ (by first | exact Nat.le_refl _ | (simp <;> omega)) _))) (M11_1.rds.below (by repeat (first | exact Below.refl _ _ | refine Below.alloc ?_ (by first | exact Nat.le_refl _ | (simp <;> omega)) _ | refine Below.setCell ?_ (by first | exact Nat.le_refl _ | (simp <;> omega)) _))) (M11_2.rds.below (by repeat (first | exact Below.refl _ _ | refine Below.alloc ?_ (by first | exact Nat.le_refl _ | (simp <;> omega)) _ | refine Below.setCell ?_ (by first | exact Nat.le_refl _ | (simp <;> omega)) _))) (M11_3.rds.below (by repeat (first | exact Below.refl _ _ | refine Below.alloc ?_ (by first | exact Nat.le_refl _ | (simp <;> omega)) _ | refine Below.setCell ?_ (by first | exact Nat.le_refl _ | (simp <;> omega)) _))) (M11_4.rds.below (by repeat (first | exact Below.refl _ _ | refine Below.alloc ?_ (by first | exact Nat.le_refl _ | (simp <;> omega)) _ | refine Below.setCell ?_ (by first | exact Nat.le_refl _ | (simp <;> omega)) _)))).mono ?_
  rintro e w12 ⟨rfl, hb12⟩
  clear X1_0 X1_1 X1_2 X1_3 X1_4 X1_5 X1_6 X1_7 X1_8 X1_9 X1_10
  clear X2_0 X2_1 X2_2 X2_3 X2_4 X2_5 X2_6 X2_7 X2_8 X2_9 X2_10
  have hq12 : Below w11.heap.size w11 w12 := bth (by repeat (first | exact Below.refl _ _ | refine Below.alloc ?_ (by first | exact Nat.le_refl _ | (simp <;> omega)) _ | refine Below.setCell ?_ (by first | exact Nat.le_refl _ | (simp <;> omega)) _)) hb12
  have z12 := hq12.size
  replace HB := bth HB hq12
  replace Ow0_0 := Ow0_0.later hq12
  replace Ow0_1 := Ow0_1.later hq12
  replace Ow0_2 := Ow0_2.later hq12
  replace Ow0_3 := Ow0_3.later hq12
  replace Ow0_4 := Ow0_4.later hq12
  replace M11_0 := M11_0.later hq12
  replace M11_1 := M11_1.later hq12
  replace M11_2 := M11_2.later hq12
  replace M11_3 := M11_3.later hq12
  replace M11_4 := M11_4.later hq12
  replace X1 := X1.below hq12 X1.lt
  replace X2 := X2.below hq12 X2.lt
  have X1_0 := (X1.cell 0).trans (show _ = some (.slice Aw0_0 (ncC xs tu se).rules.length cw0_0) from rfl)
  have X1_1 := (X1.cell 1).trans (show _ = some (.slice Aw0_1 (ncC xs tu se).pend.length cw0_1) from rfl)
  have X1_2 := (X1.cell 2).trans (show _ = some (.int .i64 (ncC xs tu se).turns) from rfl)
  have X1_3 := (X1.cell 3).trans (show _ = some (.int .i64 (ncC xs tu se).secs) from rfl)
  have X1_4 := (X1.cell 4).trans (show _ = some (.int .i64 (ncC xs tu se).spk) from rfl)
  have X1_5 := (X1.cell 5).trans (show _ = some (.slice Aw0_2 (ncC xs tu se).wait.length cw0_2) from rfl)
  have X1_6 := (X1.cell 6).trans (show _ = some (.slice Aw0_3 (ncC xs tu se).shares.length cw0_3) from rfl)
  have X1_7 := (X1.cell 7).trans (show _ = some (.slice Aw0_4 (ncC xs tu se).outs.length cw0_4) from rfl)
  have X1_8 := (X1.cell 8).trans (show _ = some (.string (ncC xs tu se).dur) from rfl)
  have X1_9 := (X1.cell 9).trans (show _ = some (.string (ncC xs tu se).pen) from rfl)
  have X1_10 := (X1.cell 10).trans (show _ = some (.int .i64 (ncC xs tu se).cnt) from rfl)
  have X2_0 := (X2.cell 0).trans (show _ = some (.slice Ag0_0 (ncC xs tu se).rules.length cg0_0) from rfl)
  have X2_1 := (X2.cell 1).trans (show _ = some (.slice Ag0_1 (ncC xs tu se).pend.length cg0_1) from rfl)
  have X2_2 := (X2.cell 2).trans (show _ = some (.int .i64 (ncC xs tu se).turns) from rfl)
  have X2_3 := (X2.cell 3).trans (show _ = some (.int .i64 (ncC xs tu se).secs) from rfl)
  have X2_4 := (X2.cell 4).trans (show _ = some (.int .i64 (ncC xs tu se).spk) from rfl)
  have X2_5 := (X2.cell 5).trans (show _ = some (.slice Ag0_2 (ncC xs tu se).wait.length cg0_2) from rfl)
  have X2_6 := (X2.cell 6).trans (show _ = some (.slice Ag0_3 (ncC xs tu se).shares.length cg0_3) from rfl)
  have X2_7 := (X2.cell 7).trans (show _ = some (.slice Ag0_4 (ncC xs tu se).outs.length cg0_4) from rfl)
  have X2_8 := (X2.cell 8).trans (show _ = some (.string (ncC xs tu se).dur) from rfl)
  have X2_9 := (X2.cell 9).trans (show _ = some (.string (ncC xs tu se).pen) from rfl)
  have X2_10 := (X2.cell 10).trans (show _ = some (.int .i64 (ncC xs tu se).cnt) from rfl)
  go_wp2_with fail
  refine (toRuleS_is Axs cxs xs hxs' _ (Rxs.below (bth HB (by repeat (first | exact Below.refl _ _ | refine Below.alloc ?_ (by first | exact Nat.le_refl _ | (simp <;> omega)) _ | refine Below.setCell ?_ (by first | exact Nat.le_refl _ | (simp <;> omega)) _))))).mono ?_
  rintro e w13 ⟨At0, rfl, Ot0, hb13⟩
  clear X1_0 X1_1 X1_2 X1_3 X1_4 X1_5 X1_6 X1_7 X1_8 X1_9 X1_10
  clear X2_0 X2_1 X2_2 X2_3 X2_4 X2_5 X2_6 X2_7 X2_8 X2_9 X2_10
  have hq13 : Below w12.heap.size w12 w13 := bth (by repeat (first | exact Below.refl _ _ | refine Below.alloc ?_ (by first | exact Nat.le_refl _ | (simp <;> omega)) _ | refine Below.setCell ?_ (by first | exact Nat.le_refl _ | (simp <;> omega)) _)) hb13
  have z13 := hq13.size
  replace HB := bth HB hq13
  replace Ow0_0 := Ow0_0.later hq13
  replace Ow0_1 := Ow0_1.later hq13
  replace Ow0_2 := Ow0_2.later hq13
  replace Ow0_3 := Ow0_3.later hq13
  replace Ow0_4 := Ow0_4.later hq13
  replace M11_0 := M11_0.later hq13
  replace M11_1 := M11_1.later hq13
  replace M11_2 := M11_2.later hq13
  replace M11_3 := M11_3.later hq13
  replace M11_4 := M11_4.later hq13
  replace X1 := X1.below hq13 X1.lt
  replace X2 := X2.below hq13 X2.lt
  have int0 : Within [.slice At0 xs.length xs.length] (w12.heap.size) (w13.heap.size) := by
    intro v hv k hk
    simp only [List.mem_cons, List.not_mem_nil, or_false] at hv
    subst hv
    have h := Ot0.lt k hk; (try simp at h); omega
  have X1_0 := (X1.cell 0).trans (show _ = some (.slice Aw0_0 (ncC xs tu se).rules.length cw0_0) from rfl)
  have X1_1 := (X1.cell 1).trans (show _ = some (.slice Aw0_1 (ncC xs tu se).pend.length cw0_1) from rfl)
  have X1_2 := (X1.cell 2).trans (show _ = some (.int .i64 (ncC xs tu se).turns) from rfl)
  have X1_3 := (X1.cell 3).trans (show _ = some (.int .i64 (ncC xs tu se).secs) from rfl)
  have X1_4 := (X1.cell 4).trans (show _ = some (.int .i64 (ncC xs tu se).spk) from rfl)
  have X1_5 := (X1.cell 5).trans (show _ = some (.slice Aw0_2 (ncC xs tu se).wait.length cw0_2) from rfl)
  have X1_6 := (X1.cell 6).trans (show _ = some (.slice Aw0_3 (ncC xs tu se).shares.length cw0_3) from rfl)
  have X1_7 := (X1.cell 7).trans (show _ = some (.slice Aw0_4 (ncC xs tu se).outs.length cw0_4) from rfl)
  have X1_8 := (X1.cell 8).trans (show _ = some (.string (ncC xs tu se).dur) from rfl)
  have X1_9 := (X1.cell 9).trans (show _ = some (.string (ncC xs tu se).pen) from rfl)
  have X1_10 := (X1.cell 10).trans (show _ = some (.int .i64 (ncC xs tu se).cnt) from rfl)
  have X2_0 := (X2.cell 0).trans (show _ = some (.slice Ag0_0 (ncC xs tu se).rules.length cg0_0) from rfl)
  have X2_1 := (X2.cell 1).trans (show _ = some (.slice Ag0_1 (ncC xs tu se).pend.length cg0_1) from rfl)
  have X2_2 := (X2.cell 2).trans (show _ = some (.int .i64 (ncC xs tu se).turns) from rfl)
  have X2_3 := (X2.cell 3).trans (show _ = some (.int .i64 (ncC xs tu se).secs) from rfl)
  have X2_4 := (X2.cell 4).trans (show _ = some (.int .i64 (ncC xs tu se).spk) from rfl)
  have X2_5 := (X2.cell 5).trans (show _ = some (.slice Ag0_2 (ncC xs tu se).wait.length cg0_2) from rfl)
  have X2_6 := (X2.cell 6).trans (show _ = some (.slice Ag0_3 (ncC xs tu se).shares.length cg0_3) from rfl)
  have X2_7 := (X2.cell 7).trans (show _ = some (.slice Ag0_4 (ncC xs tu se).outs.length cg0_4) from rfl)
  have X2_8 := (X2.cell 8).trans (show _ = some (.string (ncC xs tu se).dur) from rfl)
  have X2_9 := (X2.cell 9).trans (show _ = some (.string (ncC xs tu se).pen) from rfl)
  have X2_10 := (X2.cell 10).trans (show _ = some (.int .i64 (ncC xs tu se).cnt) from rfl)
  go_wp2_with fail
  refine (iNewConsole_is At0 xs.length xs hxs' tu se _ (Ot0.rds.below (by repeat (first | exact Below.refl _ _ | refine Below.alloc ?_ (by first | exact Nat.le_refl _ | (simp <;> omega)) _ | refine Below.setCell ?_ (by first | exact Nat.le_refl _ | (simp <;> omega)) _))) Ot0.nilOk (Nat.le_refl _)).mono ?_
  rintro e w14 ⟨Ah0_0, ch0_0, Ah0_1, ch0_1, Ah0_2, ch0_2, Ah0_3, ch0_3, Ah0_4, ch0_4, rfl, Oh0_0, Oh0_1, Oh0_2, Oh0_3, Oh0_4, aph0, hb14⟩
  clear X1_0 X1_1 X1_2 X1_3 X1_4 X1_5 X1_6 X1_7 X1_8 X1_9 X1_10
  clear X2_0 X2_1 X2_2 X2_3 X2_4 X2_5 X2_6 X2_7 X2_8 X2_9 X2_10
  have hq14 : Below w13.heap.size w13 w14 := bth (by repeat (first | exact Below.refl _ _ | refine Below.alloc ?_ (by first | exact Nat.le_refl _ | (simp <;> omega)) _ | refine Below.setCell ?_ (by first | exact Nat.le_refl _ | (simp <;> omega)) _)) hb14
  have z14 := hq14.size
  replace HB := bth HB hq14
  replace Ow0_0 := Ow0_0.later hq14
  replace Ow0_1 := Ow0_1.later hq14
  replace Ow0_2 := Ow0_2.later hq14
  replace Ow0_3 := Ow0_3.later hq14
  replace Ow0_4 := Ow0_4.later hq14
  replace M11_0 := M11_0.later hq14
  replace M11_1 := M11_1.later hq14
  replace M11_2 := M11_2.later hq14
  replace M11_3 := M11_3.later hq14
  replace M11_4 := M11_4.later hq14
  replace Ot0 := Ot0.later hq14
  replace X1 := X1.below hq14 X1.lt
  replace X2 := X2.below hq14 X2.lt
  have inh0 : Within [.slice Ah0_0 (ncC xs tu se).rules.length ch0_0, .slice Ah0_1 (ncC xs tu se).pend.length ch0_1, .slice Ah0_2 (ncC xs tu se).wait.length ch0_2, .slice Ah0_3 (ncC xs tu se).shares.length ch0_3, .slice Ah0_4 (ncC xs tu se).outs.length ch0_4] (w13.heap.size) (w14.heap.size) := by
    intro v hv k hk
    simp only [List.mem_cons, List.not_mem_nil, or_false] at hv
    rcases hv with rfl | hv
    · have h := Oh0_0.lt k hk; (try simp at h); omega
    rcases hv with rfl | hv
    · have h := Oh0_1.lt k hk; (try simp at h); omega
    rcases hv with rfl | hv
    · have h := Oh0_2.lt k hk; (try simp at h); omega
    rcases hv with rfl | hv
    · have h := Oh0_3.lt k hk; (try simp at h); omega
    subst hv
    have h := Oh0_4.lt k hk; (try simp at h); omega
  have X1_l0 : w3.heap.size < w14.heap.size := by have h := X1.lt; omega
  have X1_0 := (X1.cell 0).trans (show _ = some (.slice Aw0_0 (ncC xs tu se).rules.length cw0_0) from rfl)
  have X1_1 := (X1.cell 1).trans (show _ = some (.slice Aw0_1 (ncC xs tu se).pend.length cw0_1) from rfl)
  have X1_2 := (X1.cell 2).trans (show _ = some (.int .i64 (ncC xs tu se).turns) from rfl)
  have X1_3 := (X1.cell 3).trans (show _ = some (.int .i64 (ncC xs tu se).secs) from rfl)
  have X1_4 := (X1.cell 4).trans (show _ = some (.int .i64 (ncC xs tu se).spk) from rfl)
  have X1_5 := (X1.cell 5).trans (show _ = some (.slice Aw0_2 (ncC xs tu se).wait.length cw0_2) from rfl)
  have X1_6 := (X1.cell 6).trans (show _ = some (.slice Aw0_3 (ncC xs tu se).shares.length cw0_3) from rfl)
  have X1_7 := (X1.cell 7).trans (show _ = some (.slice Aw0_4 (ncC xs tu se).outs.length cw0_4) from rfl)
  have X1_8 := (X1.cell 8).trans (show _ = some (.string (ncC xs tu se).dur) from rfl)
  have X1_9 := (X1.cell 9).trans (show _ = some (.string (ncC xs tu se).pen) from rfl)
  have X1_10 := (X1.cell 10).trans (show _ = some (.int .i64 (ncC xs tu se).cnt) from rfl)
  have X2_l0 : w5.heap.size < w14.heap.size := by have h := X2.lt; omega
  have X2_0 := (X2.cell 0).trans (show _ = some (.slice Ag0_0 (ncC xs tu se).rules.length cg0_0) from rfl)
  have X2_1 := (X2.cell 1).trans (show _ = some (.slice Ag0_1 (ncC xs tu se).pend.length cg0_1) from rfl)
  have X2_2 := (X2.cell 2).trans (show _ = some (.int .i64 (ncC xs tu se).turns) from rfl)
  have X2_3 := (X2.cell 3).trans (show _ = some (.int .i64 (ncC xs tu se).secs) from rfl)
  have X2_4 := (X2.cell 4).trans (show _ = some (.int .i64 (ncC xs tu se).spk) from rfl)
  have X2_5 := (X2.cell 5).trans (show _ = some (.slice Ag0_2 (ncC xs tu se).wait.length cg0_2) from rfl)
  have X2_6 := (X2.cell 6).trans (show _ = some (.slice Ag0_3 (ncC xs tu se).shares.length cg0_3) from rfl)
  have X2_7 := (X2.cell 7).trans (show _ = some (.slice Ag0_4 (ncC xs tu se).outs.length cg0_4) from rfl)
  have X2_8 := (X2.cell 8).trans (show _ = some (.string (ncC xs tu se).dur) from rfl)
  have X2_9 := (X2.cell 9).trans (show _ = some (.string (ncC xs tu se).pen) from rfl)
  have X2_10 := (X2.cell 10).trans (show _ = some (.int .i64 (ncC xs tu se).cnt) from rfl)
  go_wp2_with fail
  refine (eqConsole_is (ncC xs tu se) Ah0_0 Ah0_1 Ah0_2 Ah0_3 Ah0_4 Aw0_0 Aw0_1 Aw0_2 Aw0_3 Aw0_4 ch0_0 ch0_1 ch0_2 ch0_3 ch0_4 cw0_0 cw0_1 cw0_2 cw0_3 cw0_4 (nmM_len xs tu se hxs') (nmM_l1 xs tu se) (nmM_l2 xs tu se) (nmM_l3 xs tu se) (nmM_l4 xs tu se) _ (Oh0_0.rds.below (by repeat (first | exact Below.refl _ _ | refine Below.alloc ?_ (by first | exact Nat.le_refl _ | (simp <;> omega)) _ | refine Below.setCell ?_ (by first | exact Nat.le_refl _ | (simp <;> omega)) _))) (Oh0_1.rds.below (by repeat (first | exact Below.refl _ _ | refine Below.alloc ?_ (by first | exact Nat.le_refl _ | (simp <;> omega)) _ | refine Below.setCell ?_ (by first | exact Nat.le_refl _ | (simp <;> omega)) _))) (Oh0_2.rds.below (by repeat (first | exact Below.refl _ _ | refine Below.alloc ?_ (by first | exact Nat.le_refl _ | (simp <;> omega)) _ | refine Below.setCell ?_ (by first | exact Nat.le_refl _ | (simp <;> omega)) _))) (Oh0_3.rds.below (by repeat (first | exact Below.refl _ _ | refine Below.alloc ?_ (by first | exact Nat.le_refl _ | (simp <;> omega)) _ | refine Below.setCell ?_ (by first | exact Nat.le_refl _ | (simp <;> omega)) _))) (Oh0_4.rds.below (by repeat (first | exact Below.refl _ _ | refine Below.alloc ?_ (by first | exact Nat.le_refl _ | (simp <;> omega)) _ | refine Below.setCell ?_ (by first | exact Nat.le_refl _ | (simp <;> omega)) _))) (Ow0_0.rds.below (by repeat (first | exact Below.refl _ _ | refine Below.alloc ?_ (by first | exact Nat.le_refl _ | (simp <;> omega)) _ | refine Below.setCell ?_ (by first | exact Nat.le_refl _ | (simp <;> omega)) _))) (Ow0_1.rds.below (by repeat (first | exact Below.refl _ _ | refine Below.alloc ?_ (by first | exact Nat.le_refl _ | (simp <;> omega)) _ | refine Below.setCell ?_ (by first | exact Nat.le_refl _ | (simp <;> omega)) _))) (Ow0_2.rds.below (by repeat (first | exact Below.refl _ _ | refine Below.alloc ?_ (by first | exact Nat.le_refl _ | (simp <;> omega)) _ | refine Below.setCell ?_ (by first | exact Nat.le_refl _ | (simp <;> omega)) _))) (Ow0_3.rds.below (by repeat (first | exact Below.refl _ _ | refine Below.alloc ?_ (by first | exact Nat.le_refl _ | (simp <;> omega)) _ | refine Below.setCell ?_ (by first | exact Nat.le_refl _ | (simp <;> omega)) _))) (Ow0_4.rds.below (by repeat (first | exact Below.refl _ _ | refine Below.alloc ?_ (by first | exact Nat.le_refl _ | (simp <;> omega)) _ | refine Below.setCell ?_ (by first | exact Nat.le_refl _ | (simp <;> omega)) _)))).mono ?_
  rintro e w15 ⟨rfl, hb15⟩
  clear X1_l0 X1_0 X1_1 X1_2 X1_3 X1_4 X1_5 X1_6 X1_7 X1_8 X1_9 X1_10
  clear X2_l0 X2_0 X2_1 X2_2 X2_3 X2_4 X2_5 X2_6 X2_7 X2_8 X2_9 X2_10
  have hq15 : Below w14.heap.size w14 w15 := bth (by repeat (first | exact Below.refl _ _ | refine Below.alloc ?_ (by first | exact Nat.le_refl _ | (simp <;> omega)) _ | refine Below.setCell ?_ (by first | exact Nat.le_refl _ | (simp <;> omega)) _)) hb15
  have z15 := hq15.size
  replace HB := bth HB hq15
  replace Ow0_0 := Ow0_0.later hq15
  replace Ow0_1 := Ow0_1.later hq15
  replace Ow0_2 := Ow0_2.later hq15
  replace Ow0_3 := Ow0_3.later hq15
  replace Ow0_4 := Ow0_4.later hq15
  replace M11_0 := M11_0.later hq15
  replace M11_1 := M11_1.later hq15
  replace M11_2 := M11_2.later hq15
  replace M11_3 := M11_3.later hq15
  replace M11_4 := M11_4.later hq15
  replace Oh0_0 := Oh0_0.later hq15
  replace Oh0_1 := Oh0_1.later hq15
  replace Oh0_2 := Oh0_2.later hq15
  replace Oh0_3 := Oh0_3.later hq15
  replace Oh0_4 := Oh0_4.later hq15
  replace X1 := X1.below hq15 X1.lt
  replace X2 := X2.below hq15 X2.lt
  have X3 : Blk w15 (w14.heap.size) 62 #[.slice Ah0_0 (ncC xs tu se).rules.length ch0_0, .slice Ah0_1 (ncC xs tu se).pend.length ch0_1, .int .i64 (ncC xs tu se).turns, .int .i64 (ncC xs tu se).secs, .int .i64 (ncC xs tu se).spk, .slice Ah0_2 (ncC xs tu se).wait.length ch0_2, .slice Ah0_3 (ncC xs tu se).shares.length ch0_3, .slice Ah0_4 (ncC xs tu se).outs.length ch0_4, .string (ncC xs tu se).dur, .string (ncC xs tu se).pen, .int .i64 (ncC xs tu se).cnt] := Blk.below (by repeat (first | exact Blk.new _ _ _ | exact Blk.new2 _ _ _ _ | exact Blk.new3 _ _ _ _ _ | refine Blk.alloc ?_ _)) hb15 (by simp <;> omega)
  have yX3 := X3.lt
  have X1_0 := (X1.cell 0).trans (show _ = some (.slice Aw0_0 (ncC xs tu se).rules.length cw0_0) from rfl)
  have X1_1 := (X1.cell 1).trans (show _ = some (.slice Aw0_1 (ncC xs tu se).pend.length cw0_1) from rfl)
  have X1_2 := (X1.cell 2).trans (show _ = some (.int .i64 (ncC xs tu se).turns) from rfl)
  have X1_3 := (X1.cell 3).trans (show _ = some (.int .i64 (ncC xs tu se).secs) from rfl)
  have X1_4 := (X1.cell 4).trans (show _ = some (.int .i64 (ncC xs tu se).spk) from rfl)
  have X1_5 := (X1.cell 5).trans (show _ = some (.slice Aw0_2 (ncC xs tu se).wait.length cw0_2) from rfl)
  have X1_6 := (X1.cell 6).trans (show _ = some (.slice Aw0_3 (ncC xs tu se).shares.length cw0_3) from rfl)
  have X1_7 := (X1.cell 7).trans (show _ = some (.slice Aw0_4 (ncC xs tu se).outs.length cw0_4) from rfl)
  have X1_8 := (X1.cell 8).trans (show _ = some (.string (ncC xs tu se).dur) from rfl)
  have X1_9 := (X1.cell 9).trans (show _ = some (.string (ncC xs tu se).pen) from rfl)
  have X1_10 := (X1.cell 10).trans (show _ = some (.int .i64 (ncC xs tu se).cnt) from rfl)
  have X2_0 := (X2.cell 0).trans (show _ = some (.slice Ag0_0 (ncC xs tu se).rules.length cg0_0) from rfl)
  have X2_1 := (X2.cell 1).trans (show _ = some (.slice Ag0_1 (ncC xs tu se).pend.length cg0_1) from rfl)
  have X2_2 := (X2.cell 2).trans (show _ = some (.int .i64 (ncC xs tu se).turns) from rfl)
  have X2_3 := (X2.cell 3).trans (show _ = some (.int .i64 (ncC xs tu se).secs) from rfl)
  have X2_4 := (X2.cell 4).trans (show _ = some (.int .i64 (ncC xs tu se).spk) from rfl)
  have X2_5 := (X2.cell 5).trans (show _ = some (.slice Ag0_2 (ncC xs tu se).wait.length cg0_2) from rfl)
  have X2_6 := (X2.cell 6).trans (show _ = some (.slice Ag0_3 (ncC xs tu se).shares.length cg0_3) from rfl)
  have X2_7 := (X2.cell 7).trans (show _ = some (.slice Ag0_4 (ncC xs tu se).outs.length cg0_4) from rfl)
  have X2_8 := (X2.cell 8).trans (show _ = some (.string (ncC xs tu se).dur) from rfl)
  have X2_9 := (X2.cell 9).trans (show _ = some (.string (ncC xs tu se).pen) from rfl)
  have X2_10 := (X2.cell 10).trans (show _ = some (.int .i64 (ncC xs tu se).cnt) from rfl)
  have X3_0 := (X3.cell 0).trans (show _ = some (.slice Ah0_0 (ncC xs tu se).rules.length ch0_0) from rfl)
  have X3_1 := (X3.cell 1).trans (show _ = some (.slice Ah0_1 (ncC xs tu se).pend.length ch0_1) from rfl)
  have X3_2 := (X3.cell 2).trans (show _ = some (.int .i64 (ncC xs tu se).turns) from rfl)
  have X3_3 := (X3.cell 3).trans (show _ = some (.int .i64 (ncC xs tu se).secs) from rfl)
  have X3_4 := (X3.cell 4).trans (show _ = some (.int .i64 (ncC xs tu se).spk) from rfl)
  have X3_5 := (X3.cell 5).trans (show _ = some (.slice Ah0_2 (ncC xs tu se).wait.length ch0_2) from rfl)
  have X3_6 := (X3.cell 6).trans (show _ = some (.slice Ah0_3 (ncC xs tu se).shares.length ch0_3) from rfl)
  have X3_7 := (X3.cell 7).trans (show _ = some (.slice Ah0_4 (ncC xs tu se).outs.length ch0_4) from rfl)
  have X3_8 := (X3.cell 8).trans (show _ = some (.string (ncC xs tu se).dur) from rfl)
  have X3_9 := (X3.cell 9).trans (show _ = some (.string (ncC xs tu se).pen) from rfl)
  have X3_10 := (X3.cell 10).trans (show _ = some (.int .i64 (ncC xs tu se).cnt) from rfl)
  go_wp2_with fail
  refine (hdConsole_is (ncC xs tu se) Ag0_0 Ag0_1 Ag0_2 Ag0_3 Ag0_4 cg0_0 cg0_1 cg0_2 cg0_3 cg0_4 (nmM_len xs tu se hxs') (nmM_l1 xs tu se) (nmM_l2 xs tu se) (nmM_l3 xs tu se) (nmM_l4 xs tu se) (1) (by omega) (by omega) _ (M11_0.rds.below (by repeat (first | exact Below.refl _ _ | refine Below.alloc ?_ (by first | exact Nat.le_refl _ | (simp <;> omega)) _ | refine Below.setCell ?_ (by first | exact Nat.le_refl _ | (simp <;> omega)) _))) (M11_1.rds.below (by repeat (first | exact Below.refl _ _ | refine Below.alloc ?_ (by first | exact Nat.le_refl _ | (simp <;> omega)) _ | refine Below.setCell ?_ (by first | exact Nat.le_refl _ | (simp <;> omega)) _))) (M11_2.rds.below (by repeat (first | exact Below.refl _ _ | refine Below.alloc ?_ (by first | exact Nat.le_refl _ | (simp <;> omega)) _ | refine Below.setCell ?_ (by first | exact Nat.le_refl _ | (simp <;> omega)) _))) (M11_3.rds.below (by repeat (first | exact Below.refl _ _ | refine Below.alloc ?_ (by first | exact Nat.le_refl _ | (simp <;> omega)) _ | refine Below.setCell ?_ (by first | exact Nat.le_refl _ | (simp <;> omega)) _))) (M11_4.rds.below (by repeat (first | exact Below.refl _ _ | refine Below.alloc ?_ (by first | exact Nat.le_refl _ | (simp <;> omega)) _ | refine Below.setCell ?_ (by first | exact Nat.le_refl _ | (simp <;> omega)) _)))).mono ?_
  rintro e w16 ⟨rfl, hb16⟩
  clear X1_0 X1_1 X1_2 X1_3 X1_4 X1_5 X1_6 X1_7 X1_8 X1_9 X1_10
  clear X2_0 X2_1 X2_2 X2_3 X2_4 X2_5 X2_6 X2_7 X2_8 X2_9 X2_10
  clear X3_0 X3_1 X3_2 X3_3 X3_4 X3_5 X3_6 X3_7 X3_8 X3_9 X3_10
  have hq16 : Below w15.heap.size w15 w16 := bth (by repeat (first | exact Below.refl _ _ | refine Below.alloc ?_ (by first | exact Nat.le_refl _ | (simp <;> omega)) _ | refine Below.setCell ?_ (by first | exact Nat.le_refl _ | (simp <;> omega)) _)) hb16
  have z16 := hq16.size
  replace HB := bth HB hq16
  replace Ow0_0 := Ow0_0.later hq16
  replace Ow0_1 := Ow0_1.later hq16
  replace Ow0_2 := Ow0_2.later hq16
  replace Ow0_3 := Ow0_3.later hq16
  replace Ow0_4 := Ow0_4.later hq16
  replace M11_0 := M11_0.later hq16
  replace M11_1 := M11_1.later hq16
  replace M11_2 := M11_2.later hq16
  replace M11_3 := M11_3.later hq16
  replace M11_4 := M11_4.later hq16
  replace Oh0_0 := Oh0_0.later hq16
  replace Oh0_1 := Oh0_1.later hq16
  replace Oh0_2 := Oh0_2.later hq16
  replace Oh0_3 := Oh0_3.later hq16
  replace Oh0_4 := Oh0_4.later hq16
  replace X1 := X1.below hq16 X1.lt
  replace X2 := X2.below hq16 X2.lt
  replace X3 := X3.below hq16 X3.lt
  have X1_0 := (X1.cell 0).trans (show _ = some (.slice Aw0_0 (ncC xs tu se).rules.length cw0_0) from rfl)
  have X1_1 := (X1.cell 1).trans (show _ = some (.slice Aw0_1 (ncC xs tu se).pend.length cw0_1) from rfl)
  have X1_2 := (X1.cell 2).trans (show _ = some (.int .i64 (ncC xs tu se).turns) from rfl)
  have X1_3 := (X1.cell 3).trans (show _ = some (.int .i64 (ncC xs tu se).secs) from rfl)
  have X1_4 := (X1.cell 4).trans (show _ = some (.int .i64 (ncC xs tu se).spk) from rfl)
  have X1_5 := (X1.cell 5).trans (show _ = some (.slice Aw0_2 (ncC xs tu se).wait.length cw0_2) from rfl)
  have X1_6 := (X1.cell 6).trans (show _ = some (.slice Aw0_3 (ncC xs tu se).shares.length cw0_3) from rfl)
  have X1_7 := (X1.cell 7).trans (show _ = some (.slice Aw0_4 (ncC xs tu se).outs.length cw0_4) from rfl)
  have X1_8 := (X1.cell 8).trans (show _ = some (.string (ncC xs tu se).dur) from rfl)
  have X1_9 := (X1.cell 9).trans (show _ = some (.string (ncC xs tu se).pen) from rfl)
  have X1_10 := (X1.cell 10).trans (show _ = some (.int .i64 (ncC xs tu se).cnt) from rfl)
  have X2_0 := (X2.cell 0).trans (show _ = some (.slice Ag0_0 (ncC xs tu se).rules.length cg0_0) from rfl)
  have X2_1 := (X2.cell 1).trans (show _ = some (.slice Ag0_1 (ncC xs tu se).pend.length cg0_1) from rfl)
  have X2_2 := (X2.cell 2).trans (show _ = some (.int .i64 (ncC xs tu se).turns) from rfl)
  have X2_3 := (X2.cell 3).trans (show _ = some (.int .i64 (ncC xs tu se).secs) from rfl)
  have X2_4 := (X2.cell 4).trans (show _ = some (.int .i64 (ncC xs tu se).spk) from rfl)
  have X2_5 := (X2.cell 5).trans (show _ = some (.slice Ag0_2 (ncC xs tu se).wait.length cg0_2) from rfl)
  have X2_6 := (X2.cell 6).trans (show _ = some (.slice Ag0_3 (ncC xs tu se).shares.length cg0_3) from rfl)
  have X2_7 := (X2.cell 7).trans (show _ = some (.slice Ag0_4 (ncC xs tu se).outs.length cg0_4) from rfl)
  have X2_8 := (X2.cell 8).trans (show _ = some (.string (ncC xs tu se).dur) from rfl)
  have X2_9 := (X2.cell 9).trans (show _ = some (.string (ncC xs tu se).pen) from rfl)
  have X2_10 := (X2.cell 10).trans (show _ = some (.int .i64 (ncC xs tu se).cnt) from rfl)
  have X3_0 := (X3.cell 0).trans (show _ = some (.slice Ah0_0 (ncC xs tu se).rules.length ch0_0) from rfl)
  have X3_1 := (X3.cell 1).trans (show _ = some (.slice Ah0_1 (ncC xs tu se).pend.length ch0_1) from rfl)
  have X3_2 := (X3.cell 2).trans (show _ = some (.int .i64 (ncC xs tu se).turns) from rfl)
  have X3_3 := (X3.cell 3).trans (show _ = some (.int .i64 (ncC xs tu se).secs) from rfl)
  have X3_4 := (X3.cell 4).trans (show _ = some (.int .i64 (ncC xs tu se).spk) from rfl)
  have X3_5 := (X3.cell 5).trans (show _ = some (.slice Ah0_2 (ncC xs tu se).wait.length ch0_2) from rfl)
  have X3_6 := (X3.cell 6).trans (show _ = some (.slice Ah0_3 (ncC xs tu se).shares.length ch0_3) from rfl)
  have X3_7 := (X3.cell 7).trans (show _ = some (.slice Ah0_4 (ncC xs tu se).outs.length ch0_4) from rfl)
  have X3_8 := (X3.cell 8).trans (show _ = some (.string (ncC xs tu se).dur) from rfl)
  have X3_9 := (X3.cell 9).trans (show _ = some (.string (ncC xs tu se).pen) from rfl)
  have X3_10 := (X3.cell 10).trans (show _ = some (.int .i64 (ncC xs tu se).cnt) from rfl)
  go_wp2
  go_ret
  exact ⟨rfl, bth HB (by repeat (first | exact Below.refl _ _ | refine Below.alloc ?_ (by first | exact Nat.le_refl _ | (simp <;> omega)) _ | refine Below.setCell ?_ (by first | exact Nat.le_refl _ | (simp <;> omega)) _))⟩
open Go.ChangeShapes Go.WideShapes Go.ChangeAt Go.Deep
set_option maxRecDepth 100000 in
theorem newConsole_lifted (os : Os) (started : os.Started) (H : Type) (enc : TypeId × Value → H) :
    ReturnsInHanded {} Try.checked os 8 .any (Rows.fnExactNewConsoleSpec.pre6 enc Try.prog Try.f8 Rows.fnExactNewConsoleRow.domain false) (Rows.fnExactNewConsoleSpec.post enc Try.prog Try.f8 false true false false) := by
  refine law_lift (C := Try.checked) (rt := 4) prog_own started (by kernel_rfl) Try.func8
    (ChangeSpec.witness6 (enc := enc) (C := Try.checked) false ⟨#[], #[.slice none 0 0,  .int .i64 0,  .int .i64 0], []⟩ 8 (by kernel_rfl) (by kernel_rfl) (by kernel_rfl) (by kernel_rfl))
    prog_laid (by rw [Try.params8]; intro t ht; simp at ht; rcases ht with rfl | rfl | rfl; all_goals exact ⟨by kernel_rfl, of_decide_eq_true (by kernel_rfl)⟩) rfl Try.underlying4 rfl
    (by rw [Try.params8]; intro l hl; match l, hl with | [d0, d1, d2], _ => rfl) ?_
  intro W base args ds p hval hA
  rw [Try.params8] at hA hval
  obtain ⟨v0, v1, v2, d0, d1, d2, p0, p1, p2, rfl, rfl, rfl, h0, h1, h2⟩ := trodAll_three hA
  obtain ⟨tu, rfl, rfl, rfl, wtu⟩ := open_int Try.underlying3 (hval 1 3 v1 rfl rfl) h1
  obtain ⟨se, rfl, rfl, rfl, wse⟩ := open_int Try.underlying3 (hval 2 3 v2 rfl rfl) h2
  obtain ⟨a_xs, len_xs, cap_xs, rfl⟩ := okWide_slice Try.underlying22 (hval 0 22 v0 rfl rfl)
  obtain ⟨fuel_xs, f_xs⟩ := h0
  obtain ⟨A_xs, c_xs, xs, e_xs, l_xs, R_xs⟩ := rd_slice Rul.cells 7 (by decide) Try.underlying22 cells_Rul (fun _ _ _ h => rd_Rul h) f_xs
  simp [Value.cells] at e_xs
  obtain ⟨rfl, rfl, rfl⟩ := e_xs
  exact law_newConsole _ _ xs l_xs tu se W R_xs
theorem newConsole_holds : Rows.FnExactNewConsoleSaid :=
  OpenClaim.holds_of_wide 8 Try.f8 rfl rfl rfl rfl rfl rfl rfl ⟨rfl, rfl, rfl, rfl, rfl⟩ rfl rfl rfl rfl rfl (by kernel_rfl) Try.func8 (by kernel_rfl)
    (of_decide_eq_true (by kernel_rfl)) (by unfold Func.isWrapper; rw [if_neg (of_decide_eq_false (by kernel_rfl))]; exact ⟨rfl, rfl⟩)
    (fun os started H enc _ => newConsole_lifted os started H enc)
#print axioms newConsole_holds
end Go.Proofs.Ytkkdegmfmimdgaa
