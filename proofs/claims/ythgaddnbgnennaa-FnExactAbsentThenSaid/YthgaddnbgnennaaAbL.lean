/- The law of AbsentThen: the program's answer is the reference's, the arguments stay, and the result is its own memory. -/
import Derived.Test.YthgaddnbgnennaaAbI
import Derived.Test.YthgaddnbgnennaaAbS
import Derived.Test.YthgaddnbgnennaaMkD
import Derived.Test.YthgaddnbgnennaaMkI
import Derived.Test.YthgaddnbgnennaaLg
import Derived.Test.YthgaddnbgnennaaRead
import Derived.Deep.RegionHeld3
namespace Go.Proofs.Ythgaddnbgnennaa
open Go.RowKit Go.G9
theorem sAbsentN_is (d : Dec) (Y N : Option Addr) (yc nc : Nat) (hy : d.yes.length ≤ 1048576) (hn : d.no.length ≤ 1048576) (E : Option Addr) (ec : Nat) (es : List Int) (he : es.length ≤ 1048576) (F : Option Addr) (fc : Nat) (fs : List Int) (hf : fs.length ≤ 1048576) (w : World)
    (hRy : Rds 1 intC w Y d.yes) (hRn : Rds 1 intC w N d.no) (hRe : Rds 1 intC w E es) (hRf : Rds 1 intC w F fs) (_ : Y = none → d.yes = [] ∧ yc = 0) (_ : N = none → d.no = [] ∧ nc = 0) (_ : E = none → es = [] ∧ ec = 0) (_ : F = none → fs = [] ∧ fc = 0) :
  Calls Try.prog 40 #[.agg #[.int .i64 d.id, .int .i64 d.day, .int .i64 d.need, .slice Y d.yes.length yc, .slice N d.no.length nc, .bool d.done], .slice E es.length ec, .slice F fs.length fc] w
    fun e w' => ∃ A c, e = .returned (.tuple #[.slice A (abL d es fs).length c, .bool (cmOk d es fs)]) ∧ OwnV w.heap.size 3 1 intC w' (.slice A (abL d es fs).length c) (abL d es fs) ∧ Below w.heap.size w w' := sAbsent_is d Y N yc nc hy hn E F ec fc es fs he hf w hRy hRn hRe hRf
theorem iAbsentN_is (d : Dec) (Y N : Option Addr) (yc nc : Nat) (hy : d.yes.length ≤ 1048576) (hn : d.no.length ≤ 1048576) (E : Option Addr) (ec : Nat) (es : List Int) (he : es.length ≤ 1048576) (F : Option Addr) (fc : Nat) (fs : List Int) (hf : fs.length ≤ 1048576) (w : World)
    (hRy : Rds 1 intC w Y d.yes) (hRn : Rds 1 intC w N d.no) (hRe : Rds 1 intC w E es) (hRf : Rds 1 intC w F fs) (_ : Y = none → d.yes = [] ∧ yc = 0) (_ : N = none → d.no = [] ∧ nc = 0) (hEn : E = none → es = [] ∧ ec = 0) (hFn : F = none → fs = [] ∧ fc = 0) :
  Calls Try.prog 41 #[.agg #[.int .i64 d.id, .int .i64 d.day, .int .i64 d.need, .slice Y d.yes.length yc, .slice N d.no.length nc, .bool d.done], .slice E es.length ec, .slice F fs.length fc] w
    fun e w' => ∃ A c, e = .returned (.tuple #[.slice A (abL d es fs).length c, .bool (cmOk d es fs)]) ∧ OwnV w.heap.size 3 1 intC w' (.slice A (abL d es fs).length c) (abL d es fs) ∧ Below w.heap.size w w' := iAbsent_is d Y N yc nc hy hn E F ec fc es fs he hf w hRy hRn hRe hRf hEn hFn
theorem abL_len' (d : Dec) (es fs : List Int) : (abL d es fs).length ≤ 1048576 := by have := abL_len d es fs; omega
set_option maxHeartbeats 8000000 in
set_option maxRecDepth 100000 in
theorem law_absentThen (d : Dec) (Ad_0 Ad_1 : Option Addr) (cd_0 cd_1 : Nat) (hd_0 : d.yes.length ≤ maxLen) (hd_1 : d.no.length ≤ maxLen) (Aes : Option Addr) (ces : Nat) (es : List Int) (hes : es.length ≤ maxLen) (Afs : Option Addr) (cfs : Nat) (fs : List Int) (hfs : fs.length ≤ maxLen) (w : World) (Rd_0 : Rds 1 intC w Ad_0 d.yes) (Rd_1 : Rds 1 intC w Ad_1 d.no) (Res : Rds 1 intC w Aes es) (Rfs : Rds 1 intC w Afs fs) :
  Calls Try.prog 9 #[.agg #[.int .i64 d.id, .int .i64 d.day, .int .i64 d.need, .slice Ad_0 d.yes.length cd_0, .slice Ad_1 d.no.length cd_1, .bool d.done], .slice Aes es.length ces, .slice Afs fs.length cfs] w fun e w' => e = .returned (.bool true) ∧ Below w.heap.size w w' := by
  by_cases hes' : es.length ≤ 1048576
  case neg =>
    unfold maxLen at hes
    go_enter Try.func9, Try.ntmps9
    go_wp2
    go_ret
    exact ⟨rfl, by repeat (first | exact Below.refl _ _ | refine Below.alloc ?_ (by first | exact Nat.le_refl _ | (simp <;> omega)) _ | refine Below.setCell ?_ (by first | exact Nat.le_refl _ | (simp <;> omega)) _)⟩
  by_cases hfs' : fs.length ≤ 1048576
  case neg =>
    unfold maxLen at hfs
    go_enter Try.func9, Try.ntmps9
    go_wp2
    go_ret
    exact ⟨rfl, by repeat (first | exact Below.refl _ _ | refine Below.alloc ?_ (by first | exact Nat.le_refl _ | (simp <;> omega)) _ | refine Below.setCell ?_ (by first | exact Nat.le_refl _ | (simp <;> omega)) _)⟩
  go_enter Try.func9, Try.ntmps9
  go_wp2_with fail
  refine (szDecided_is d Ad_0 Ad_1 cd_0 cd_1 hd_0 hd_1 1048576 (by omega) (by omega) _).mono ?_
  rintro e w1 ⟨r0, rfl, hr0, hs0, hl0, hb1⟩
  have hq1 : Below w.heap.size w w1 := bth (by repeat (first | exact Below.refl _ _ | refine Below.alloc ?_ (by first | exact Nat.le_refl _ | (simp <;> omega)) _ | refine Below.setCell ?_ (by first | exact Nat.le_refl _ | (simp <;> omega)) _)) hb1
  have z1 := hq1.size
  have HB : Below w.heap.size w w1 := hq1
  have X1 : Blk w1 (w.heap.size) 24 #[.int .i64 d.id, .int .i64 d.day, .int .i64 d.need, .slice Ad_0 d.yes.length cd_0, .slice Ad_1 d.no.length cd_1, .bool d.done] := Blk.below (by repeat (first | exact Blk.new _ _ _ | exact Blk.new2 _ _ _ _ | exact Blk.new3 _ _ _ _ _ | refine Blk.alloc ?_ _)) hb1 (by simp <;> omega)
  have yX1 := X1.lt
  have X1_0 := (X1.cell 0).trans (show _ = some (.int .i64 d.id) from rfl)
  have X1_1 := (X1.cell 1).trans (show _ = some (.int .i64 d.day) from rfl)
  have X1_2 := (X1.cell 2).trans (show _ = some (.int .i64 d.need) from rfl)
  have X1_3 := (X1.cell 3).trans (show _ = some (.slice Ad_0 d.yes.length cd_0) from rfl)
  have X1_4 := (X1.cell 4).trans (show _ = some (.slice Ad_1 d.no.length cd_1) from rfl)
  have X1_5 := (X1.cell 5).trans (show _ = some (.bool d.done) from rfl)
  by_cases h00 : r0 < 0
  · go_wp2
    go_ret
    exact ⟨rfl, bth HB (by repeat (first | exact Below.refl _ _ | refine Below.alloc ?_ (by first | exact Nat.le_refl _ | (simp <;> omega)) _ | refine Below.setCell ?_ (by first | exact Nat.le_refl _ | (simp <;> omega)) _))⟩
  clear X1_0 X1_1 X1_2 X1_3 X1_4 X1_5
  have hd_0' : d.yes.length ≤ 1048576 := by omega
  have hd_1' : d.no.length ≤ 1048576 := by omega
  clear hl0
  have X1_0 := (X1.cell 0).trans (show _ = some (.int .i64 d.id) from rfl)
  have X1_1 := (X1.cell 1).trans (show _ = some (.int .i64 d.day) from rfl)
  have X1_2 := (X1.cell 2).trans (show _ = some (.int .i64 d.need) from rfl)
  have X1_3 := (X1.cell 3).trans (show _ = some (.slice Ad_0 d.yes.length cd_0) from rfl)
  have X1_4 := (X1.cell 4).trans (show _ = some (.slice Ad_1 d.no.length cd_1) from rfl)
  have X1_5 := (X1.cell 5).trans (show _ = some (.bool d.done) from rfl)
  go_wp2_with fail
  refine (toDecidedA_is d Ad_0 Ad_1 cd_0 cd_1 hd_0' hd_1' _ (Rd_0.below (bth HB (by repeat (first | exact Below.refl _ _ | refine Below.alloc ?_ (by first | exact Nat.le_refl _ | (simp <;> omega)) _ | refine Below.setCell ?_ (by first | exact Nat.le_refl _ | (simp <;> omega)) _)))) (Rd_1.below (bth HB (by repeat (first | exact Below.refl _ _ | refine Below.alloc ?_ (by first | exact Nat.le_refl _ | (simp <;> omega)) _ | refine Below.setCell ?_ (by first | exact Nat.le_refl _ | (simp <;> omega)) _))))).mono ?_
  rintro e w2 ⟨As0_0, As0_1, rfl, Os0_0, Os0_1, aps0, hb2⟩
  clear X1_0 X1_1 X1_2 X1_3 X1_4 X1_5
  have hq2 : Below w1.heap.size w1 w2 := bth (by repeat (first | exact Below.refl _ _ | refine Below.alloc ?_ (by first | exact Nat.le_refl _ | (simp <;> omega)) _ | refine Below.setCell ?_ (by first | exact Nat.le_refl _ | (simp <;> omega)) _)) hb2
  have z2 := hq2.size
  replace HB := bth HB hq2
  replace X1 := X1.below hq2 X1.lt
  have ins0 : Within [.slice As0_0 d.yes.length d.yes.length, .slice As0_1 d.no.length d.no.length] (w1.heap.size) (w2.heap.size) := by
    intro v hv k hk
    simp only [List.mem_cons, List.not_mem_nil, or_false] at hv
    rcases hv with rfl | hv
    · have h := Os0_0.lt k hk; (try simp at h); omega
    subst hv
    have h := Os0_1.lt k hk; (try simp at h); omega
  have X1_0 := (X1.cell 0).trans (show _ = some (.int .i64 d.id) from rfl)
  have X1_1 := (X1.cell 1).trans (show _ = some (.int .i64 d.day) from rfl)
  have X1_2 := (X1.cell 2).trans (show _ = some (.int .i64 d.need) from rfl)
  have X1_3 := (X1.cell 3).trans (show _ = some (.slice Ad_0 d.yes.length cd_0) from rfl)
  have X1_4 := (X1.cell 4).trans (show _ = some (.slice Ad_1 d.no.length cd_1) from rfl)
  have X1_5 := (X1.cell 5).trans (show _ = some (.bool d.done) from rfl)
  go_wp2_with fail
  refine (toIntS_is Aes ces es hes' _ (Res.below (bth HB (by repeat (first | exact Below.refl _ _ | refine Below.alloc ?_ (by first | exact Nat.le_refl _ | (simp <;> omega)) _ | refine Below.setCell ?_ (by first | exact Nat.le_refl _ | (simp <;> omega)) _))))).mono ?_
  rintro e w3 ⟨As1, rfl, Os1, hb3⟩
  clear X1_0 X1_1 X1_2 X1_3 X1_4 X1_5
  have hq3 : Below w2.heap.size w2 w3 := bth (by repeat (first | exact Below.refl _ _ | refine Below.alloc ?_ (by first | exact Nat.le_refl _ | (simp <;> omega)) _ | refine Below.setCell ?_ (by first | exact Nat.le_refl _ | (simp <;> omega)) _)) hb3
  have z3 := hq3.size
  replace HB := bth HB hq3
  replace Os0_0 := Os0_0.later hq3
  replace Os0_1 := Os0_1.later hq3
  replace X1 := X1.below hq3 X1.lt
  have ins1 : Within [.slice As1 es.length es.length] (w2.heap.size) (w3.heap.size) := by
    intro v hv k hk
    simp only [List.mem_cons, List.not_mem_nil, or_false] at hv
    subst hv
    have h := Os1.lt k hk; (try simp at h); omega
  have X1_0 := (X1.cell 0).trans (show _ = some (.int .i64 d.id) from rfl)
  have X1_1 := (X1.cell 1).trans (show _ = some (.int .i64 d.day) from rfl)
  have X1_2 := (X1.cell 2).trans (show _ = some (.int .i64 d.need) from rfl)
  have X1_3 := (X1.cell 3).trans (show _ = some (.slice Ad_0 d.yes.length cd_0) from rfl)
  have X1_4 := (X1.cell 4).trans (show _ = some (.slice Ad_1 d.no.length cd_1) from rfl)
  have X1_5 := (X1.cell 5).trans (show _ = some (.bool d.done) from rfl)
  go_wp2_with fail
  refine (toIntS_is Afs cfs fs hfs' _ (Rfs.below (bth HB (by repeat (first | exact Below.refl _ _ | refine Below.alloc ?_ (by first | exact Nat.le_refl _ | (simp <;> omega)) _ | refine Below.setCell ?_ (by first | exact Nat.le_refl _ | (simp <;> omega)) _))))).mono ?_
  rintro e w4 ⟨As2, rfl, Os2, hb4⟩
  clear X1_0 X1_1 X1_2 X1_3 X1_4 X1_5
  have hq4 : Below w3.heap.size w3 w4 := bth (by repeat (first | exact Below.refl _ _ | refine Below.alloc ?_ (by first | exact Nat.le_refl _ | (simp <;> omega)) _ | refine Below.setCell ?_ (by first | exact Nat.le_refl _ | (simp <;> omega)) _)) hb4
  have z4 := hq4.size
  replace HB := bth HB hq4
  replace Os0_0 := Os0_0.later hq4
  replace Os0_1 := Os0_1.later hq4
  replace Os1 := Os1.later hq4
  replace X1 := X1.below hq4 X1.lt
  have ins2 : Within [.slice As2 fs.length fs.length] (w3.heap.size) (w4.heap.size) := by
    intro v hv k hk
    simp only [List.mem_cons, List.not_mem_nil, or_false] at hv
    subst hv
    have h := Os2.lt k hk; (try simp at h); omega
  have X1_0 := (X1.cell 0).trans (show _ = some (.int .i64 d.id) from rfl)
  have X1_1 := (X1.cell 1).trans (show _ = some (.int .i64 d.day) from rfl)
  have X1_2 := (X1.cell 2).trans (show _ = some (.int .i64 d.need) from rfl)
  have X1_3 := (X1.cell 3).trans (show _ = some (.slice Ad_0 d.yes.length cd_0) from rfl)
  have X1_4 := (X1.cell 4).trans (show _ = some (.slice Ad_1 d.no.length cd_1) from rfl)
  have X1_5 := (X1.cell 5).trans (show _ = some (.bool d.done) from rfl)
  go_wp2_with fail
  refine (sAbsentN_is d As0_0 As0_1 d.yes.length d.no.length hd_0' hd_1' As1 es.length es hes' As2 fs.length fs hfs' _ (Os0_0.rds.below (by repeat (first | exact Below.refl _ _ | refine Below.alloc ?_ (by first | exact Nat.le_refl _ | (simp <;> omega)) _ | refine Below.setCell ?_ (by first | exact Nat.le_refl _ | (simp <;> omega)) _))) (Os0_1.rds.below (by repeat (first | exact Below.refl _ _ | refine Below.alloc ?_ (by first | exact Nat.le_refl _ | (simp <;> omega)) _ | refine Below.setCell ?_ (by first | exact Nat.le_refl _ | (simp <;> omega)) _))) (Os1.rds.below (by repeat (first | exact Below.refl _ _ | refine Below.alloc ?_ (by first | exact Nat.le_refl _ | (simp <;> omega)) _ | refine Below.setCell ?_ (by first | exact Nat.le_refl _ | (simp <;> omega)) _))) (Os2.rds.below (by repeat (first | exact Below.refl _ _ | refine Below.alloc ?_ (by first | exact Nat.le_refl _ | (simp <;> omega)) _ | refine Below.setCell ?_ (by first | exact Nat.le_refl _ | (simp <;> omega)) _))) Os0_0.nilOk Os0_1.nilOk Os1.nilOk Os2.nilOk).mono ?_
  rintro e w5 ⟨Aw0, cw0, rfl, Ow0, hb5⟩
  clear X1_0 X1_1 X1_2 X1_3 X1_4 X1_5
  have hq5 : Below w4.heap.size w4 w5 := bth (by repeat (first | exact Below.refl _ _ | refine Below.alloc ?_ (by first | exact Nat.le_refl _ | (simp <;> omega)) _ | refine Below.setCell ?_ (by first | exact Nat.le_refl _ | (simp <;> omega)) _)) hb5
  have z5 := hq5.size
  replace HB := bth HB hq5
  replace Os0_0 := Os0_0.later hq5
  replace Os0_1 := Os0_1.later hq5
  replace Os1 := Os1.later hq5
  replace Os2 := Os2.later hq5
  replace X1 := X1.below hq5 X1.lt
  have inw0 : Within [.slice Aw0 (abL d es fs).length cw0] (w4.heap.size) (w5.heap.size) := by
    intro v hv k hk
    simp only [List.mem_cons, List.not_mem_nil, or_false] at hv
    subst hv
    have h := Ow0.lt k hk; (try simp at h); omega
  have X1_0 := (X1.cell 0).trans (show _ = some (.int .i64 d.id) from rfl)
  have X1_1 := (X1.cell 1).trans (show _ = some (.int .i64 d.day) from rfl)
  have X1_2 := (X1.cell 2).trans (show _ = some (.int .i64 d.need) from rfl)
  have X1_3 := (X1.cell 3).trans (show _ = some (.slice Ad_0 d.yes.length cd_0) from rfl)
  have X1_4 := (X1.cell 4).trans (show _ = some (.slice Ad_1 d.no.length cd_1) from rfl)
  have X1_5 := (X1.cell 5).trans (show _ = some (.bool d.done) from rfl)
  go_wp2_with fail
  refine (toDecidedA_is d Ad_0 Ad_1 cd_0 cd_1 hd_0' hd_1' _ (Rd_0.below (bth HB (by repeat (first | exact Below.refl _ _ | refine Below.alloc ?_ (by first | exact Nat.le_refl _ | (simp <;> omega)) _ | refine Below.setCell ?_ (by first | exact Nat.le_refl _ | (simp <;> omega)) _)))) (Rd_1.below (bth HB (by repeat (first | exact Below.refl _ _ | refine Below.alloc ?_ (by first | exact Nat.le_refl _ | (simp <;> omega)) _ | refine Below.setCell ?_ (by first | exact Nat.le_refl _ | (simp <;> omega)) _))))).mono ?_
  rintro e w6 ⟨Ax0_0, Ax0_1, rfl, Ox0_0, Ox0_1, apx0, hb6⟩
  clear X1_0 X1_1 X1_2 X1_3 X1_4 X1_5
  have hq6 : Below w5.heap.size w5 w6 := bth (by repeat (first | exact Below.refl _ _ | refine Below.alloc ?_ (by first | exact Nat.le_refl _ | (simp <;> omega)) _ | refine Below.setCell ?_ (by first | exact Nat.le_refl _ | (simp <;> omega)) _)) hb6
  have z6 := hq6.size
  replace HB := bth HB hq6
  replace Ow0 := Ow0.later hq6
  replace X1 := X1.below hq6 X1.lt
  have inx0 : Within [.slice Ax0_0 d.yes.length d.yes.length, .slice Ax0_1 d.no.length d.no.length] (w5.heap.size) (w6.heap.size) := by
    intro v hv k hk
    simp only [List.mem_cons, List.not_mem_nil, or_false] at hv
    rcases hv with rfl | hv
    · have h := Ox0_0.lt k hk; (try simp at h); omega
    subst hv
    have h := Ox0_1.lt k hk; (try simp at h); omega
  have X1_l0 : w.heap.size < w6.heap.size := by have h := X1.lt; omega
  have X1_0 := (X1.cell 0).trans (show _ = some (.int .i64 d.id) from rfl)
  have X1_1 := (X1.cell 1).trans (show _ = some (.int .i64 d.day) from rfl)
  have X1_2 := (X1.cell 2).trans (show _ = some (.int .i64 d.need) from rfl)
  have X1_3 := (X1.cell 3).trans (show _ = some (.slice Ad_0 d.yes.length cd_0) from rfl)
  have X1_4 := (X1.cell 4).trans (show _ = some (.slice Ad_1 d.no.length cd_1) from rfl)
  have X1_5 := (X1.cell 5).trans (show _ = some (.bool d.done) from rfl)
  go_wp2_with fail
  refine (toIntS_is Aes ces es hes' _ (Res.below (bth HB (by repeat (first | exact Below.refl _ _ | refine Below.alloc ?_ (by first | exact Nat.le_refl _ | (simp <;> omega)) _ | refine Below.setCell ?_ (by first | exact Nat.le_refl _ | (simp <;> omega)) _))))).mono ?_
  rintro e w7 ⟨Ax1, rfl, Ox1, hb7⟩
  clear X1_l0 X1_0 X1_1 X1_2 X1_3 X1_4 X1_5
  have hq7 : Below w6.heap.size w6 w7 := bth (by repeat (first | exact Below.refl _ _ | refine Below.alloc ?_ (by first | exact Nat.le_refl _ | (simp <;> omega)) _ | refine Below.setCell ?_ (by first | exact Nat.le_refl _ | (simp <;> omega)) _)) hb7
  have z7 := hq7.size
  replace HB := bth HB hq7
  replace Ow0 := Ow0.later hq7
  replace Ox0_0 := Ox0_0.later hq7
  replace Ox0_1 := Ox0_1.later hq7
  replace X1 := X1.below hq7 X1.lt
  have X2 : Blk w7 (w6.heap.size) 28 #[.int .i64 d.id, .int .i64 d.day, .int .i64 d.need, .slice Ax0_0 d.yes.length d.yes.length, .slice Ax0_1 d.no.length d.no.length, .bool d.done] := Blk.below (by repeat (first | exact Blk.new _ _ _ | exact Blk.new2 _ _ _ _ | exact Blk.new3 _ _ _ _ _ | refine Blk.alloc ?_ _)) hb7 (by simp <;> omega)
  have yX2 := X2.lt
  have inx1 : Within [.slice Ax1 es.length es.length] (w6.heap.size + 1) (w7.heap.size) := by
    intro v hv k hk
    simp only [List.mem_cons, List.not_mem_nil, or_false] at hv
    subst hv
    have h := Ox1.lt k hk; (try simp at h); omega
  have X1_0 := (X1.cell 0).trans (show _ = some (.int .i64 d.id) from rfl)
  have X1_1 := (X1.cell 1).trans (show _ = some (.int .i64 d.day) from rfl)
  have X1_2 := (X1.cell 2).trans (show _ = some (.int .i64 d.need) from rfl)
  have X1_3 := (X1.cell 3).trans (show _ = some (.slice Ad_0 d.yes.length cd_0) from rfl)
  have X1_4 := (X1.cell 4).trans (show _ = some (.slice Ad_1 d.no.length cd_1) from rfl)
  have X1_5 := (X1.cell 5).trans (show _ = some (.bool d.done) from rfl)
  have X2_0 := (X2.cell 0).trans (show _ = some (.int .i64 d.id) from rfl)
  have X2_1 := (X2.cell 1).trans (show _ = some (.int .i64 d.day) from rfl)
  have X2_2 := (X2.cell 2).trans (show _ = some (.int .i64 d.need) from rfl)
  have X2_3 := (X2.cell 3).trans (show _ = some (.slice Ax0_0 d.yes.length d.yes.length) from rfl)
  have X2_4 := (X2.cell 4).trans (show _ = some (.slice Ax0_1 d.no.length d.no.length) from rfl)
  have X2_5 := (X2.cell 5).trans (show _ = some (.bool d.done) from rfl)
  go_wp2_with fail
  refine (toIntS_is Afs cfs fs hfs' _ (Rfs.below (bth HB (by repeat (first | exact Below.refl _ _ | refine Below.alloc ?_ (by first | exact Nat.le_refl _ | (simp <;> omega)) _ | refine Below.setCell ?_ (by first | exact Nat.le_refl _ | (simp <;> omega)) _))))).mono ?_
  rintro e w8 ⟨Ax2, rfl, Ox2, hb8⟩
  clear X1_0 X1_1 X1_2 X1_3 X1_4 X1_5
  clear X2_0 X2_1 X2_2 X2_3 X2_4 X2_5
  have hq8 : Below w7.heap.size w7 w8 := bth (by repeat (first | exact Below.refl _ _ | refine Below.alloc ?_ (by first | exact Nat.le_refl _ | (simp <;> omega)) _ | refine Below.setCell ?_ (by first | exact Nat.le_refl _ | (simp <;> omega)) _)) hb8
  have z8 := hq8.size
  replace HB := bth HB hq8
  replace Ow0 := Ow0.later hq8
  replace Ox0_0 := Ox0_0.later hq8
  replace Ox0_1 := Ox0_1.later hq8
  replace Ox1 := Ox1.later hq8
  replace X1 := X1.below hq8 X1.lt
  replace X2 := X2.below hq8 X2.lt
  have inx2 : Within [.slice Ax2 fs.length fs.length] (w7.heap.size) (w8.heap.size) := by
    intro v hv k hk
    simp only [List.mem_cons, List.not_mem_nil, or_false] at hv
    subst hv
    have h := Ox2.lt k hk; (try simp at h); omega
  have X1_0 := (X1.cell 0).trans (show _ = some (.int .i64 d.id) from rfl)
  have X1_1 := (X1.cell 1).trans (show _ = some (.int .i64 d.day) from rfl)
  have X1_2 := (X1.cell 2).trans (show _ = some (.int .i64 d.need) from rfl)
  have X1_3 := (X1.cell 3).trans (show _ = some (.slice Ad_0 d.yes.length cd_0) from rfl)
  have X1_4 := (X1.cell 4).trans (show _ = some (.slice Ad_1 d.no.length cd_1) from rfl)
  have X1_5 := (X1.cell 5).trans (show _ = some (.bool d.done) from rfl)
  have X2_0 := (X2.cell 0).trans (show _ = some (.int .i64 d.id) from rfl)
  have X2_1 := (X2.cell 1).trans (show _ = some (.int .i64 d.day) from rfl)
  have X2_2 := (X2.cell 2).trans (show _ = some (.int .i64 d.need) from rfl)
  have X2_3 := (X2.cell 3).trans (show _ = some (.slice Ax0_0 d.yes.length d.yes.length) from rfl)
  have X2_4 := (X2.cell 4).trans (show _ = some (.slice Ax0_1 d.no.length d.no.length) from rfl)
  have X2_5 := (X2.cell 5).trans (show _ = some (.bool d.done) from rfl)
  go_wp2_with fail
  refine (iAbsentN_is d Ax0_0 Ax0_1 d.yes.length d.no.length hd_0' hd_1' Ax1 es.length es hes' Ax2 fs.length fs hfs' _ (Ox0_0.rds.below (by repeat (first | exact Below.refl _ _ | refine Below.alloc ?_ (by first | exact Nat.le_refl _ | (simp <;> omega)) _ | refine Below.setCell ?_ (by first | exact Nat.le_refl _ | (simp <;> omega)) _))) (Ox0_1.rds.below (by repeat (first | exact Below.refl _ _ | refine Below.alloc ?_ (by first | exact Nat.le_refl _ | (simp <;> omega)) _ | refine Below.setCell ?_ (by first | exact Nat.le_refl _ | (simp <;> omega)) _))) (Ox1.rds.below (by repeat (first | exact Below.refl _ _ | refine Below.alloc ?_ (by first | exact Nat.le_refl _ | (simp <;> omega)) _ | refine Below.setCell ?_ (by first | exact Nat.le_refl _ | (simp <;> omega)) _))) (Ox2.rds.below (by repeat (first | exact Below.refl _ _ | refine Below.alloc ?_ (by first | exact Nat.le_refl _ | (simp <;> omega)) _ | refine Below.setCell ?_ (by first | exact Nat.le_refl _ | (simp <;> omega)) _))) Ox0_0.nilOk Ox0_1.nilOk Ox1.nilOk Ox2.nilOk).mono ?_
  rintro e w9 ⟨Ag0, cg0, rfl, Og0, hb9⟩
  clear X1_0 X1_1 X1_2 X1_3 X1_4 X1_5
  clear X2_0 X2_1 X2_2 X2_3 X2_4 X2_5
  have hq9 : Below w8.heap.size w8 w9 := bth (by repeat (first | exact Below.refl _ _ | refine Below.alloc ?_ (by first | exact Nat.le_refl _ | (simp <;> omega)) _ | refine Below.setCell ?_ (by first | exact Nat.le_refl _ | (simp <;> omega)) _)) hb9
  have z9 := hq9.size
  replace HB := bth HB hq9
  replace Ow0 := Ow0.later hq9
  replace Ox0_0 := Ox0_0.later hq9
  replace Ox0_1 := Ox0_1.later hq9
  replace Ox1 := Ox1.later hq9
  replace Ox2 := Ox2.later hq9
  replace X1 := X1.below hq9 X1.lt
  replace X2 := X2.below hq9 X2.lt
  have ing0 : Within [.slice Ag0 (abL d es fs).length cg0] (w8.heap.size) (w9.heap.size) := by
    intro v hv k hk
    simp only [List.mem_cons, List.not_mem_nil, or_false] at hv
    subst hv
    have h := Og0.lt k hk; (try simp at h); omega
  have X1_0 := (X1.cell 0).trans (show _ = some (.int .i64 d.id) from rfl)
  have X1_1 := (X1.cell 1).trans (show _ = some (.int .i64 d.day) from rfl)
  have X1_2 := (X1.cell 2).trans (show _ = some (.int .i64 d.need) from rfl)
  have X1_3 := (X1.cell 3).trans (show _ = some (.slice Ad_0 d.yes.length cd_0) from rfl)
  have X1_4 := (X1.cell 4).trans (show _ = some (.slice Ad_1 d.no.length cd_1) from rfl)
  have X1_5 := (X1.cell 5).trans (show _ = some (.bool d.done) from rfl)
  have X2_0 := (X2.cell 0).trans (show _ = some (.int .i64 d.id) from rfl)
  have X2_1 := (X2.cell 1).trans (show _ = some (.int .i64 d.day) from rfl)
  have X2_2 := (X2.cell 2).trans (show _ = some (.int .i64 d.need) from rfl)
  have X2_3 := (X2.cell 3).trans (show _ = some (.slice Ax0_0 d.yes.length d.yes.length) from rfl)
  have X2_4 := (X2.cell 4).trans (show _ = some (.slice Ax0_1 d.no.length d.no.length) from rfl)
  have X2_5 := (X2.cell 5).trans (show _ = some (.bool d.done) from rfl)
  go_wp2_with fail
  refine (eqIntS_is Ag0 Aw0 cg0 cw0 (abL d es fs) (abL_len' d es fs) _ (Og0.rds.below (by repeat (first | exact Below.refl _ _ | refine Below.alloc ?_ (by first | exact Nat.le_refl _ | (simp <;> omega)) _ | refine Below.setCell ?_ (by first | exact Nat.le_refl _ | (simp <;> omega)) _))) (Ow0.rds.below (by repeat (first | exact Below.refl _ _ | refine Below.alloc ?_ (by first | exact Nat.le_refl _ | (simp <;> omega)) _ | refine Below.setCell ?_ (by first | exact Nat.le_refl _ | (simp <;> omega)) _)))).mono ?_
  rintro e w10 ⟨rfl, hb10⟩
  clear X1_0 X1_1 X1_2 X1_3 X1_4 X1_5
  clear X2_0 X2_1 X2_2 X2_3 X2_4 X2_5
  have hq10 : Below w9.heap.size w9 w10 := bth (by repeat (first | exact Below.refl _ _ | refine Below.alloc ?_ (by first | exact Nat.le_refl _ | (simp <;> omega)) _ | refine Below.setCell ?_ (by first | exact Nat.le_refl _ | (simp <;> omega)) _)) hb10
  have z10 := hq10.size
  replace HB := bth HB hq10
  replace Ow0 := Ow0.later hq10
  replace Ox0_0 := Ox0_0.later hq10
  replace Ox0_1 := Ox0_1.later hq10
  replace Ox1 := Ox1.later hq10
  replace Ox2 := Ox2.later hq10
  replace Og0 := Og0.later hq10
  replace X1 := X1.below hq10 X1.lt
  replace X2 := X2.below hq10 X2.lt
  have X1_a : ∀ W, Below w10.heap.size w10 W → Blk W (w.heap.size) 24 #[.int .i64 d.id, .int .i64 d.day, .int .i64 d.need, .slice Ad_0 d.yes.length cd_0, .slice Ad_1 d.no.length cd_1, .bool d.done] := fun W h => X1.below h X1.lt
  have X2_a : ∀ W, Below w10.heap.size w10 W → Blk W (w6.heap.size) 28 #[.int .i64 d.id, .int .i64 d.day, .int .i64 d.need, .slice Ax0_0 d.yes.length d.yes.length, .slice Ax0_1 d.no.length d.no.length, .bool d.done] := fun W h => X2.below h X2.lt
  have X1_0 := fun W hW => ((X1_a W hW).cell 0).trans (show _ = some (.int .i64 d.id) from rfl)
  have X1_1 := fun W hW => ((X1_a W hW).cell 1).trans (show _ = some (.int .i64 d.day) from rfl)
  have X1_2 := fun W hW => ((X1_a W hW).cell 2).trans (show _ = some (.int .i64 d.need) from rfl)
  have X1_3 := fun W hW => ((X1_a W hW).cell 3).trans (show _ = some (.slice Ad_0 d.yes.length cd_0) from rfl)
  have X1_4 := fun W hW => ((X1_a W hW).cell 4).trans (show _ = some (.slice Ad_1 d.no.length cd_1) from rfl)
  have X1_5 := fun W hW => ((X1_a W hW).cell 5).trans (show _ = some (.bool d.done) from rfl)
  have X2_0 := fun W hW => ((X2_a W hW).cell 0).trans (show _ = some (.int .i64 d.id) from rfl)
  have X2_1 := fun W hW => ((X2_a W hW).cell 1).trans (show _ = some (.int .i64 d.day) from rfl)
  have X2_2 := fun W hW => ((X2_a W hW).cell 2).trans (show _ = some (.int .i64 d.need) from rfl)
  have X2_3 := fun W hW => ((X2_a W hW).cell 3).trans (show _ = some (.slice Ax0_0 d.yes.length d.yes.length) from rfl)
  have X2_4 := fun W hW => ((X2_a W hW).cell 4).trans (show _ = some (.slice Ax0_1 d.no.length d.no.length) from rfl)
  have X2_5 := fun W hW => ((X2_a W hW).cell 5).trans (show _ = some (.bool d.done) from rfl)
  clear X1_a X2_a
  go_wp2
  go_region_held3 (fun W => Below w10.heap.size w10 W) (first | exact (Below.refl _ _).drew | assumption) ((first
    | (go_at_call 13; refine (toDecidedA_is d Ad_0 Ad_1 cd_0 cd_1 hd_0' hd_1' _ (Rd_0.below (bth HB (Below.refl _ _).drew)) (Rd_1.below (bth HB (Below.refl _ _).drew))).mono ?_; rintro e w11 ⟨Ay0_0, Ay0_1, rfl, Oy0_0, Oy0_1, _, hb11⟩; have hk11 : Below w10.heap.size w10 w11 := bth (Below.refl _ _).drew hb11)
    | (go_at_call 15; refine (eqDecided_is d Ax0_0 Ax0_1 Ay0_0 Ay0_1 d.yes.length d.no.length d.yes.length d.no.length hd_0' hd_1' _ (Ox0_0.rds.below hk11) (Ox0_1.rds.below hk11) Oy0_0.rds Oy0_1.rds).mono ?_; rintro e w12 ⟨rfl, hb12⟩; have hk12 : Below w10.heap.size w10 w12 := bth hk11 hb12)))
  clear X1_0 X1_1 X1_2 X1_3 X1_4 X1_5 X2_0 X2_1 X2_2 X2_3 X2_4 X2_5
  have z12 := hk12.size
  replace HB := bth HB hk12
  replace Ow0 := Ow0.later hk12
  replace Ox0_0 := Ox0_0.later hk12
  replace Ox0_1 := Ox0_1.later hk12
  replace Ox1 := Ox1.later hk12
  replace Ox2 := Ox2.later hk12
  replace Og0 := Og0.later hk12
  replace X1 := X1.below hk12 X1.lt
  replace X2 := X2.below hk12 X2.lt
  have X1_0 := (X1.cell 0).trans (show _ = some (.int .i64 d.id) from rfl)
  have X1_1 := (X1.cell 1).trans (show _ = some (.int .i64 d.day) from rfl)
  have X1_2 := (X1.cell 2).trans (show _ = some (.int .i64 d.need) from rfl)
  have X1_3 := (X1.cell 3).trans (show _ = some (.slice Ad_0 d.yes.length cd_0) from rfl)
  have X1_4 := (X1.cell 4).trans (show _ = some (.slice Ad_1 d.no.length cd_1) from rfl)
  have X1_5 := (X1.cell 5).trans (show _ = some (.bool d.done) from rfl)
  have X2_0 := (X2.cell 0).trans (show _ = some (.int .i64 d.id) from rfl)
  have X2_1 := (X2.cell 1).trans (show _ = some (.int .i64 d.day) from rfl)
  have X2_2 := (X2.cell 2).trans (show _ = some (.int .i64 d.need) from rfl)
  have X2_3 := (X2.cell 3).trans (show _ = some (.slice Ax0_0 d.yes.length d.yes.length) from rfl)
  have X2_4 := (X2.cell 4).trans (show _ = some (.slice Ax0_1 d.no.length d.no.length) from rfl)
  have X2_5 := (X2.cell 5).trans (show _ = some (.bool d.done) from rfl)
  go_wp2_with fail
  refine (toIntS_is Aes ces es hes' _ (Res.below (bth HB (by repeat (first | exact Below.refl _ _ | refine Below.alloc ?_ (by first | exact Nat.le_refl _ | (simp <;> omega)) _ | refine Below.setCell ?_ (by first | exact Nat.le_refl _ | (simp <;> omega)) _))))).mono ?_
  rintro e w13 ⟨Ay1, rfl, Oy1, hb13⟩
  clear X1_0 X1_1 X1_2 X1_3 X1_4 X1_5
  clear X2_0 X2_1 X2_2 X2_3 X2_4 X2_5
  have hq13 : Below w12.heap.size w12 w13 := bth (by repeat (first | exact Below.refl _ _ | refine Below.alloc ?_ (by first | exact Nat.le_refl _ | (simp <;> omega)) _ | refine Below.setCell ?_ (by first | exact Nat.le_refl _ | (simp <;> omega)) _)) hb13
  have z13 := hq13.size
  replace HB := bth HB hq13
  replace Ow0 := Ow0.later hq13
  replace Ox0_0 := Ox0_0.later hq13
  replace Ox0_1 := Ox0_1.later hq13
  replace Ox1 := Ox1.later hq13
  replace Ox2 := Ox2.later hq13
  replace Og0 := Og0.later hq13
  replace X1 := X1.below hq13 X1.lt
  replace X2 := X2.below hq13 X2.lt
  have iny1 : Within [.slice Ay1 es.length es.length] (w12.heap.size) (w13.heap.size) := by
    intro v hv k hk
    simp only [List.mem_cons, List.not_mem_nil, or_false] at hv
    subst hv
    have h := Oy1.lt k hk; (try simp at h); omega
  have X1_0 := (X1.cell 0).trans (show _ = some (.int .i64 d.id) from rfl)
  have X1_1 := (X1.cell 1).trans (show _ = some (.int .i64 d.day) from rfl)
  have X1_2 := (X1.cell 2).trans (show _ = some (.int .i64 d.need) from rfl)
  have X1_3 := (X1.cell 3).trans (show _ = some (.slice Ad_0 d.yes.length cd_0) from rfl)
  have X1_4 := (X1.cell 4).trans (show _ = some (.slice Ad_1 d.no.length cd_1) from rfl)
  have X1_5 := (X1.cell 5).trans (show _ = some (.bool d.done) from rfl)
  have X2_0 := (X2.cell 0).trans (show _ = some (.int .i64 d.id) from rfl)
  have X2_1 := (X2.cell 1).trans (show _ = some (.int .i64 d.day) from rfl)
  have X2_2 := (X2.cell 2).trans (show _ = some (.int .i64 d.need) from rfl)
  have X2_3 := (X2.cell 3).trans (show _ = some (.slice Ax0_0 d.yes.length d.yes.length) from rfl)
  have X2_4 := (X2.cell 4).trans (show _ = some (.slice Ax0_1 d.no.length d.no.length) from rfl)
  have X2_5 := (X2.cell 5).trans (show _ = some (.bool d.done) from rfl)
  go_wp2_with fail
  refine (eqIntS_is Ax1 Ay1 es.length es.length es hes' _ (Ox1.rds.below (by repeat (first | exact Below.refl _ _ | refine Below.alloc ?_ (by first | exact Nat.le_refl _ | (simp <;> omega)) _ | refine Below.setCell ?_ (by first | exact Nat.le_refl _ | (simp <;> omega)) _))) (Oy1.rds.below (by repeat (first | exact Below.refl _ _ | refine Below.alloc ?_ (by first | exact Nat.le_refl _ | (simp <;> omega)) _ | refine Below.setCell ?_ (by first | exact Nat.le_refl _ | (simp <;> omega)) _)))).mono ?_
  rintro e w14 ⟨rfl, hb14⟩
  clear X1_0 X1_1 X1_2 X1_3 X1_4 X1_5
  clear X2_0 X2_1 X2_2 X2_3 X2_4 X2_5
  have hq14 : Below w13.heap.size w13 w14 := bth (by repeat (first | exact Below.refl _ _ | refine Below.alloc ?_ (by first | exact Nat.le_refl _ | (simp <;> omega)) _ | refine Below.setCell ?_ (by first | exact Nat.le_refl _ | (simp <;> omega)) _)) hb14
  have z14 := hq14.size
  replace HB := bth HB hq14
  replace Ow0 := Ow0.later hq14
  replace Ox0_0 := Ox0_0.later hq14
  replace Ox0_1 := Ox0_1.later hq14
  replace Ox1 := Ox1.later hq14
  replace Ox2 := Ox2.later hq14
  replace Og0 := Og0.later hq14
  replace Oy1 := Oy1.later hq14
  replace X1 := X1.below hq14 X1.lt
  replace X2 := X2.below hq14 X2.lt
  have X1_0 := (X1.cell 0).trans (show _ = some (.int .i64 d.id) from rfl)
  have X1_1 := (X1.cell 1).trans (show _ = some (.int .i64 d.day) from rfl)
  have X1_2 := (X1.cell 2).trans (show _ = some (.int .i64 d.need) from rfl)
  have X1_3 := (X1.cell 3).trans (show _ = some (.slice Ad_0 d.yes.length cd_0) from rfl)
  have X1_4 := (X1.cell 4).trans (show _ = some (.slice Ad_1 d.no.length cd_1) from rfl)
  have X1_5 := (X1.cell 5).trans (show _ = some (.bool d.done) from rfl)
  have X2_0 := (X2.cell 0).trans (show _ = some (.int .i64 d.id) from rfl)
  have X2_1 := (X2.cell 1).trans (show _ = some (.int .i64 d.day) from rfl)
  have X2_2 := (X2.cell 2).trans (show _ = some (.int .i64 d.need) from rfl)
  have X2_3 := (X2.cell 3).trans (show _ = some (.slice Ax0_0 d.yes.length d.yes.length) from rfl)
  have X2_4 := (X2.cell 4).trans (show _ = some (.slice Ax0_1 d.no.length d.no.length) from rfl)
  have X2_5 := (X2.cell 5).trans (show _ = some (.bool d.done) from rfl)
  go_wp2_with fail
  refine (toIntS_is Afs cfs fs hfs' _ (Rfs.below (bth HB (by repeat (first | exact Below.refl _ _ | refine Below.alloc ?_ (by first | exact Nat.le_refl _ | (simp <;> omega)) _ | refine Below.setCell ?_ (by first | exact Nat.le_refl _ | (simp <;> omega)) _))))).mono ?_
  rintro e w15 ⟨Ay2, rfl, Oy2, hb15⟩
  clear X1_0 X1_1 X1_2 X1_3 X1_4 X1_5
  clear X2_0 X2_1 X2_2 X2_3 X2_4 X2_5
  have hq15 : Below w14.heap.size w14 w15 := bth (by repeat (first | exact Below.refl _ _ | refine Below.alloc ?_ (by first | exact Nat.le_refl _ | (simp <;> omega)) _ | refine Below.setCell ?_ (by first | exact Nat.le_refl _ | (simp <;> omega)) _)) hb15
  have z15 := hq15.size
  replace HB := bth HB hq15
  replace Ow0 := Ow0.later hq15
  replace Ox0_0 := Ox0_0.later hq15
  replace Ox0_1 := Ox0_1.later hq15
  replace Ox1 := Ox1.later hq15
  replace Ox2 := Ox2.later hq15
  replace Og0 := Og0.later hq15
  replace X1 := X1.below hq15 X1.lt
  replace X2 := X2.below hq15 X2.lt
  have iny2 : Within [.slice Ay2 fs.length fs.length] (w14.heap.size) (w15.heap.size) := by
    intro v hv k hk
    simp only [List.mem_cons, List.not_mem_nil, or_false] at hv
    subst hv
    have h := Oy2.lt k hk; (try simp at h); omega
  have X1_0 := (X1.cell 0).trans (show _ = some (.int .i64 d.id) from rfl)
  have X1_1 := (X1.cell 1).trans (show _ = some (.int .i64 d.day) from rfl)
  have X1_2 := (X1.cell 2).trans (show _ = some (.int .i64 d.need) from rfl)
  have X1_3 := (X1.cell 3).trans (show _ = some (.slice Ad_0 d.yes.length cd_0) from rfl)
  have X1_4 := (X1.cell 4).trans (show _ = some (.slice Ad_1 d.no.length cd_1) from rfl)
  have X1_5 := (X1.cell 5).trans (show _ = some (.bool d.done) from rfl)
  have X2_0 := (X2.cell 0).trans (show _ = some (.int .i64 d.id) from rfl)
  have X2_1 := (X2.cell 1).trans (show _ = some (.int .i64 d.day) from rfl)
  have X2_2 := (X2.cell 2).trans (show _ = some (.int .i64 d.need) from rfl)
  have X2_3 := (X2.cell 3).trans (show _ = some (.slice Ax0_0 d.yes.length d.yes.length) from rfl)
  have X2_4 := (X2.cell 4).trans (show _ = some (.slice Ax0_1 d.no.length d.no.length) from rfl)
  have X2_5 := (X2.cell 5).trans (show _ = some (.bool d.done) from rfl)
  go_wp2_with fail
  refine (eqIntS_is Ax2 Ay2 fs.length fs.length fs hfs' _ (Ox2.rds.below (by repeat (first | exact Below.refl _ _ | refine Below.alloc ?_ (by first | exact Nat.le_refl _ | (simp <;> omega)) _ | refine Below.setCell ?_ (by first | exact Nat.le_refl _ | (simp <;> omega)) _))) (Oy2.rds.below (by repeat (first | exact Below.refl _ _ | refine Below.alloc ?_ (by first | exact Nat.le_refl _ | (simp <;> omega)) _ | refine Below.setCell ?_ (by first | exact Nat.le_refl _ | (simp <;> omega)) _)))).mono ?_
  rintro e w16 ⟨rfl, hb16⟩
  clear X1_0 X1_1 X1_2 X1_3 X1_4 X1_5
  clear X2_0 X2_1 X2_2 X2_3 X2_4 X2_5
  have hq16 : Below w15.heap.size w15 w16 := bth (by repeat (first | exact Below.refl _ _ | refine Below.alloc ?_ (by first | exact Nat.le_refl _ | (simp <;> omega)) _ | refine Below.setCell ?_ (by first | exact Nat.le_refl _ | (simp <;> omega)) _)) hb16
  have z16 := hq16.size
  replace HB := bth HB hq16
  replace Ow0 := Ow0.later hq16
  replace Ox0_0 := Ox0_0.later hq16
  replace Ox0_1 := Ox0_1.later hq16
  replace Ox1 := Ox1.later hq16
  replace Ox2 := Ox2.later hq16
  replace Og0 := Og0.later hq16
  replace Oy2 := Oy2.later hq16
  replace X1 := X1.below hq16 X1.lt
  replace X2 := X2.below hq16 X2.lt
  have X1_0 := (X1.cell 0).trans (show _ = some (.int .i64 d.id) from rfl)
  have X1_1 := (X1.cell 1).trans (show _ = some (.int .i64 d.day) from rfl)
  have X1_2 := (X1.cell 2).trans (show _ = some (.int .i64 d.need) from rfl)
  have X1_3 := (X1.cell 3).trans (show _ = some (.slice Ad_0 d.yes.length cd_0) from rfl)
  have X1_4 := (X1.cell 4).trans (show _ = some (.slice Ad_1 d.no.length cd_1) from rfl)
  have X1_5 := (X1.cell 5).trans (show _ = some (.bool d.done) from rfl)
  have X2_0 := (X2.cell 0).trans (show _ = some (.int .i64 d.id) from rfl)
  have X2_1 := (X2.cell 1).trans (show _ = some (.int .i64 d.day) from rfl)
  have X2_2 := (X2.cell 2).trans (show _ = some (.int .i64 d.need) from rfl)
  have X2_3 := (X2.cell 3).trans (show _ = some (.slice Ax0_0 d.yes.length d.yes.length) from rfl)
  have X2_4 := (X2.cell 4).trans (show _ = some (.slice Ax0_1 d.no.length d.no.length) from rfl)
  have X2_5 := (X2.cell 5).trans (show _ = some (.bool d.done) from rfl)
  go_wp2_with fail
  refine (mkDecided_is d Ax0_0 Ax0_1 d.yes.length d.no.length hd_0' hd_1' (1) (by omega) (by omega) _ Ox0_0 Ox0_1 apx0).mono ?_
  rintro e w17 ⟨rfl, M17_0, M17_1, HG17⟩
  clear X1_0 X1_1 X1_2 X1_3 X1_4 X1_5
  clear X2_0 X2_1 X2_2 X2_3 X2_4 X2_5
  have z17 := HG17.size
  replace HB := HB.trans (HG17.below inx0 (by omega) HB.size)
  replace Ow0 := Ow0.keptL HG17 inw0 inx0 (by simp) (by omega)
  replace Ox1 := Ox1.keptL HG17 inx1 inx0 (by simp) (by omega)
  replace Ox2 := Ox2.keptL HG17 inx2 inx0 (by simp) (by omega)
  replace Og0 := Og0.keptL HG17 ing0 inx0 (by simp) (by omega)
  replace X1 := X1.keptL HG17 inx0 (by omega)
  replace X2 := X2.keptL HG17 inx0 (by omega)
  have X1_0 := (X1.cell 0).trans (show _ = some (.int .i64 d.id) from rfl)
  have X1_1 := (X1.cell 1).trans (show _ = some (.int .i64 d.day) from rfl)
  have X1_2 := (X1.cell 2).trans (show _ = some (.int .i64 d.need) from rfl)
  have X1_3 := (X1.cell 3).trans (show _ = some (.slice Ad_0 d.yes.length cd_0) from rfl)
  have X1_4 := (X1.cell 4).trans (show _ = some (.slice Ad_1 d.no.length cd_1) from rfl)
  have X1_5 := (X1.cell 5).trans (show _ = some (.bool d.done) from rfl)
  have X2_0 := (X2.cell 0).trans (show _ = some (.int .i64 d.id) from rfl)
  have X2_1 := (X2.cell 1).trans (show _ = some (.int .i64 d.day) from rfl)
  have X2_2 := (X2.cell 2).trans (show _ = some (.int .i64 d.need) from rfl)
  have X2_3 := (X2.cell 3).trans (show _ = some (.slice Ax0_0 d.yes.length d.yes.length) from rfl)
  have X2_4 := (X2.cell 4).trans (show _ = some (.slice Ax0_1 d.no.length d.no.length) from rfl)
  have X2_5 := (X2.cell 5).trans (show _ = some (.bool d.done) from rfl)
  go_wp2_with fail
  refine (mkIntS_is _ Ax1 es.length es hes' (1 + (d.yes.length : Int) + (d.no.length : Int)) (by omega) (by omega) _ Ox1).mono ?_
  rintro e w18 ⟨rfl, M18_0, hg18⟩
  have HG18 := grownL_one hg18
  clear X1_0 X1_1 X1_2 X1_3 X1_4 X1_5
  clear X2_0 X2_1 X2_2 X2_3 X2_4 X2_5
  have z18 := HG18.size
  replace HB := HB.trans (HG18.below inx1 (by omega) HB.size)
  replace Ow0 := Ow0.keptL HG18 inw0 inx1 (by simp) (by omega)
  replace M17_0 := M17_0.keptL HG18 inx0 inx1 (by simp) (by omega)
  replace M17_1 := M17_1.keptL HG18 inx0 inx1 (by simp) (by omega)
  replace Ox2 := Ox2.keptL HG18 inx2 inx1 (by simp) (by omega)
  replace Og0 := Og0.keptL HG18 ing0 inx1 (by simp) (by omega)
  replace X1 := X1.keptL HG18 inx1 (by omega)
  replace X2 := X2.keptL HG18 inx1 (by omega)
  have X1_0 := (X1.cell 0).trans (show _ = some (.int .i64 d.id) from rfl)
  have X1_1 := (X1.cell 1).trans (show _ = some (.int .i64 d.day) from rfl)
  have X1_2 := (X1.cell 2).trans (show _ = some (.int .i64 d.need) from rfl)
  have X1_3 := (X1.cell 3).trans (show _ = some (.slice Ad_0 d.yes.length cd_0) from rfl)
  have X1_4 := (X1.cell 4).trans (show _ = some (.slice Ad_1 d.no.length cd_1) from rfl)
  have X1_5 := (X1.cell 5).trans (show _ = some (.bool d.done) from rfl)
  have X2_0 := (X2.cell 0).trans (show _ = some (.int .i64 d.id) from rfl)
  have X2_1 := (X2.cell 1).trans (show _ = some (.int .i64 d.day) from rfl)
  have X2_2 := (X2.cell 2).trans (show _ = some (.int .i64 d.need) from rfl)
  have X2_3 := (X2.cell 3).trans (show _ = some (.slice Ax0_0 d.yes.length d.yes.length) from rfl)
  have X2_4 := (X2.cell 4).trans (show _ = some (.slice Ax0_1 d.no.length d.no.length) from rfl)
  have X2_5 := (X2.cell 5).trans (show _ = some (.bool d.done) from rfl)
  go_wp2_with fail
  refine (mkIntS_is _ Ax2 fs.length fs hfs' (1 + (d.yes.length : Int) + (d.no.length : Int) + (es.length : Int)) (by omega) (by omega) _ Ox2).mono ?_
  rintro e w19 ⟨rfl, M19_0, hg19⟩
  have HG19 := grownL_one hg19
  clear X1_0 X1_1 X1_2 X1_3 X1_4 X1_5
  clear X2_0 X2_1 X2_2 X2_3 X2_4 X2_5
  have z19 := HG19.size
  replace HB := HB.trans (HG19.below inx2 (by omega) HB.size)
  replace Ow0 := Ow0.keptL HG19 inw0 inx2 (by simp) (by omega)
  replace M17_0 := M17_0.keptL HG19 inx0 inx2 (by simp) (by omega)
  replace M17_1 := M17_1.keptL HG19 inx0 inx2 (by simp) (by omega)
  replace M18_0 := M18_0.keptL HG19 inx1 inx2 (by simp) (by omega)
  replace Og0 := Og0.keptL HG19 ing0 inx2 (by simp) (by omega)
  replace X1 := X1.keptL HG19 inx2 (by omega)
  replace X2 := X2.keptL HG19 inx2 (by omega)
  have X1_0 := (X1.cell 0).trans (show _ = some (.int .i64 d.id) from rfl)
  have X1_1 := (X1.cell 1).trans (show _ = some (.int .i64 d.day) from rfl)
  have X1_2 := (X1.cell 2).trans (show _ = some (.int .i64 d.need) from rfl)
  have X1_3 := (X1.cell 3).trans (show _ = some (.slice Ad_0 d.yes.length cd_0) from rfl)
  have X1_4 := (X1.cell 4).trans (show _ = some (.slice Ad_1 d.no.length cd_1) from rfl)
  have X1_5 := (X1.cell 5).trans (show _ = some (.bool d.done) from rfl)
  have X2_0 := (X2.cell 0).trans (show _ = some (.int .i64 d.id) from rfl)
  have X2_1 := (X2.cell 1).trans (show _ = some (.int .i64 d.day) from rfl)
  have X2_2 := (X2.cell 2).trans (show _ = some (.int .i64 d.need) from rfl)
  have X2_3 := (X2.cell 3).trans (show _ = some (.slice Ax0_0 d.yes.length d.yes.length) from rfl)
  have X2_4 := (X2.cell 4).trans (show _ = some (.slice Ax0_1 d.no.length d.no.length) from rfl)
  have X2_5 := (X2.cell 5).trans (show _ = some (.bool d.done) from rfl)
  go_wp2_with fail
  refine (eqIntS_is Ag0 Aw0 cg0 cw0 (abL d es fs) (abL_len' d es fs) _ (Og0.rds.below (by repeat (first | exact Below.refl _ _ | refine Below.alloc ?_ (by first | exact Nat.le_refl _ | (simp <;> omega)) _ | refine Below.setCell ?_ (by first | exact Nat.le_refl _ | (simp <;> omega)) _))) (Ow0.rds.below (by repeat (first | exact Below.refl _ _ | refine Below.alloc ?_ (by first | exact Nat.le_refl _ | (simp <;> omega)) _ | refine Below.setCell ?_ (by first | exact Nat.le_refl _ | (simp <;> omega)) _)))).mono ?_
  rintro e w20 ⟨rfl, hb20⟩
  clear X1_0 X1_1 X1_2 X1_3 X1_4 X1_5
  clear X2_0 X2_1 X2_2 X2_3 X2_4 X2_5
  have hq20 : Below w19.heap.size w19 w20 := bth (by repeat (first | exact Below.refl _ _ | refine Below.alloc ?_ (by first | exact Nat.le_refl _ | (simp <;> omega)) _ | refine Below.setCell ?_ (by first | exact Nat.le_refl _ | (simp <;> omega)) _)) hb20
  have z20 := hq20.size
  replace HB := bth HB hq20
  replace Ow0 := Ow0.later hq20
  replace Og0 := Og0.later hq20
  replace X1 := X1.below hq20 X1.lt
  replace X2 := X2.below hq20 X2.lt
  have X1_0 := (X1.cell 0).trans (show _ = some (.int .i64 d.id) from rfl)
  have X1_1 := (X1.cell 1).trans (show _ = some (.int .i64 d.day) from rfl)
  have X1_2 := (X1.cell 2).trans (show _ = some (.int .i64 d.need) from rfl)
  have X1_3 := (X1.cell 3).trans (show _ = some (.slice Ad_0 d.yes.length cd_0) from rfl)
  have X1_4 := (X1.cell 4).trans (show _ = some (.slice Ad_1 d.no.length cd_1) from rfl)
  have X1_5 := (X1.cell 5).trans (show _ = some (.bool d.done) from rfl)
  have X2_0 := (X2.cell 0).trans (show _ = some (.int .i64 d.id) from rfl)
  have X2_1 := (X2.cell 1).trans (show _ = some (.int .i64 d.day) from rfl)
  have X2_2 := (X2.cell 2).trans (show _ = some (.int .i64 d.need) from rfl)
  have X2_3 := (X2.cell 3).trans (show _ = some (.slice Ax0_0 d.yes.length d.yes.length) from rfl)
  have X2_4 := (X2.cell 4).trans (show _ = some (.slice Ax0_1 d.no.length d.no.length) from rfl)
  have X2_5 := (X2.cell 5).trans (show _ = some (.bool d.done) from rfl)
  go_wp2_with fail
  refine (mkIntS_is _ Ag0 cg0 (abL d es fs) (abL_len' d es fs) (1) (by omega) (by omega) _ Og0).mono ?_
  rintro e w21 ⟨rfl, M21_0, hg21⟩
  have HG21 := grownL_one hg21
  clear X1_0 X1_1 X1_2 X1_3 X1_4 X1_5
  clear X2_0 X2_1 X2_2 X2_3 X2_4 X2_5
  have z21 := HG21.size
  replace HB := HB.trans (HG21.below ing0 (by omega) HB.size)
  replace Ow0 := Ow0.keptL HG21 inw0 ing0 (by simp) (by omega)
  replace X1 := X1.keptL HG21 ing0 (by omega)
  replace X2 := X2.keptL HG21 ing0 (by omega)
  have X1_0 := (X1.cell 0).trans (show _ = some (.int .i64 d.id) from rfl)
  have X1_1 := (X1.cell 1).trans (show _ = some (.int .i64 d.day) from rfl)
  have X1_2 := (X1.cell 2).trans (show _ = some (.int .i64 d.need) from rfl)
  have X1_3 := (X1.cell 3).trans (show _ = some (.slice Ad_0 d.yes.length cd_0) from rfl)
  have X1_4 := (X1.cell 4).trans (show _ = some (.slice Ad_1 d.no.length cd_1) from rfl)
  have X1_5 := (X1.cell 5).trans (show _ = some (.bool d.done) from rfl)
  have X2_0 := (X2.cell 0).trans (show _ = some (.int .i64 d.id) from rfl)
  have X2_1 := (X2.cell 1).trans (show _ = some (.int .i64 d.day) from rfl)
  have X2_2 := (X2.cell 2).trans (show _ = some (.int .i64 d.need) from rfl)
  have X2_3 := (X2.cell 3).trans (show _ = some (.slice Ax0_0 d.yes.length d.yes.length) from rfl)
  have X2_4 := (X2.cell 4).trans (show _ = some (.slice Ax0_1 d.no.length d.no.length) from rfl)
  have X2_5 := (X2.cell 5).trans (show _ = some (.bool d.done) from rfl)
  go_wp2_with fail
  refine (hdIntS_is Ag0 cg0 _ (abL_len' d es fs) (1) (by omega) (by omega) _ (M21_0.rds.below (by repeat (first | exact Below.refl _ _ | refine Below.alloc ?_ (by first | exact Nat.le_refl _ | (simp <;> omega)) _ | refine Below.setCell ?_ (by first | exact Nat.le_refl _ | (simp <;> omega)) _)))).mono ?_
  rintro e w22 ⟨rfl, hb22⟩
  clear X1_0 X1_1 X1_2 X1_3 X1_4 X1_5
  clear X2_0 X2_1 X2_2 X2_3 X2_4 X2_5
  have hq22 : Below w21.heap.size w21 w22 := bth (by repeat (first | exact Below.refl _ _ | refine Below.alloc ?_ (by first | exact Nat.le_refl _ | (simp <;> omega)) _ | refine Below.setCell ?_ (by first | exact Nat.le_refl _ | (simp <;> omega)) _)) hb22
  have z22 := hq22.size
  replace HB := bth HB hq22
  replace Ow0 := Ow0.later hq22
  replace M21_0 := M21_0.later hq22
  replace X1 := X1.below hq22 X1.lt
  replace X2 := X2.below hq22 X2.lt
  have X1_0 := (X1.cell 0).trans (show _ = some (.int .i64 d.id) from rfl)
  have X1_1 := (X1.cell 1).trans (show _ = some (.int .i64 d.day) from rfl)
  have X1_2 := (X1.cell 2).trans (show _ = some (.int .i64 d.need) from rfl)
  have X1_3 := (X1.cell 3).trans (show _ = some (.slice Ad_0 d.yes.length cd_0) from rfl)
  have X1_4 := (X1.cell 4).trans (show _ = some (.slice Ad_1 d.no.length cd_1) from rfl)
  have X1_5 := (X1.cell 5).trans (show _ = some (.bool d.done) from rfl)
  have X2_0 := (X2.cell 0).trans (show _ = some (.int .i64 d.id) from rfl)
  have X2_1 := (X2.cell 1).trans (show _ = some (.int .i64 d.day) from rfl)
  have X2_2 := (X2.cell 2).trans (show _ = some (.int .i64 d.need) from rfl)
  have X2_3 := (X2.cell 3).trans (show _ = some (.slice Ax0_0 d.yes.length d.yes.length) from rfl)
  have X2_4 := (X2.cell 4).trans (show _ = some (.slice Ax0_1 d.no.length d.no.length) from rfl)
  have X2_5 := (X2.cell 5).trans (show _ = some (.bool d.done) from rfl)
  go_wp2_with fail
  refine (toDecidedA_is d Ad_0 Ad_1 cd_0 cd_1 hd_0' hd_1' _ (Rd_0.below (bth HB (by repeat (first | exact Below.refl _ _ | refine Below.alloc ?_ (by first | exact Nat.le_refl _ | (simp <;> omega)) _ | refine Below.setCell ?_ (by first | exact Nat.le_refl _ | (simp <;> omega)) _)))) (Rd_1.below (bth HB (by repeat (first | exact Below.refl _ _ | refine Below.alloc ?_ (by first | exact Nat.le_refl _ | (simp <;> omega)) _ | refine Below.setCell ?_ (by first | exact Nat.le_refl _ | (simp <;> omega)) _))))).mono ?_
  rintro e w23 ⟨At0_0, At0_1, rfl, Ot0_0, Ot0_1, apt0, hb23⟩
  clear X1_0 X1_1 X1_2 X1_3 X1_4 X1_5
  clear X2_0 X2_1 X2_2 X2_3 X2_4 X2_5
  have hq23 : Below w22.heap.size w22 w23 := bth (by repeat (first | exact Below.refl _ _ | refine Below.alloc ?_ (by first | exact Nat.le_refl _ | (simp <;> omega)) _ | refine Below.setCell ?_ (by first | exact Nat.le_refl _ | (simp <;> omega)) _)) hb23
  have z23 := hq23.size
  replace HB := bth HB hq23
  replace Ow0 := Ow0.later hq23
  replace M21_0 := M21_0.later hq23
  replace X1 := X1.below hq23 X1.lt
  replace X2 := X2.below hq23 X2.lt
  have int0 : Within [.slice At0_0 d.yes.length d.yes.length, .slice At0_1 d.no.length d.no.length] (w22.heap.size) (w23.heap.size) := by
    intro v hv k hk
    simp only [List.mem_cons, List.not_mem_nil, or_false] at hv
    rcases hv with rfl | hv
    · have h := Ot0_0.lt k hk; (try simp at h); omega
    subst hv
    have h := Ot0_1.lt k hk; (try simp at h); omega
  have X1_0 := (X1.cell 0).trans (show _ = some (.int .i64 d.id) from rfl)
  have X1_1 := (X1.cell 1).trans (show _ = some (.int .i64 d.day) from rfl)
  have X1_2 := (X1.cell 2).trans (show _ = some (.int .i64 d.need) from rfl)
  have X1_3 := (X1.cell 3).trans (show _ = some (.slice Ad_0 d.yes.length cd_0) from rfl)
  have X1_4 := (X1.cell 4).trans (show _ = some (.slice Ad_1 d.no.length cd_1) from rfl)
  have X1_5 := (X1.cell 5).trans (show _ = some (.bool d.done) from rfl)
  have X2_0 := (X2.cell 0).trans (show _ = some (.int .i64 d.id) from rfl)
  have X2_1 := (X2.cell 1).trans (show _ = some (.int .i64 d.day) from rfl)
  have X2_2 := (X2.cell 2).trans (show _ = some (.int .i64 d.need) from rfl)
  have X2_3 := (X2.cell 3).trans (show _ = some (.slice Ax0_0 d.yes.length d.yes.length) from rfl)
  have X2_4 := (X2.cell 4).trans (show _ = some (.slice Ax0_1 d.no.length d.no.length) from rfl)
  have X2_5 := (X2.cell 5).trans (show _ = some (.bool d.done) from rfl)
  go_wp2_with fail
  refine (toIntS_is Aes ces es hes' _ (Res.below (bth HB (by repeat (first | exact Below.refl _ _ | refine Below.alloc ?_ (by first | exact Nat.le_refl _ | (simp <;> omega)) _ | refine Below.setCell ?_ (by first | exact Nat.le_refl _ | (simp <;> omega)) _))))).mono ?_
  rintro e w24 ⟨At1, rfl, Ot1, hb24⟩
  clear X1_0 X1_1 X1_2 X1_3 X1_4 X1_5
  clear X2_0 X2_1 X2_2 X2_3 X2_4 X2_5
  have hq24 : Below w23.heap.size w23 w24 := bth (by repeat (first | exact Below.refl _ _ | refine Below.alloc ?_ (by first | exact Nat.le_refl _ | (simp <;> omega)) _ | refine Below.setCell ?_ (by first | exact Nat.le_refl _ | (simp <;> omega)) _)) hb24
  have z24 := hq24.size
  replace HB := bth HB hq24
  replace Ow0 := Ow0.later hq24
  replace M21_0 := M21_0.later hq24
  replace Ot0_0 := Ot0_0.later hq24
  replace Ot0_1 := Ot0_1.later hq24
  replace X1 := X1.below hq24 X1.lt
  replace X2 := X2.below hq24 X2.lt
  have int1 : Within [.slice At1 es.length es.length] (w23.heap.size) (w24.heap.size) := by
    intro v hv k hk
    simp only [List.mem_cons, List.not_mem_nil, or_false] at hv
    subst hv
    have h := Ot1.lt k hk; (try simp at h); omega
  have X1_0 := (X1.cell 0).trans (show _ = some (.int .i64 d.id) from rfl)
  have X1_1 := (X1.cell 1).trans (show _ = some (.int .i64 d.day) from rfl)
  have X1_2 := (X1.cell 2).trans (show _ = some (.int .i64 d.need) from rfl)
  have X1_3 := (X1.cell 3).trans (show _ = some (.slice Ad_0 d.yes.length cd_0) from rfl)
  have X1_4 := (X1.cell 4).trans (show _ = some (.slice Ad_1 d.no.length cd_1) from rfl)
  have X1_5 := (X1.cell 5).trans (show _ = some (.bool d.done) from rfl)
  have X2_0 := (X2.cell 0).trans (show _ = some (.int .i64 d.id) from rfl)
  have X2_1 := (X2.cell 1).trans (show _ = some (.int .i64 d.day) from rfl)
  have X2_2 := (X2.cell 2).trans (show _ = some (.int .i64 d.need) from rfl)
  have X2_3 := (X2.cell 3).trans (show _ = some (.slice Ax0_0 d.yes.length d.yes.length) from rfl)
  have X2_4 := (X2.cell 4).trans (show _ = some (.slice Ax0_1 d.no.length d.no.length) from rfl)
  have X2_5 := (X2.cell 5).trans (show _ = some (.bool d.done) from rfl)
  go_wp2_with fail
  refine (toIntS_is Afs cfs fs hfs' _ (Rfs.below (bth HB (by repeat (first | exact Below.refl _ _ | refine Below.alloc ?_ (by first | exact Nat.le_refl _ | (simp <;> omega)) _ | refine Below.setCell ?_ (by first | exact Nat.le_refl _ | (simp <;> omega)) _))))).mono ?_
  rintro e w25 ⟨At2, rfl, Ot2, hb25⟩
  clear X1_0 X1_1 X1_2 X1_3 X1_4 X1_5
  clear X2_0 X2_1 X2_2 X2_3 X2_4 X2_5
  have hq25 : Below w24.heap.size w24 w25 := bth (by repeat (first | exact Below.refl _ _ | refine Below.alloc ?_ (by first | exact Nat.le_refl _ | (simp <;> omega)) _ | refine Below.setCell ?_ (by first | exact Nat.le_refl _ | (simp <;> omega)) _)) hb25
  have z25 := hq25.size
  replace HB := bth HB hq25
  replace Ow0 := Ow0.later hq25
  replace M21_0 := M21_0.later hq25
  replace Ot0_0 := Ot0_0.later hq25
  replace Ot0_1 := Ot0_1.later hq25
  replace Ot1 := Ot1.later hq25
  replace X1 := X1.below hq25 X1.lt
  replace X2 := X2.below hq25 X2.lt
  have int2 : Within [.slice At2 fs.length fs.length] (w24.heap.size) (w25.heap.size) := by
    intro v hv k hk
    simp only [List.mem_cons, List.not_mem_nil, or_false] at hv
    subst hv
    have h := Ot2.lt k hk; (try simp at h); omega
  have X1_0 := (X1.cell 0).trans (show _ = some (.int .i64 d.id) from rfl)
  have X1_1 := (X1.cell 1).trans (show _ = some (.int .i64 d.day) from rfl)
  have X1_2 := (X1.cell 2).trans (show _ = some (.int .i64 d.need) from rfl)
  have X1_3 := (X1.cell 3).trans (show _ = some (.slice Ad_0 d.yes.length cd_0) from rfl)
  have X1_4 := (X1.cell 4).trans (show _ = some (.slice Ad_1 d.no.length cd_1) from rfl)
  have X1_5 := (X1.cell 5).trans (show _ = some (.bool d.done) from rfl)
  have X2_0 := (X2.cell 0).trans (show _ = some (.int .i64 d.id) from rfl)
  have X2_1 := (X2.cell 1).trans (show _ = some (.int .i64 d.day) from rfl)
  have X2_2 := (X2.cell 2).trans (show _ = some (.int .i64 d.need) from rfl)
  have X2_3 := (X2.cell 3).trans (show _ = some (.slice Ax0_0 d.yes.length d.yes.length) from rfl)
  have X2_4 := (X2.cell 4).trans (show _ = some (.slice Ax0_1 d.no.length d.no.length) from rfl)
  have X2_5 := (X2.cell 5).trans (show _ = some (.bool d.done) from rfl)
  go_wp2_with fail
  refine (iAbsentN_is d At0_0 At0_1 d.yes.length d.no.length hd_0' hd_1' At1 es.length es hes' At2 fs.length fs hfs' _ (Ot0_0.rds.below (by repeat (first | exact Below.refl _ _ | refine Below.alloc ?_ (by first | exact Nat.le_refl _ | (simp <;> omega)) _ | refine Below.setCell ?_ (by first | exact Nat.le_refl _ | (simp <;> omega)) _))) (Ot0_1.rds.below (by repeat (first | exact Below.refl _ _ | refine Below.alloc ?_ (by first | exact Nat.le_refl _ | (simp <;> omega)) _ | refine Below.setCell ?_ (by first | exact Nat.le_refl _ | (simp <;> omega)) _))) (Ot1.rds.below (by repeat (first | exact Below.refl _ _ | refine Below.alloc ?_ (by first | exact Nat.le_refl _ | (simp <;> omega)) _ | refine Below.setCell ?_ (by first | exact Nat.le_refl _ | (simp <;> omega)) _))) (Ot2.rds.below (by repeat (first | exact Below.refl _ _ | refine Below.alloc ?_ (by first | exact Nat.le_refl _ | (simp <;> omega)) _ | refine Below.setCell ?_ (by first | exact Nat.le_refl _ | (simp <;> omega)) _))) Ot0_0.nilOk Ot0_1.nilOk Ot1.nilOk Ot2.nilOk).mono ?_
  rintro e w26 ⟨Ah0, ch0, rfl, Oh0, hb26⟩
  clear X1_0 X1_1 X1_2 X1_3 X1_4 X1_5
  clear X2_0 X2_1 X2_2 X2_3 X2_4 X2_5
  have hq26 : Below w25.heap.size w25 w26 := bth (by repeat (first | exact Below.refl _ _ | refine Below.alloc ?_ (by first | exact Nat.le_refl _ | (simp <;> omega)) _ | refine Below.setCell ?_ (by first | exact Nat.le_refl _ | (simp <;> omega)) _)) hb26
  have z26 := hq26.size
  replace HB := bth HB hq26
  replace Ow0 := Ow0.later hq26
  replace M21_0 := M21_0.later hq26
  replace Ot0_0 := Ot0_0.later hq26
  replace Ot0_1 := Ot0_1.later hq26
  replace Ot1 := Ot1.later hq26
  replace Ot2 := Ot2.later hq26
  replace X1 := X1.below hq26 X1.lt
  replace X2 := X2.below hq26 X2.lt
  have inh0 : Within [.slice Ah0 (abL d es fs).length ch0] (w25.heap.size) (w26.heap.size) := by
    intro v hv k hk
    simp only [List.mem_cons, List.not_mem_nil, or_false] at hv
    subst hv
    have h := Oh0.lt k hk; (try simp at h); omega
  have X1_0 := (X1.cell 0).trans (show _ = some (.int .i64 d.id) from rfl)
  have X1_1 := (X1.cell 1).trans (show _ = some (.int .i64 d.day) from rfl)
  have X1_2 := (X1.cell 2).trans (show _ = some (.int .i64 d.need) from rfl)
  have X1_3 := (X1.cell 3).trans (show _ = some (.slice Ad_0 d.yes.length cd_0) from rfl)
  have X1_4 := (X1.cell 4).trans (show _ = some (.slice Ad_1 d.no.length cd_1) from rfl)
  have X1_5 := (X1.cell 5).trans (show _ = some (.bool d.done) from rfl)
  have X2_0 := (X2.cell 0).trans (show _ = some (.int .i64 d.id) from rfl)
  have X2_1 := (X2.cell 1).trans (show _ = some (.int .i64 d.day) from rfl)
  have X2_2 := (X2.cell 2).trans (show _ = some (.int .i64 d.need) from rfl)
  have X2_3 := (X2.cell 3).trans (show _ = some (.slice Ax0_0 d.yes.length d.yes.length) from rfl)
  have X2_4 := (X2.cell 4).trans (show _ = some (.slice Ax0_1 d.no.length d.no.length) from rfl)
  have X2_5 := (X2.cell 5).trans (show _ = some (.bool d.done) from rfl)
  go_wp2_with fail
  refine (eqIntS_is Ah0 Aw0 ch0 cw0 (abL d es fs) (abL_len' d es fs) _ (Oh0.rds.below (by repeat (first | exact Below.refl _ _ | refine Below.alloc ?_ (by first | exact Nat.le_refl _ | (simp <;> omega)) _ | refine Below.setCell ?_ (by first | exact Nat.le_refl _ | (simp <;> omega)) _))) (Ow0.rds.below (by repeat (first | exact Below.refl _ _ | refine Below.alloc ?_ (by first | exact Nat.le_refl _ | (simp <;> omega)) _ | refine Below.setCell ?_ (by first | exact Nat.le_refl _ | (simp <;> omega)) _)))).mono ?_
  rintro e w27 ⟨rfl, hb27⟩
  clear X1_0 X1_1 X1_2 X1_3 X1_4 X1_5
  clear X2_0 X2_1 X2_2 X2_3 X2_4 X2_5
  have hq27 : Below w26.heap.size w26 w27 := bth (by repeat (first | exact Below.refl _ _ | refine Below.alloc ?_ (by first | exact Nat.le_refl _ | (simp <;> omega)) _ | refine Below.setCell ?_ (by first | exact Nat.le_refl _ | (simp <;> omega)) _)) hb27
  have z27 := hq27.size
  replace HB := bth HB hq27
  replace Ow0 := Ow0.later hq27
  replace M21_0 := M21_0.later hq27
  replace Oh0 := Oh0.later hq27
  replace X1 := X1.below hq27 X1.lt
  replace X2 := X2.below hq27 X2.lt
  have X1_0 := (X1.cell 0).trans (show _ = some (.int .i64 d.id) from rfl)
  have X1_1 := (X1.cell 1).trans (show _ = some (.int .i64 d.day) from rfl)
  have X1_2 := (X1.cell 2).trans (show _ = some (.int .i64 d.need) from rfl)
  have X1_3 := (X1.cell 3).trans (show _ = some (.slice Ad_0 d.yes.length cd_0) from rfl)
  have X1_4 := (X1.cell 4).trans (show _ = some (.slice Ad_1 d.no.length cd_1) from rfl)
  have X1_5 := (X1.cell 5).trans (show _ = some (.bool d.done) from rfl)
  have X2_0 := (X2.cell 0).trans (show _ = some (.int .i64 d.id) from rfl)
  have X2_1 := (X2.cell 1).trans (show _ = some (.int .i64 d.day) from rfl)
  have X2_2 := (X2.cell 2).trans (show _ = some (.int .i64 d.need) from rfl)
  have X2_3 := (X2.cell 3).trans (show _ = some (.slice Ax0_0 d.yes.length d.yes.length) from rfl)
  have X2_4 := (X2.cell 4).trans (show _ = some (.slice Ax0_1 d.no.length d.no.length) from rfl)
  have X2_5 := (X2.cell 5).trans (show _ = some (.bool d.done) from rfl)
  go_wp2_with fail
  refine (hdIntS_is Ag0 cg0 _ (abL_len' d es fs) (1) (by omega) (by omega) _ (M21_0.rds.below (by repeat (first | exact Below.refl _ _ | refine Below.alloc ?_ (by first | exact Nat.le_refl _ | (simp <;> omega)) _ | refine Below.setCell ?_ (by first | exact Nat.le_refl _ | (simp <;> omega)) _)))).mono ?_
  rintro e w28 ⟨rfl, hb28⟩
  clear X1_0 X1_1 X1_2 X1_3 X1_4 X1_5
  clear X2_0 X2_1 X2_2 X2_3 X2_4 X2_5
  have hq28 : Below w27.heap.size w27 w28 := bth (by repeat (first | exact Below.refl _ _ | refine Below.alloc ?_ (by first | exact Nat.le_refl _ | (simp <;> omega)) _ | refine Below.setCell ?_ (by first | exact Nat.le_refl _ | (simp <;> omega)) _)) hb28
  have z28 := hq28.size
  replace HB := bth HB hq28
  replace Ow0 := Ow0.later hq28
  replace M21_0 := M21_0.later hq28
  replace Oh0 := Oh0.later hq28
  replace X1 := X1.below hq28 X1.lt
  replace X2 := X2.below hq28 X2.lt
  have X1_0 := (X1.cell 0).trans (show _ = some (.int .i64 d.id) from rfl)
  have X1_1 := (X1.cell 1).trans (show _ = some (.int .i64 d.day) from rfl)
  have X1_2 := (X1.cell 2).trans (show _ = some (.int .i64 d.need) from rfl)
  have X1_3 := (X1.cell 3).trans (show _ = some (.slice Ad_0 d.yes.length cd_0) from rfl)
  have X1_4 := (X1.cell 4).trans (show _ = some (.slice Ad_1 d.no.length cd_1) from rfl)
  have X1_5 := (X1.cell 5).trans (show _ = some (.bool d.done) from rfl)
  have X2_0 := (X2.cell 0).trans (show _ = some (.int .i64 d.id) from rfl)
  have X2_1 := (X2.cell 1).trans (show _ = some (.int .i64 d.day) from rfl)
  have X2_2 := (X2.cell 2).trans (show _ = some (.int .i64 d.need) from rfl)
  have X2_3 := (X2.cell 3).trans (show _ = some (.slice Ax0_0 d.yes.length d.yes.length) from rfl)
  have X2_4 := (X2.cell 4).trans (show _ = some (.slice Ax0_1 d.no.length d.no.length) from rfl)
  have X2_5 := (X2.cell 5).trans (show _ = some (.bool d.done) from rfl)
  go_wp2
  go_ret
  exact ⟨rfl, bth HB (by repeat (first | exact Below.refl _ _ | refine Below.alloc ?_ (by first | exact Nat.le_refl _ | (simp <;> omega)) _ | refine Below.setCell ?_ (by first | exact Nat.le_refl _ | (simp <;> omega)) _))⟩
open Go.ChangeShapes Go.WideShapes Go.ChangeAt Go.Deep
set_option maxRecDepth 100000 in
theorem absentThen_lifted (os : Os) (started : os.Started) (H : Type) (enc : TypeId × Value → H) :
    ReturnsInHanded {} Try.checked os 9 .any (Rows.fnExactAbsentThenSpec.pre6 enc Try.prog Try.f9 Rows.fnExactAbsentThenRow.domain false) (Rows.fnExactAbsentThenSpec.post enc Try.prog Try.f9 false true false false) := by
  refine law_lift (C := Try.checked) (rt := 4) prog_own started (by kernel_rfl) Try.func9
    (ChangeSpec.witness6 (enc := enc) (C := Try.checked) false ⟨#[], #[.agg #[.int .i64 0, .int .i64 0, .int .i64 0, .slice none 0 0, .slice none 0 0, .bool false],  .slice none 0 0,  .slice none 0 0], []⟩ 8 (by kernel_rfl) (by kernel_rfl) (by kernel_rfl) (by kernel_rfl))
    prog_laid (by rw [Try.params9]; intro t ht; simp at ht; rcases ht with rfl | rfl | rfl; all_goals exact ⟨by kernel_rfl, of_decide_eq_true (by kernel_rfl)⟩) rfl Try.underlying4 rfl
    (by rw [Try.params9]; intro l hl; match l, hl with | [d0, d1, d2], _ => rfl) ?_
  intro W base args ds p hval hA
  rw [Try.params9] at hA hval
  obtain ⟨v0, v1, v2, d0, d1, d2, p0, p1, p2, rfl, rfl, rfl, h0, h1, h2⟩ := trodAll_three hA
  obtain ⟨cs_0, rfl, _⟩ := okWide_struct Try.underlying24 (hval 0 24 v0 rfl rfl)
  obtain ⟨fuel_0, f_0⟩ := h0
  obtain ⟨d, Y, N, yc, nc, e_0, l3, l4, R3, R4, _, _⟩ := rd_Dec f_0
  rw [agg_of_list (cs := cs_0) e_0]
  obtain ⟨a_es, len_es, cap_es, rfl⟩ := okWide_slice Try.underlying22 (hval 1 22 v1 rfl rfl)
  obtain ⟨fuel_es, f_es⟩ := h1
  obtain ⟨A_es, c_es, es, e_es, l_es, R_es⟩ := rd_slice intC 1 (by decide) Try.underlying22 cells_int (fun _ _ _ h => rd_Int h) f_es
  simp [Value.cells] at e_es
  obtain ⟨rfl, rfl, rfl⟩ := e_es
  obtain ⟨a_fs, len_fs, cap_fs, rfl⟩ := okWide_slice Try.underlying22 (hval 2 22 v2 rfl rfl)
  obtain ⟨fuel_fs, f_fs⟩ := h2
  obtain ⟨A_fs, c_fs, fs, e_fs, l_fs, R_fs⟩ := rd_slice intC 1 (by decide) Try.underlying22 cells_int (fun _ _ _ h => rd_Int h) f_fs
  simp [Value.cells] at e_fs
  obtain ⟨rfl, rfl, rfl⟩ := e_fs
  exact law_absentThen d Y N yc nc l3 l4 _ _ es l_es _ _ fs l_fs W R3 R4 R_es R_fs
theorem absentThen_holds : Rows.FnExactAbsentThenSaid :=
  OpenClaim.holds_of_wide 9 Try.f9 rfl rfl rfl rfl rfl rfl rfl ⟨rfl, rfl, rfl, rfl, rfl⟩ rfl rfl rfl rfl rfl (by kernel_rfl) Try.func9 (by kernel_rfl)
    (of_decide_eq_true (by kernel_rfl)) (by unfold Func.isWrapper; rw [if_neg (of_decide_eq_false (by kernel_rfl))]; exact ⟨rfl, rfl⟩)
    (fun os started H enc _ => absentThen_lifted os started H enc)
#print axioms absentThen_holds
end Go.Proofs.Ythgaddnbgnennaa
