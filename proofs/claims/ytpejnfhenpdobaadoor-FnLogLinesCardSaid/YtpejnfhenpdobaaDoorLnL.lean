/- The walk of the law of lines. -/
import Derived.Test.YtpejnfhenpdobaaDoorLnP
import Derived.Test.YtpejnfhenpdobaaDoorCrL
import Derived.Test.YtpejnfhenpdobaaDoorCurE
import Derived.Test.YtpejnfhenpdobaaDoorCurR
namespace Go.Proofs.YtpejnfhenpdobaaDoor
open Go.RowKit Go.G9
theorem ln_cases (k : Int) (y : LRec) : (enT k y).size ≤ 400 ∧ ((enTB k y = false ∧ enT k y = ⟨#[]⟩) ∨ (enTB k y = true ∧ k = 0 ∧ 0 < recTE (enT k y) ∧ (recT (enT k y)).cnt = 1) ∨ (enTB k y = true ∧ (k == 0) = false ∧ ¬ 0 < recTE (enT k y))) := by
  cases h : enTB k y
  · have h1 := enT_no h
    exact ⟨by rw [h1]; decide, .inl ⟨rfl, h1⟩⟩
  · have h1 := enT_yes h
    have h2 := en_law h
    refine ⟨?_, .inr ?_⟩
    · rw [h1, bs_size]
      unfold enTB encOk inB at h
      simp only [Bool.and_eq_true, decide_eq_true_eq] at h
      have := lineL_len (k := k) (by omega) (by omega) h.2
      simp
      omega
    · by_cases hk : k = 0
      · exact .inl ⟨rfl, hk, by have := h2.1; rw [hk] at this ⊢; simpa using this, h2.2 hk⟩
      · have hk' : (k == 0) = false := beq_eq_false_iff_ne.2 hk
        refine .inr ⟨rfl, hk', ?_⟩
        have := h2.1
        rw [hk'] at this
        exact of_decide_eq_false this
theorem recT_size (t : ByteArray) : (recT t).dur.size + (recT t).pen.size ≤ t.size := by
  show (bs (recL t.data.toList)).size + 0 ≤ _
  rw [bs_size]
  have : t.data.toList.length = t.size := Array.length_toList
  unfold recL
  split
  · rw [List.length_take]; omega
  · simp
set_option maxHeartbeats 8000000 in
set_option maxRecDepth 100000 in
theorem law_logLines (A : Option Addr) (c : Nat) (cs : List UInt8) (w : World) (hR : Rds 1 u8C w A cs) (HT : Tab w) :
  Calls Tryd.prog 11 #[.slice A cs.length c] w fun e w' => e = .returned (.bool true) ∧ Below w.heap.size w w' := by
  cases hv : decide (65536 < cs.length)
  case true =>
    go_enter Tryd.func11, Tryd.ntmps11
    go_wp2_with fail
    refine (vBig_is A c cs.length _ hv _).mono ?_
    rintro e _ ⟨rfl, rfl⟩
    go_wp2
    go_ret
    exact ⟨rfl, (by repeat (first | exact Below.refl _ _ | refine Below.alloc ?_ (by first | exact Nat.le_refl _ | (simp <;> omega)) _ | refine Below.setCell ?_ (by first | exact Nat.le_refl _ | (simp <;> omega)) _))⟩
  have hcs : cs.length ≤ 1048576 := by have := of_decide_eq_false hv; omega
  go_enter Tryd.func11, Tryd.ntmps11
  go_wp2_with fail
  refine (vBig_is A c cs.length _ hv _).mono ?_
  rintro e w0 ⟨rfl, h0⟩
  rw [h0]
  clear h0 w0
  go_wp2_with fail
  refine (drawEncodeRecord_is A c cs hcs _ (hR.below (by repeat (first | exact Below.refl _ _ | refine Below.alloc ?_ (by first | exact Nat.le_refl _ | (simp <;> omega)) _ | refine Below.setCell ?_ (by first | exact Nat.le_refl _ | (simp <;> omega)) _)))).mono ?_
  rintro e w1 ⟨k, y, rfl, ⟨hk0, hk1⟩, ⟨hy1, hy2⟩, hb1⟩
  have hq1 : Below w.heap.size w w1 := bth (by repeat (first | exact Below.refl _ _ | refine Below.alloc ?_ (by first | exact Nat.le_refl _ | (simp <;> omega)) _ | refine Below.setCell ?_ (by first | exact Nat.le_refl _ | (simp <;> omega)) _)) hb1
  have HB : Below w.heap.size w w1 := hq1
  replace HT := HT.below hq1
  replace hR := hR.below hq1
  have iE := iEncodeRecordR_is k y (by omega) (by omega)
  have sE := sEncodeRecordR_is k y (by omega) (by omega)
  obtain ⟨hsz, hcase⟩ := ln_cases k y
  go_wp2_with fail
  refine (iE _ (HT.below (by repeat (first | exact Below.refl _ _ | refine Below.alloc ?_ (by first | exact Nat.le_refl _ | (simp <;> omega)) _ | refine Below.setCell ?_ (by first | exact Nat.le_refl _ | (simp <;> omega)) _)))).mono ?_
  rintro e w2 ⟨rfl, hb2⟩
  have hq2 : Below w1.heap.size w1 w2 := bth (by repeat (first | exact Below.refl _ _ | refine Below.alloc ?_ (by first | exact Nat.le_refl _ | (simp <;> omega)) _ | refine Below.setCell ?_ (by first | exact Nat.le_refl _ | (simp <;> omega)) _)) hb2
  replace HB := bth HB hq2
  replace HT := HT.below hq2
  replace hR := hR.below hq2
  have hY : Blk w2 (w1.heap.size) 27 #[.string y.cmd, .string y.rep] := Blk.below (by repeat (first | exact Blk.new _ _ _ | exact Blk.new2 _ _ _ _ | exact Blk.new3 _ _ _ _ _ | exact Blk.new4 _ _ _ _ _ _ | refine Blk.alloc ?_ _)) hb2 (by simp <;> omega)
  have y0 := (hY.cell 0).trans (show _ = some (.string y.cmd) from rfl)
  have y1 := (hY.cell 1).trans (show _ = some (.string y.rep) from rfl)
  go_wp2_with fail
  refine (sE _).mono ?_
  rintro e w3 ⟨rfl, hb3⟩
  have hq3 : Below w2.heap.size w2 w3 := bth (by repeat (first | exact Below.refl _ _ | refine Below.alloc ?_ (by first | exact Nat.le_refl _ | (simp <;> omega)) _ | refine Below.setCell ?_ (by first | exact Nat.le_refl _ | (simp <;> omega)) _)) hb3
  replace HB := bth HB hq3
  replace HT := HT.below hq3
  replace hR := hR.below hq3
  replace hY := hY.below hq3 hY.lt
  replace y0 := (hY.cell 0).trans (show _ = some (.string y.cmd) from rfl)
  replace y1 := (hY.cell 1).trans (show _ = some (.string y.rep) from rfl)
  go_wp2_with fail
  refine (drawRecoverLog_is A c cs hcs _ (hR.below (by repeat (first | exact Below.refl _ _ | refine Below.alloc ?_ (by first | exact Nat.le_refl _ | (simp <;> omega)) _ | refine Below.setCell ?_ (by first | exact Nat.le_refl _ | (simp <;> omega)) _)))).mono ?_
  rintro e w4 ⟨t, rfl, ht, hb4⟩
  have hq4 : Below w3.heap.size w3 w4 := bth (by repeat (first | exact Below.refl _ _ | refine Below.alloc ?_ (by first | exact Nat.le_refl _ | (simp <;> omega)) _ | refine Below.setCell ?_ (by first | exact Nat.le_refl _ | (simp <;> omega)) _)) hb4
  replace HB := bth HB hq4
  replace HT := HT.below hq4
  replace hR := hR.below hq4
  replace hY := hY.below hq4 hY.lt
  replace y0 := (hY.cell 0).trans (show _ = some (.string y.cmd) from rfl)
  replace y1 := (hY.cell 1).trans (show _ = some (.string y.rep) from rfl)
  have ht2 := recT_size t
  have iR := iRecoverLogR_is t (by omega)
  have sR := sRecoverLogR_is t (by omega)
  have iX := iRecoverLogR_is (enT k y) (by omega)
  have iS := iSyncLogR_is (recT t) (by omega)
  have iV := iIsValidLogT_is (recT t) (by omega)
  obtain ⟨told, htold⟩ : ∃ b, b = recTB t := ⟨_, rfl⟩
  have hT2 : told = false ∨ (told = true ∧ (recT t).ok = true ∧ syncT (recT t) = recT t) := by
    cases hb : recTB t
    · exact .inl (htold.trans hb)
    · exact .inr ⟨htold.trans hb, recT_ok hb⟩
  rw [← htold] at iR sR
  clear iE sE htold
  generalize enTB k y = ok at *
  generalize enT k y = s at *
  go_wp2_with fail
  refine (iR _ (HT.below (by repeat (first | exact Below.refl _ _ | refine Below.alloc ?_ (by first | exact Nat.le_refl _ | (simp <;> omega)) _ | refine Below.setCell ?_ (by first | exact Nat.le_refl _ | (simp <;> omega)) _)))).mono ?_
  rintro e w5 ⟨rfl, hb5⟩
  have hq5 : Below w4.heap.size w4 w5 := bth (by repeat (first | exact Below.refl _ _ | refine Below.alloc ?_ (by first | exact Nat.le_refl _ | (simp <;> omega)) _ | refine Below.setCell ?_ (by first | exact Nat.le_refl _ | (simp <;> omega)) _)) hb5
  replace HB := bth HB hq5
  replace HT := HT.below hq5
  replace hR := hR.below hq5
  replace hY := hY.below hq5 hY.lt
  replace y0 := (hY.cell 0).trans (show _ = some (.string y.cmd) from rfl)
  replace y1 := (hY.cell 1).trans (show _ = some (.string y.rep) from rfl)
  go_wp2_with fail
  refine (sR _).mono ?_
  rintro e w6 ⟨rfl, hb6⟩
  have hq6 : Below w5.heap.size w5 w6 := bth (by repeat (first | exact Below.refl _ _ | refine Below.alloc ?_ (by first | exact Nat.le_refl _ | (simp <;> omega)) _ | refine Below.setCell ?_ (by first | exact Nat.le_refl _ | (simp <;> omega)) _)) hb6
  replace HB := bth HB hq6
  replace HT := HT.below hq6
  replace hR := hR.below hq6
  replace hY := hY.below hq6 hY.lt
  replace y0 := (hY.cell 0).trans (show _ = some (.string y.cmd) from rfl)
  replace y1 := (hY.cell 1).trans (show _ = some (.string y.rep) from rfl)
  have hM : Blk w6 (w5.heap.size) 31 #[.string (recT t).dur, .string (recT t).pen, .int .i64 (recT t).cnt] := Blk.below (by repeat (first | exact Blk.new _ _ _ | exact Blk.new2 _ _ _ _ | exact Blk.new3 _ _ _ _ _ | exact Blk.new4 _ _ _ _ _ _ | refine Blk.alloc ?_ _)) hb6 (by simp <;> omega)
  have m0 := (hM.cell 0).trans (show _ = some (.string (recT t).dur) from rfl)
  have m1 := (hM.cell 1).trans (show _ = some (.string (recT t).pen) from rfl)
  have m2 := (hM.cell 2).trans (show _ = some (.int .i64 (recT t).cnt) from rfl)
  clear iR sR
  rcases hT2 with rfl | ⟨rfl, h3, h4⟩
  · rcases hcase with ⟨rfl, hs⟩ | ⟨rfl, rfl, h1, h2⟩ | ⟨rfl, h1, h2⟩
    · subst hs
      have yhY := hY.lt
      have yhM := hM.lt
      go_wp2_with fail
      refine (iX _ (HT.below (by repeat (first | exact Below.refl _ _ | refine Below.alloc ?_ (by first | exact Nat.le_refl _ | (simp <;> omega)) _ | refine Below.setCell ?_ (by first | exact Nat.le_refl _ | (simp <;> omega)) _)))).mono ?_
      rintro e w7 ⟨rfl, hb7⟩
      have hq7 : Below w6.heap.size w6 w7 := bth (by repeat (first | exact Below.refl _ _ | refine Below.alloc ?_ (by first | exact Nat.le_refl _ | (simp <;> omega)) _ | refine Below.setCell ?_ (by first | exact Nat.le_refl _ | (simp <;> omega)) _)) hb7
      replace HB := bth HB hq7
      replace HT := HT.below hq7
      replace hR := hR.below hq7
      replace hY := hY.below hq7 hY.lt
      replace y0 := (hY.cell 0).trans (show _ = some (.string y.cmd) from rfl)
      replace y1 := (hY.cell 1).trans (show _ = some (.string y.rep) from rfl)
      replace hM := hM.below hq7 hM.lt
      replace m0 := (hM.cell 0).trans (show _ = some (.string (recT t).dur) from rfl)
      replace m1 := (hM.cell 1).trans (show _ = some (.string (recT t).pen) from rfl)
      replace m2 := (hM.cell 2).trans (show _ = some (.int .i64 (recT t).cnt) from rfl)
      have yhY := hY.lt
      have yhM := hM.lt
      go_wp2_with fail
      refine (iS _ (HT.below (by repeat (first | exact Below.refl _ _ | refine Below.alloc ?_ (by first | exact Nat.le_refl _ | (simp <;> omega)) _ | refine Below.setCell ?_ (by first | exact Nat.le_refl _ | (simp <;> omega)) _)))).mono ?_
      rintro e w8 ⟨rfl, hb8⟩
      have hq8 : Below w7.heap.size w7 w8 := bth (by repeat (first | exact Below.refl _ _ | refine Below.alloc ?_ (by first | exact Nat.le_refl _ | (simp <;> omega)) _ | refine Below.setCell ?_ (by first | exact Nat.le_refl _ | (simp <;> omega)) _)) hb8
      replace HB := bth HB hq8
      replace HT := HT.below hq8
      replace hR := hR.below hq8
      replace hY := hY.below hq8 hY.lt
      replace y0 := (hY.cell 0).trans (show _ = some (.string y.cmd) from rfl)
      replace y1 := (hY.cell 1).trans (show _ = some (.string y.rep) from rfl)
      replace hM := hM.below hq8 hM.lt
      replace m0 := (hM.cell 0).trans (show _ = some (.string (recT t).dur) from rfl)
      replace m1 := (hM.cell 1).trans (show _ = some (.string (recT t).pen) from rfl)
      replace m2 := (hM.cell 2).trans (show _ = some (.int .i64 (recT t).cnt) from rfl)
      have yhY := hY.lt
      have yhM := hM.lt
      go_wp2
      go_ret
      exact ⟨rfl, (by repeat (first | exact HB | exact Below.refl _ _ | refine Below.alloc ?_ (by first | exact Nat.le_refl _ | (have hsz := HB.size; simp; omega) | (simp <;> omega)) _ | refine Below.setCell ?_ (by first | exact Nat.le_refl _ | (simp <;> omega)) _))⟩
    · rw [h2] at iX
      have yhY := hY.lt
      have yhM := hM.lt
      go_wp2_with fail
      refine (iX _ (HT.below (by repeat (first | exact Below.refl _ _ | refine Below.alloc ?_ (by first | exact Nat.le_refl _ | (simp <;> omega)) _ | refine Below.setCell ?_ (by first | exact Nat.le_refl _ | (simp <;> omega)) _)))).mono ?_
      rintro e w7 ⟨rfl, hb7⟩
      have hq7 : Below w6.heap.size w6 w7 := bth (by repeat (first | exact Below.refl _ _ | refine Below.alloc ?_ (by first | exact Nat.le_refl _ | (simp <;> omega)) _ | refine Below.setCell ?_ (by first | exact Nat.le_refl _ | (simp <;> omega)) _)) hb7
      replace HB := bth HB hq7
      replace HT := HT.below hq7
      replace hR := hR.below hq7
      replace hY := hY.below hq7 hY.lt
      replace y0 := (hY.cell 0).trans (show _ = some (.string y.cmd) from rfl)
      replace y1 := (hY.cell 1).trans (show _ = some (.string y.rep) from rfl)
      replace hM := hM.below hq7 hM.lt
      replace m0 := (hM.cell 0).trans (show _ = some (.string (recT t).dur) from rfl)
      replace m1 := (hM.cell 1).trans (show _ = some (.string (recT t).pen) from rfl)
      replace m2 := (hM.cell 2).trans (show _ = some (.int .i64 (recT t).cnt) from rfl)
      have yhY := hY.lt
      have yhM := hM.lt
      go_wp2_with fail
      refine (iS _ (HT.below (by repeat (first | exact Below.refl _ _ | refine Below.alloc ?_ (by first | exact Nat.le_refl _ | (simp <;> omega)) _ | refine Below.setCell ?_ (by first | exact Nat.le_refl _ | (simp <;> omega)) _)))).mono ?_
      rintro e w8 ⟨rfl, hb8⟩
      have hq8 : Below w7.heap.size w7 w8 := bth (by repeat (first | exact Below.refl _ _ | refine Below.alloc ?_ (by first | exact Nat.le_refl _ | (simp <;> omega)) _ | refine Below.setCell ?_ (by first | exact Nat.le_refl _ | (simp <;> omega)) _)) hb8
      replace HB := bth HB hq8
      replace HT := HT.below hq8
      replace hR := hR.below hq8
      replace hY := hY.below hq8 hY.lt
      replace y0 := (hY.cell 0).trans (show _ = some (.string y.cmd) from rfl)
      replace y1 := (hY.cell 1).trans (show _ = some (.string y.rep) from rfl)
      replace hM := hM.below hq8 hM.lt
      replace m0 := (hM.cell 0).trans (show _ = some (.string (recT t).dur) from rfl)
      replace m1 := (hM.cell 1).trans (show _ = some (.string (recT t).pen) from rfl)
      replace m2 := (hM.cell 2).trans (show _ = some (.int .i64 (recT t).cnt) from rfl)
      have yhY := hY.lt
      have yhM := hM.lt
      go_wp2
      go_ret
      exact ⟨rfl, (by repeat (first | exact HB | exact Below.refl _ _ | refine Below.alloc ?_ (by first | exact Nat.le_refl _ | (have hsz := HB.size; simp; omega) | (simp <;> omega)) _ | refine Below.setCell ?_ (by first | exact Nat.le_refl _ | (simp <;> omega)) _))⟩
    · have yhY := hY.lt
      have yhM := hM.lt
      go_wp2_with fail
      refine (iX _ (HT.below (by repeat (first | exact Below.refl _ _ | refine Below.alloc ?_ (by first | exact Nat.le_refl _ | (simp <;> omega)) _ | refine Below.setCell ?_ (by first | exact Nat.le_refl _ | (simp <;> omega)) _)))).mono ?_
      rintro e w7 ⟨rfl, hb7⟩
      have hq7 : Below w6.heap.size w6 w7 := bth (by repeat (first | exact Below.refl _ _ | refine Below.alloc ?_ (by first | exact Nat.le_refl _ | (simp <;> omega)) _ | refine Below.setCell ?_ (by first | exact Nat.le_refl _ | (simp <;> omega)) _)) hb7
      replace HB := bth HB hq7
      replace HT := HT.below hq7
      replace hR := hR.below hq7
      replace hY := hY.below hq7 hY.lt
      replace y0 := (hY.cell 0).trans (show _ = some (.string y.cmd) from rfl)
      replace y1 := (hY.cell 1).trans (show _ = some (.string y.rep) from rfl)
      replace hM := hM.below hq7 hM.lt
      replace m0 := (hM.cell 0).trans (show _ = some (.string (recT t).dur) from rfl)
      replace m1 := (hM.cell 1).trans (show _ = some (.string (recT t).pen) from rfl)
      replace m2 := (hM.cell 2).trans (show _ = some (.int .i64 (recT t).cnt) from rfl)
      have yhY := hY.lt
      have yhM := hM.lt
      go_wp2_with fail
      refine (iS _ (HT.below (by repeat (first | exact Below.refl _ _ | refine Below.alloc ?_ (by first | exact Nat.le_refl _ | (simp <;> omega)) _ | refine Below.setCell ?_ (by first | exact Nat.le_refl _ | (simp <;> omega)) _)))).mono ?_
      rintro e w8 ⟨rfl, hb8⟩
      have hq8 : Below w7.heap.size w7 w8 := bth (by repeat (first | exact Below.refl _ _ | refine Below.alloc ?_ (by first | exact Nat.le_refl _ | (simp <;> omega)) _ | refine Below.setCell ?_ (by first | exact Nat.le_refl _ | (simp <;> omega)) _)) hb8
      replace HB := bth HB hq8
      replace HT := HT.below hq8
      replace hR := hR.below hq8
      replace hY := hY.below hq8 hY.lt
      replace y0 := (hY.cell 0).trans (show _ = some (.string y.cmd) from rfl)
      replace y1 := (hY.cell 1).trans (show _ = some (.string y.rep) from rfl)
      replace hM := hM.below hq8 hM.lt
      replace m0 := (hM.cell 0).trans (show _ = some (.string (recT t).dur) from rfl)
      replace m1 := (hM.cell 1).trans (show _ = some (.string (recT t).pen) from rfl)
      replace m2 := (hM.cell 2).trans (show _ = some (.int .i64 (recT t).cnt) from rfl)
      have yhY := hY.lt
      have yhM := hM.lt
      go_wp2
      go_ret
      exact ⟨rfl, (by repeat (first | exact HB | exact Below.refl _ _ | refine Below.alloc ?_ (by first | exact Nat.le_refl _ | (have hsz := HB.size; simp; omega) | (simp <;> omega)) _ | refine Below.setCell ?_ (by first | exact Nat.le_refl _ | (simp <;> omega)) _))⟩
  · rw [h3, h4] at iS
    rw [h3] at iV
    clear h3 h4
    rcases hcase with ⟨rfl, hs⟩ | ⟨rfl, rfl, h1, h2⟩ | ⟨rfl, h1, h2⟩
    · subst hs
      have yhY := hY.lt
      have yhM := hM.lt
      go_wp2_with fail
      refine (iX _ (HT.below (by repeat (first | exact Below.refl _ _ | refine Below.alloc ?_ (by first | exact Nat.le_refl _ | (simp <;> omega)) _ | refine Below.setCell ?_ (by first | exact Nat.le_refl _ | (simp <;> omega)) _)))).mono ?_
      rintro e w7 ⟨rfl, hb7⟩
      have hq7 : Below w6.heap.size w6 w7 := bth (by repeat (first | exact Below.refl _ _ | refine Below.alloc ?_ (by first | exact Nat.le_refl _ | (simp <;> omega)) _ | refine Below.setCell ?_ (by first | exact Nat.le_refl _ | (simp <;> omega)) _)) hb7
      replace HB := bth HB hq7
      replace HT := HT.below hq7
      replace hR := hR.below hq7
      replace hY := hY.below hq7 hY.lt
      replace y0 := (hY.cell 0).trans (show _ = some (.string y.cmd) from rfl)
      replace y1 := (hY.cell 1).trans (show _ = some (.string y.rep) from rfl)
      replace hM := hM.below hq7 hM.lt
      replace m0 := (hM.cell 0).trans (show _ = some (.string (recT t).dur) from rfl)
      replace m1 := (hM.cell 1).trans (show _ = some (.string (recT t).pen) from rfl)
      replace m2 := (hM.cell 2).trans (show _ = some (.int .i64 (recT t).cnt) from rfl)
      have yhY := hY.lt
      have yhM := hM.lt
      go_wp2_with fail
      refine (iS _ (HT.below (by repeat (first | exact Below.refl _ _ | refine Below.alloc ?_ (by first | exact Nat.le_refl _ | (simp <;> omega)) _ | refine Below.setCell ?_ (by first | exact Nat.le_refl _ | (simp <;> omega)) _)))).mono ?_
      rintro e w8 ⟨rfl, hb8⟩
      have hq8 : Below w7.heap.size w7 w8 := bth (by repeat (first | exact Below.refl _ _ | refine Below.alloc ?_ (by first | exact Nat.le_refl _ | (simp <;> omega)) _ | refine Below.setCell ?_ (by first | exact Nat.le_refl _ | (simp <;> omega)) _)) hb8
      replace HB := bth HB hq8
      replace HT := HT.below hq8
      replace hR := hR.below hq8
      replace hY := hY.below hq8 hY.lt
      replace y0 := (hY.cell 0).trans (show _ = some (.string y.cmd) from rfl)
      replace y1 := (hY.cell 1).trans (show _ = some (.string y.rep) from rfl)
      replace hM := hM.below hq8 hM.lt
      replace m0 := (hM.cell 0).trans (show _ = some (.string (recT t).dur) from rfl)
      replace m1 := (hM.cell 1).trans (show _ = some (.string (recT t).pen) from rfl)
      replace m2 := (hM.cell 2).trans (show _ = some (.int .i64 (recT t).cnt) from rfl)
      have yhY := hY.lt
      have yhM := hM.lt
      go_wp2_with fail
      refine (iV _ (HT.below (by repeat (first | exact Below.refl _ _ | refine Below.alloc ?_ (by first | exact Nat.le_refl _ | (simp <;> omega)) _ | refine Below.setCell ?_ (by first | exact Nat.le_refl _ | (simp <;> omega)) _)))).mono ?_
      rintro e w9 ⟨rfl, hb9⟩
      have hq9 : Below w8.heap.size w8 w9 := bth (by repeat (first | exact Below.refl _ _ | refine Below.alloc ?_ (by first | exact Nat.le_refl _ | (simp <;> omega)) _ | refine Below.setCell ?_ (by first | exact Nat.le_refl _ | (simp <;> omega)) _)) hb9
      replace HB := bth HB hq9
      replace HT := HT.below hq9
      replace hR := hR.below hq9
      replace hY := hY.below hq9 hY.lt
      replace y0 := (hY.cell 0).trans (show _ = some (.string y.cmd) from rfl)
      replace y1 := (hY.cell 1).trans (show _ = some (.string y.rep) from rfl)
      replace hM := hM.below hq9 hM.lt
      replace m0 := (hM.cell 0).trans (show _ = some (.string (recT t).dur) from rfl)
      replace m1 := (hM.cell 1).trans (show _ = some (.string (recT t).pen) from rfl)
      replace m2 := (hM.cell 2).trans (show _ = some (.int .i64 (recT t).cnt) from rfl)
      have yhY := hY.lt
      have yhM := hM.lt
      go_wp2
      go_ret
      exact ⟨rfl, (by repeat (first | exact HB | exact Below.refl _ _ | refine Below.alloc ?_ (by first | exact Nat.le_refl _ | (have hsz := HB.size; simp; omega) | (simp <;> omega)) _ | refine Below.setCell ?_ (by first | exact Nat.le_refl _ | (simp <;> omega)) _))⟩
    · rw [h2] at iX
      have yhY := hY.lt
      have yhM := hM.lt
      go_wp2_with fail
      refine (iX _ (HT.below (by repeat (first | exact Below.refl _ _ | refine Below.alloc ?_ (by first | exact Nat.le_refl _ | (simp <;> omega)) _ | refine Below.setCell ?_ (by first | exact Nat.le_refl _ | (simp <;> omega)) _)))).mono ?_
      rintro e w7 ⟨rfl, hb7⟩
      have hq7 : Below w6.heap.size w6 w7 := bth (by repeat (first | exact Below.refl _ _ | refine Below.alloc ?_ (by first | exact Nat.le_refl _ | (simp <;> omega)) _ | refine Below.setCell ?_ (by first | exact Nat.le_refl _ | (simp <;> omega)) _)) hb7
      replace HB := bth HB hq7
      replace HT := HT.below hq7
      replace hR := hR.below hq7
      replace hY := hY.below hq7 hY.lt
      replace y0 := (hY.cell 0).trans (show _ = some (.string y.cmd) from rfl)
      replace y1 := (hY.cell 1).trans (show _ = some (.string y.rep) from rfl)
      replace hM := hM.below hq7 hM.lt
      replace m0 := (hM.cell 0).trans (show _ = some (.string (recT t).dur) from rfl)
      replace m1 := (hM.cell 1).trans (show _ = some (.string (recT t).pen) from rfl)
      replace m2 := (hM.cell 2).trans (show _ = some (.int .i64 (recT t).cnt) from rfl)
      have yhY := hY.lt
      have yhM := hM.lt
      go_wp2_with fail
      refine (iS _ (HT.below (by repeat (first | exact Below.refl _ _ | refine Below.alloc ?_ (by first | exact Nat.le_refl _ | (simp <;> omega)) _ | refine Below.setCell ?_ (by first | exact Nat.le_refl _ | (simp <;> omega)) _)))).mono ?_
      rintro e w8 ⟨rfl, hb8⟩
      have hq8 : Below w7.heap.size w7 w8 := bth (by repeat (first | exact Below.refl _ _ | refine Below.alloc ?_ (by first | exact Nat.le_refl _ | (simp <;> omega)) _ | refine Below.setCell ?_ (by first | exact Nat.le_refl _ | (simp <;> omega)) _)) hb8
      replace HB := bth HB hq8
      replace HT := HT.below hq8
      replace hR := hR.below hq8
      replace hY := hY.below hq8 hY.lt
      replace y0 := (hY.cell 0).trans (show _ = some (.string y.cmd) from rfl)
      replace y1 := (hY.cell 1).trans (show _ = some (.string y.rep) from rfl)
      replace hM := hM.below hq8 hM.lt
      replace m0 := (hM.cell 0).trans (show _ = some (.string (recT t).dur) from rfl)
      replace m1 := (hM.cell 1).trans (show _ = some (.string (recT t).pen) from rfl)
      replace m2 := (hM.cell 2).trans (show _ = some (.int .i64 (recT t).cnt) from rfl)
      have yhY := hY.lt
      have yhM := hM.lt
      go_wp2_with fail
      refine (iV _ (HT.below (by repeat (first | exact Below.refl _ _ | refine Below.alloc ?_ (by first | exact Nat.le_refl _ | (simp <;> omega)) _ | refine Below.setCell ?_ (by first | exact Nat.le_refl _ | (simp <;> omega)) _)))).mono ?_
      rintro e w9 ⟨rfl, hb9⟩
      have hq9 : Below w8.heap.size w8 w9 := bth (by repeat (first | exact Below.refl _ _ | refine Below.alloc ?_ (by first | exact Nat.le_refl _ | (simp <;> omega)) _ | refine Below.setCell ?_ (by first | exact Nat.le_refl _ | (simp <;> omega)) _)) hb9
      replace HB := bth HB hq9
      replace HT := HT.below hq9
      replace hR := hR.below hq9
      replace hY := hY.below hq9 hY.lt
      replace y0 := (hY.cell 0).trans (show _ = some (.string y.cmd) from rfl)
      replace y1 := (hY.cell 1).trans (show _ = some (.string y.rep) from rfl)
      replace hM := hM.below hq9 hM.lt
      replace m0 := (hM.cell 0).trans (show _ = some (.string (recT t).dur) from rfl)
      replace m1 := (hM.cell 1).trans (show _ = some (.string (recT t).pen) from rfl)
      replace m2 := (hM.cell 2).trans (show _ = some (.int .i64 (recT t).cnt) from rfl)
      have yhY := hY.lt
      have yhM := hM.lt
      go_wp2
      go_ret
      exact ⟨rfl, (by repeat (first | exact HB | exact Below.refl _ _ | refine Below.alloc ?_ (by first | exact Nat.le_refl _ | (have hsz := HB.size; simp; omega) | (simp <;> omega)) _ | refine Below.setCell ?_ (by first | exact Nat.le_refl _ | (simp <;> omega)) _))⟩
    · have yhY := hY.lt
      have yhM := hM.lt
      go_wp2_with fail
      refine (iX _ (HT.below (by repeat (first | exact Below.refl _ _ | refine Below.alloc ?_ (by first | exact Nat.le_refl _ | (simp <;> omega)) _ | refine Below.setCell ?_ (by first | exact Nat.le_refl _ | (simp <;> omega)) _)))).mono ?_
      rintro e w7 ⟨rfl, hb7⟩
      have hq7 : Below w6.heap.size w6 w7 := bth (by repeat (first | exact Below.refl _ _ | refine Below.alloc ?_ (by first | exact Nat.le_refl _ | (simp <;> omega)) _ | refine Below.setCell ?_ (by first | exact Nat.le_refl _ | (simp <;> omega)) _)) hb7
      replace HB := bth HB hq7
      replace HT := HT.below hq7
      replace hR := hR.below hq7
      replace hY := hY.below hq7 hY.lt
      replace y0 := (hY.cell 0).trans (show _ = some (.string y.cmd) from rfl)
      replace y1 := (hY.cell 1).trans (show _ = some (.string y.rep) from rfl)
      replace hM := hM.below hq7 hM.lt
      replace m0 := (hM.cell 0).trans (show _ = some (.string (recT t).dur) from rfl)
      replace m1 := (hM.cell 1).trans (show _ = some (.string (recT t).pen) from rfl)
      replace m2 := (hM.cell 2).trans (show _ = some (.int .i64 (recT t).cnt) from rfl)
      have yhY := hY.lt
      have yhM := hM.lt
      go_wp2_with fail
      refine (iS _ (HT.below (by repeat (first | exact Below.refl _ _ | refine Below.alloc ?_ (by first | exact Nat.le_refl _ | (simp <;> omega)) _ | refine Below.setCell ?_ (by first | exact Nat.le_refl _ | (simp <;> omega)) _)))).mono ?_
      rintro e w8 ⟨rfl, hb8⟩
      have hq8 : Below w7.heap.size w7 w8 := bth (by repeat (first | exact Below.refl _ _ | refine Below.alloc ?_ (by first | exact Nat.le_refl _ | (simp <;> omega)) _ | refine Below.setCell ?_ (by first | exact Nat.le_refl _ | (simp <;> omega)) _)) hb8
      replace HB := bth HB hq8
      replace HT := HT.below hq8
      replace hR := hR.below hq8
      replace hY := hY.below hq8 hY.lt
      replace y0 := (hY.cell 0).trans (show _ = some (.string y.cmd) from rfl)
      replace y1 := (hY.cell 1).trans (show _ = some (.string y.rep) from rfl)
      replace hM := hM.below hq8 hM.lt
      replace m0 := (hM.cell 0).trans (show _ = some (.string (recT t).dur) from rfl)
      replace m1 := (hM.cell 1).trans (show _ = some (.string (recT t).pen) from rfl)
      replace m2 := (hM.cell 2).trans (show _ = some (.int .i64 (recT t).cnt) from rfl)
      have yhY := hY.lt
      have yhM := hM.lt
      go_wp2_with fail
      refine (iV _ (HT.below (by repeat (first | exact Below.refl _ _ | refine Below.alloc ?_ (by first | exact Nat.le_refl _ | (simp <;> omega)) _ | refine Below.setCell ?_ (by first | exact Nat.le_refl _ | (simp <;> omega)) _)))).mono ?_
      rintro e w9 ⟨rfl, hb9⟩
      have hq9 : Below w8.heap.size w8 w9 := bth (by repeat (first | exact Below.refl _ _ | refine Below.alloc ?_ (by first | exact Nat.le_refl _ | (simp <;> omega)) _ | refine Below.setCell ?_ (by first | exact Nat.le_refl _ | (simp <;> omega)) _)) hb9
      replace HB := bth HB hq9
      replace HT := HT.below hq9
      replace hR := hR.below hq9
      replace hY := hY.below hq9 hY.lt
      replace y0 := (hY.cell 0).trans (show _ = some (.string y.cmd) from rfl)
      replace y1 := (hY.cell 1).trans (show _ = some (.string y.rep) from rfl)
      replace hM := hM.below hq9 hM.lt
      replace m0 := (hM.cell 0).trans (show _ = some (.string (recT t).dur) from rfl)
      replace m1 := (hM.cell 1).trans (show _ = some (.string (recT t).pen) from rfl)
      replace m2 := (hM.cell 2).trans (show _ = some (.int .i64 (recT t).cnt) from rfl)
      have yhY := hY.lt
      have yhM := hM.lt
      go_wp2
      go_ret
      exact ⟨rfl, (by repeat (first | exact HB | exact Below.refl _ _ | refine Below.alloc ?_ (by first | exact Nat.le_refl _ | (have hsz := HB.size; simp; omega) | (simp <;> omega)) _ | refine Below.setCell ?_ (by first | exact Nat.le_refl _ | (simp <;> omega)) _))⟩
end Go.Proofs.YtpejnfhenpdobaaDoor
