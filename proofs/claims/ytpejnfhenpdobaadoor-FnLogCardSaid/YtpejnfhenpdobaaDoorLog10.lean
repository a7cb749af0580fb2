/- The log: RecoverLog and LogRecords, by both. -/
import Derived.Test.YtpejnfhenpdobaaDoorLog9
namespace Go.Proofs.YtpejnfhenpdobaaDoor
open Go.RowKit Go.G9
def recL (l : L8) : L8 := if l.length ≤ 30000 then l.take (endL l) else []
def recN (l : L8) : Nat := if l.length ≤ 30000 then (recsL l).length else 0
def recE (l : L8) : Nat := if l.length ≤ 30000 then endL l else 0
def recV (l : L8) : Value := .tuple #[.agg #[.string (bs (recL l)), .string (bs []), .int .i64 (recN l : Nat)], .int .i64 (recE l : Nat), .bool (decide (l.length ≤ 30000))]
theorem recV_no {l : L8} (h : ¬ l.length ≤ 30000) : recV l = .tuple #[.agg #[.string ⟨#[]⟩, .string ⟨#[]⟩, .int .i64 0], .int .i64 0, .bool false] := by
  unfold recV recL recN recE
  rw [if_neg h, if_neg h, if_neg h, decide_eq_false h]; rfl
theorem recV_yes {l : L8} (h : l.length ≤ 30000) : recV l = .tuple #[.agg #[.string ((bs l).extract 0 (endL l)), .string ⟨#[]⟩, .int .i64 ((recsL l).length : Nat)], .int .i64 (endL l : Nat), .bool true] := by
  unfold recV recL recN recE
  rw [if_pos h, if_pos h, if_pos h, decide_eq_true h, bs_extract]
  rfl
set_option maxHeartbeats 2000000 in
set_option maxRecDepth 100000 in
theorem iRecoverLog_is (l : L8) (hl : l.length ≤ 1048576) (w : World) (hT : Tab w) : Calls Tryd.prog 18 #[.string (bs l)] w fun e w' => e = .returned (recV l) ∧ Below w.heap.size w w' := by
  have hsz := bs_size l
  have s1 : (bs l).size ≤ 1048576 := by omega
  by_cases ht : l.length ≤ 30000
  · have s2 : (bs l).size ≤ 30000 := by omega
    have hv := recV_yes ht
    have he := (endL_le l).2
    rw [← hsz] at he
    have hlast := endsL_last l
    have l1 := recsL_len l
    have l2 := endsL_len l
    have l3 := rdAll_len l
    rw [← l1] at hlast
    have l4 : (endsL l).length = (recsL l).length + 1 := by omega
    have l5 : (recsL l).length ≤ 60 := by omega
    have hrd : ∀ W, Tab W → Calls Tryd.prog 48 #[.string (bs l)] W fun e w' => ∃ A c A' c', e = .returned (.tuple #[.slice A (recsL l).length c, .slice A' (endsL l).length c']) ∧
      OwnV W.heap.size 27 2 LRec.cells w' (.slice A (recsL l).length c) (recsL l) ∧ OwnV W.heap.size 3 1 intC w' (.slice A' (endsL l).length c') (endsL l) ∧ Below W.heap.size W w' := fun W hW => readRecords_is l hl W hW
    generalize recsL l = R at *
    generalize endsL l = E at *
    generalize endL l = N at *
    have HRD := Lib.hid hrd; have HV := Lib.hid hv; have HL := Lib.hid hlast; clear hrd hv hlast hsz l1 l2 l3
    have l6 : R.length < E.length := by omega
    have l7 : E.length ≤ 61 := by omega
    have HT := Lib.hid (hT.below (bl1 w (.cells #[.string ⟨#[]⟩, .string ⟨#[]⟩, .int .i64 0] 31)))
    go_enter Tryd.func18, Tryd.ntmps18
    go_wp2_with fail
    refine (HRD.out _ HT.out).mono ?_
    rintro e w1 ⟨A1, c1, A2, c2, rfl, hO, hE, hb1⟩
    have hq1 : Below w.heap.size w w1 := bth (by repeat (first | exact Below.refl _ _ | refine Below.alloc ?_ (by first | exact Nat.le_refl _ | (simp <;> omega)) _ | refine Below.setCell ?_ (by first | exact Nat.le_refl _ | (simp <;> omega)) _)) hb1
    have HB : Below w.heap.size w w1 := hq1
    have hZ : Blk w1 (w.heap.size) 31 #[.string ⟨#[]⟩, .string ⟨#[]⟩, .int .i64 0] := Blk.below (by repeat (first | exact Blk.new _ _ _ | exact Blk.new2 _ _ _ _ | exact Blk.new3 _ _ _ _ _ | exact Blk.new4 _ _ _ _ _ _ | refine Blk.alloc ?_ _)) hb1 (by simp <;> omega)
    have z0 := (hZ.cell 0).trans (show _ = some (.string ⟨#[]⟩) from rfl)
    have z1 := (hZ.cell 1).trans (show _ = some (.string ⟨#[]⟩) from rfl)
    have z2 := (hZ.cell 2).trans (show _ = some (.int .i64 0) from rfl)
    obtain ⟨g2, off2, rfl, hlt2, hcx⟩ := hE.rds (hf := intC_len) (by omega)
    have f0 := hcx _ _ HL.out 0 _ rfl
    simp only [Nat.mul_one, Nat.add_zero] at f0
    have yhZ0 := hZ.frozen 0
    have yhZ1 := hZ.frozen 1
    have yhZ2 := hZ.frozen 2
    have hF := (((hZ.set_ 0 (.string ((bs l).extract 0 N))).set_ 1 (.string ⟨#[]⟩)).set_ 2 (.int .i64 (R.length : Nat)))
    have r0 := (hF.cell 0).trans (show _ = some (.string ((bs l).extract 0 N)) from rfl)
    have r1 := (hF.cell 1).trans (show _ = some (.string ⟨#[]⟩) from rfl)
    have r2 := (hF.cell 2).trans (show _ = some (.int .i64 (R.length : Nat)) from rfl)
    have hEW := (((HB.setCell (by show w.heap.size ≤ w.heap.size; omega) (.string ((bs l).extract 0 N)) (p := ⟨w.heap.size, 0, none⟩)).setCell (by show w.heap.size ≤ w.heap.size; omega) (.string ⟨#[]⟩) (p := ⟨w.heap.size, 1, none⟩)).setCell (by show w.heap.size ≤ w.heap.size; omega) (.int .i64 (R.length : Nat)) (p := ⟨w.heap.size, 2, none⟩))
    have yhZ := hZ.lt
    go_wp2
    refine bodyPost_ret (v := .tuple #[.agg #[.string ((bs l).extract 0 N), .string ⟨#[]⟩, .int .i64 (R.length : Nat)], .int .i64 (N : Nat), .bool true]) (by simp [results, Tryd.results18, go_sem, r0, r1, r2]) rfl ?_
    exact ⟨by rw [HV.out], (by repeat (first | exact HB | exact Below.refl _ _ | refine Below.alloc ?_ (by first | exact Nat.le_refl _ | (have hsz := HB.size; simp; omega) | (simp <;> omega)) _ | refine Below.setCell ?_ (by first | exact Nat.le_refl _ | (simp <;> omega)) _))⟩
  · have s2 : 30000 < (bs l).size := by omega
    have hv := recV_no ht
    have HV := Lib.hid hv; clear hv hsz ht
    go_enter Tryd.func18, Tryd.ntmps18
    go_wp2
    refine bodyPost_ret (v := .tuple #[.agg #[.string ⟨#[]⟩, .string ⟨#[]⟩, .int .i64 0], .int .i64 0, .bool false]) (by simp [results, Tryd.results18, go_sem]) rfl ?_
    exact ⟨by rw [HV.out], bl1 _ _⟩
set_option maxHeartbeats 2000000 in
set_option maxRecDepth 100000 in
theorem sRecoverLog_is (l : L8) (hl : l.length ≤ 1048576) (w : World) : Calls Tryd.prog 17 #[.string (bs l)] w fun e w' => e = .returned (recV l) ∧ Below w.heap.size w w' := by
  have hsz := bs_size l
  have s1 : (bs l).size ≤ 1048576 := by omega
  by_cases ht : l.length ≤ 30000
  · have s2 : (bs l).size ≤ 30000 := by omega
    have hv := recV_yes ht
    have he := (endL_le l).2
    rw [← hsz] at he
    have l1 := recsL_len l
    have l3 := rdAll_len l
    have l5 : (recsL l).length ≤ 60 := by omega
    have hrd : ∀ W, Calls Tryd.prog 47 #[.string (bs l)] W fun e w' => ∃ A c, e = .returned (.tuple #[.slice A (recsL l).length c, .int .i64 (endL l : Nat)]) ∧
      OwnV W.heap.size 27 2 LRec.cells w' (.slice A (recsL l).length c) (recsL l) ∧ Below W.heap.size W w' := fun W => l27Open_is l hl W
    generalize recsL l = R at *
    generalize endL l = N at *
    have HRD := Lib.hid hrd; have HV := Lib.hid hv; clear hrd hv hsz l1 l3
    go_enter Tryd.func17, Tryd.ntmps17
    go_wp2_with fail
    refine (HRD.out _).mono ?_
    rintro e w1 ⟨A1, c1, rfl, hO, hb1⟩
    have hq1 : Below w.heap.size w w1 := bth (by repeat (first | exact Below.refl _ _ | refine Below.alloc ?_ (by first | exact Nat.le_refl _ | (simp <;> omega)) _ | refine Below.setCell ?_ (by first | exact Nat.le_refl _ | (simp <;> omega)) _)) hb1
    have HB : Below w.heap.size w w1 := hq1
    have hZ : Blk w1 (w.heap.size) 31 #[.string ⟨#[]⟩, .string ⟨#[]⟩, .int .i64 0] := Blk.below (by repeat (first | exact Blk.new _ _ _ | exact Blk.new2 _ _ _ _ | exact Blk.new3 _ _ _ _ _ | exact Blk.new4 _ _ _ _ _ _ | refine Blk.alloc ?_ _)) hb1 (by simp <;> omega)
    have z0 := (hZ.cell 0).trans (show _ = some (.string ⟨#[]⟩) from rfl)
    have z1 := (hZ.cell 1).trans (show _ = some (.string ⟨#[]⟩) from rfl)
    have z2 := (hZ.cell 2).trans (show _ = some (.int .i64 0) from rfl)
    have yhZ0 := hZ.frozen 0
    have yhZ1 := hZ.frozen 1
    have yhZ2 := hZ.frozen 2
    have hF := (((hZ.set_ 0 (.string ((bs l).extract 0 N))).set_ 1 (.string ⟨#[]⟩)).set_ 2 (.int .i64 (R.length : Nat)))
    have r0 := (hF.cell 0).trans (show _ = some (.string ((bs l).extract 0 N)) from rfl)
    have r1 := (hF.cell 1).trans (show _ = some (.string ⟨#[]⟩) from rfl)
    have r2 := (hF.cell 2).trans (show _ = some (.int .i64 (R.length : Nat)) from rfl)
    have hEW := (((HB.setCell (by show w.heap.size ≤ w.heap.size; omega) (.string ((bs l).extract 0 N)) (p := ⟨w.heap.size, 0, none⟩)).setCell (by show w.heap.size ≤ w.heap.size; omega) (.string ⟨#[]⟩) (p := ⟨w.heap.size, 1, none⟩)).setCell (by show w.heap.size ≤ w.heap.size; omega) (.int .i64 (R.length : Nat)) (p := ⟨w.heap.size, 2, none⟩))
    have yhZ := hZ.lt
    go_wp2
    refine bodyPost_ret (v := .tuple #[.agg #[.string ((bs l).extract 0 N), .string ⟨#[]⟩, .int .i64 (R.length : Nat)], .int .i64 (N : Nat), .bool true]) (by simp [results, Tryd.results17, go_sem, r0, r1, r2]) rfl ?_
    exact ⟨by rw [HV.out], (by repeat (first | exact HB | exact Below.refl _ _ | refine Below.alloc ?_ (by first | exact Nat.le_refl _ | (have hsz := HB.size; simp; omega) | (simp <;> omega)) _ | refine Below.setCell ?_ (by first | exact Nat.le_refl _ | (simp <;> omega)) _))⟩
  · have s2 : 30000 < (bs l).size := by omega
    have hv := recV_no ht
    have HV := Lib.hid hv; clear hv hsz ht
    go_enter Tryd.func17, Tryd.ntmps17
    go_wp2
    refine bodyPost_ret (v := .tuple #[.agg #[.string ⟨#[]⟩, .string ⟨#[]⟩, .int .i64 0], .int .i64 0, .bool false]) (by simp [results, Tryd.results17, go_sem]) rfl ?_
    exact ⟨by rw [HV.out], bl1 _ _⟩
def lrL (d p : L8) (n : Int) : List LRec := if logS d p n then recsL (d ++ p) else []
theorem lrL_len (d p : L8) (n : Int) : (lrL d p n).length ≤ 60 := by
  unfold lrL
  split
  · rw [recsL_len]; exact rdAll_len _
  · simp
set_option maxHeartbeats 2000000 in
set_option maxRecDepth 100000 in
theorem iLogRecords_is (d p : L8) (n : Int) (ht : d.length + p.length ≤ 1048576) (w : World) (hT : Tab w) : Calls Tryd.prog 31 #[.agg #[.string (bs d), .string (bs p), .int .i64 n]] w fun e w' => ∃ A c, e = .returned (.tuple #[.slice A (lrL d p n).length c, .bool (logS d p n)]) ∧ OwnV w.heap.size 27 2 LRec.cells w' (.slice A (lrL d p n).length c) (lrL d p n) ∧ Below w.heap.size w w' := by
  have s3 : (bs d).size + (bs p).size ≤ 1048576 := by rw [bs_size, bs_size]; exact ht
  have HT := Lib.hid (hT.below (bl1 w (.cells #[.string (bs d), .string (bs p), .int .i64 n] 31)))
  cases hv : logS d p n
  · have hs : lrL d p n = [] := by simp [lrL, hv]
    have HS := Lib.hid hs; have HV := Lib.hid hv; clear hs hv
    go_enter Tryd.func31, Tryd.ntmps31
    go_wp2_with fail
    refine (isValidLog_is d p n ht _ HV.out _ HT.out).mono ?_
    rintro e w1 ⟨rfl, hb1⟩
    have hq1 : Below w.heap.size w w1 := bth (by repeat (first | exact Below.refl _ _ | refine Below.alloc ?_ (by first | exact Nat.le_refl _ | (simp <;> omega)) _ | refine Below.setCell ?_ (by first | exact Nat.le_refl _ | (simp <;> omega)) _)) hb1
    have HB : Below w.heap.size w w1 := hq1
    go_wp2
    go_ret2
    rw [HS.out]
    exact ⟨none, 0, rfl, OwnV.nil, (bth HB (by repeat (first | exact Below.refl _ _ | refine Below.alloc ?_ (by first | exact Nat.le_refl _ | (simp <;> omega)) _ | refine Below.setCell ?_ (by first | exact Nat.le_refl _ | (simp <;> omega)) _)))⟩
  · have hs : lrL d p n = recsL (d ++ p) := by simp [lrL, hv]
    have hrd : ∀ W, Tab W → Calls Tryd.prog 48 #[.string (bs d ++ bs p)] W fun e w' => ∃ A c A' c', e = .returned (.tuple #[.slice A (recsL (d ++ p)).length c, .slice A' (endsL (d ++ p)).length c']) ∧
      OwnV W.heap.size 27 2 LRec.cells w' (.slice A (recsL (d ++ p)).length c) (recsL (d ++ p)) ∧ OwnV W.heap.size 3 1 intC w' (.slice A' (endsL (d ++ p)).length c') (endsL (d ++ p)) ∧ Below W.heap.size W w' := fun W hW => by
      rw [bs_app]; exact readRecords_is (d ++ p) (by simp; omega) W hW
    have HRD := Lib.hid hrd; have HS := Lib.hid hs; have HV := Lib.hid hv; clear hs hv hrd
    go_enter Tryd.func31, Tryd.ntmps31
    go_wp2_with fail
    refine (isValidLog_is d p n ht _ HV.out _ HT.out).mono ?_
    rintro e w1 ⟨rfl, hb1⟩
    have hq1 : Below w.heap.size w w1 := bth (by repeat (first | exact Below.refl _ _ | refine Below.alloc ?_ (by first | exact Nat.le_refl _ | (simp <;> omega)) _ | refine Below.setCell ?_ (by first | exact Nat.le_refl _ | (simp <;> omega)) _)) hb1
    have HB : Below w.heap.size w w1 := hq1
    have hL : Blk w1 (w.heap.size) 31 #[.string (bs d), .string (bs p), .int .i64 n] := Blk.below (by repeat (first | exact Blk.new _ _ _ | exact Blk.new2 _ _ _ _ | exact Blk.new3 _ _ _ _ _ | exact Blk.new4 _ _ _ _ _ _ | refine Blk.alloc ?_ _)) hb1 (by simp <;> omega)
    have q0 := (hL.cell 0).trans (show _ = some (.string (bs d)) from rfl)
    have q1 := (hL.cell 1).trans (show _ = some (.string (bs p)) from rfl)
    have q2 := (hL.cell 2).trans (show _ = some (.int .i64 n) from rfl)
    go_wp2_with fail
    refine (HRD.out _ (hT.below HB)).mono ?_
    rintro e w2 ⟨A1, c1, A2, c2, rfl, hO, hE, hb2⟩
    have hq2 : Below w1.heap.size w1 w2 := bth (by repeat (first | exact Below.refl _ _ | refine Below.alloc ?_ (by first | exact Nat.le_refl _ | (simp <;> omega)) _ | refine Below.setCell ?_ (by first | exact Nat.le_refl _ | (simp <;> omega)) _)) hb2
    replace HB := bth HB hq2
    replace hL := hL.below hq2 hL.lt
    replace q0 := (hL.cell 0).trans (show _ = some (.string (bs d)) from rfl)
    replace q1 := (hL.cell 1).trans (show _ = some (.string (bs p)) from rfl)
    replace q2 := (hL.cell 2).trans (show _ = some (.int .i64 n) from rfl)
    go_wp2
    go_ret2
    rw [HS.out]
    exact ⟨A1, c1, rfl, hO.base (by have h1 := hb1.size; simp at h1; omega), (bth HB (by repeat (first | exact Below.refl _ _ | refine Below.alloc ?_ (by first | exact Nat.le_refl _ | (simp <;> omega)) _ | refine Below.setCell ?_ (by first | exact Nat.le_refl _ | (simp <;> omega)) _)))⟩
set_option maxHeartbeats 2000000 in
set_option maxRecDepth 100000 in
theorem sLogRecords_is (d p : L8) (n : Int) (ht : d.length + p.length ≤ 1048576) (w : World) : Calls Tryd.prog 30 #[.agg #[.string (bs d), .string (bs p), .int .i64 n]] w fun e w' => ∃ A c, e = .returned (.tuple #[.slice A (lrL d p n).length c, .bool (logS d p n)]) ∧ OwnV w.heap.size 27 2 LRec.cells w' (.slice A (lrL d p n).length c) (lrL d p n) ∧ Below w.heap.size w w' := by
  have s3 : (bs d).size + (bs p).size ≤ 1048576 := by rw [bs_size, bs_size]; exact ht
  have hd : d.length ≤ 1048576 := by omega
  have hp : p.length ≤ 1048576 := by omega
  cases hv : logS d p n
  · have hs : lrL d p n = [] := by simp [lrL, hv]
    have HS := Lib.hid hs; have HV := Lib.hid hv; clear hs hv
    go_enter Tryd.func30, Tryd.ntmps30
    go_wp2_with fail
    refine (l27Log_is d p n hd hp _ HV.out _).mono ?_
    rintro e w1 ⟨rfl, hb1⟩
    have hq1 : Below w.heap.size w w1 := bth (by repeat (first | exact Below.refl _ _ | refine Below.alloc ?_ (by first | exact Nat.le_refl _ | (simp <;> omega)) _ | refine Below.setCell ?_ (by first | exact Nat.le_refl _ | (simp <;> omega)) _)) hb1
    have HB : Below w.heap.size w w1 := hq1
    go_wp2
    go_ret2
    rw [HS.out]
    exact ⟨_, 0, rfl, OwnV.made _ (by have h1 := hb1.size; simp at h1; omega) _, (bth HB (by repeat (first | exact Below.refl _ _ | refine Below.alloc ?_ (by first | exact Nat.le_refl _ | (simp <;> omega)) _ | refine Below.setCell ?_ (by first | exact Nat.le_refl _ | (simp <;> omega)) _)))⟩
  · have hs : lrL d p n = recsL (d ++ p) := by simp [lrL, hv]
    have hrd : ∀ W, Calls Tryd.prog 47 #[.string (bs d ++ bs p)] W fun e w' => ∃ A c, e = .returned (.tuple #[.slice A (recsL (d ++ p)).length c, .int .i64 (endL (d ++ p) : Nat)]) ∧
      OwnV W.heap.size 27 2 LRec.cells w' (.slice A (recsL (d ++ p)).length c) (recsL (d ++ p)) ∧ Below W.heap.size W w' := fun W => by
      rw [bs_app]; exact l27Open_is (d ++ p) (by simp; omega) W
    have HRD := Lib.hid hrd; have HS := Lib.hid hs; have HV := Lib.hid hv; clear hs hv hrd
    go_enter Tryd.func30, Tryd.ntmps30
    go_wp2_with fail
    refine (l27Log_is d p n hd hp _ HV.out _).mono ?_
    rintro e w1 ⟨rfl, hb1⟩
    have hq1 : Below w.heap.size w w1 := bth (by repeat (first | exact Below.refl _ _ | refine Below.alloc ?_ (by first | exact Nat.le_refl _ | (simp <;> omega)) _ | refine Below.setCell ?_ (by first | exact Nat.le_refl _ | (simp <;> omega)) _)) hb1
    have HB : Below w.heap.size w w1 := hq1
    have hL : Blk w1 (w.heap.size) 31 #[.string (bs d), .string (bs p), .int .i64 n] := Blk.below (by repeat (first | exact Blk.new _ _ _ | exact Blk.new2 _ _ _ _ | exact Blk.new3 _ _ _ _ _ | exact Blk.new4 _ _ _ _ _ _ | refine Blk.alloc ?_ _)) hb1 (by simp <;> omega)
    have q0 := (hL.cell 0).trans (show _ = some (.string (bs d)) from rfl)
    have q1 := (hL.cell 1).trans (show _ = some (.string (bs p)) from rfl)
    have q2 := (hL.cell 2).trans (show _ = some (.int .i64 n) from rfl)
    go_wp2_with fail
    refine (HRD.out _).mono ?_
    rintro e w2 ⟨A1, c1, rfl, hO, hb2⟩
    have hq2 : Below w1.heap.size w1 w2 := bth (by repeat (first | exact Below.refl _ _ | refine Below.alloc ?_ (by first | exact Nat.le_refl _ | (simp <;> omega)) _ | refine Below.setCell ?_ (by first | exact Nat.le_refl _ | (simp <;> omega)) _)) hb2
    replace HB := bth HB hq2
    replace hL := hL.below hq2 hL.lt
    replace q0 := (hL.cell 0).trans (show _ = some (.string (bs d)) from rfl)
    replace q1 := (hL.cell 1).trans (show _ = some (.string (bs p)) from rfl)
    replace q2 := (hL.cell 2).trans (show _ = some (.int .i64 n) from rfl)
    go_wp2
    go_ret2
    rw [HS.out]
    exact ⟨A1, c1, rfl, hO.base (by have h1 := hb1.size; simp at h1; omega), (bth HB (by repeat (first | exact Below.refl _ _ | refine Below.alloc ?_ (by first | exact Nat.le_refl _ | (simp <;> omega)) _ | refine Below.setCell ?_ (by first | exact Nat.le_refl _ | (simp <;> omega)) _)))⟩
end Go.Proofs.YtpejnfhenpdobaaDoor
