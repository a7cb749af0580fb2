/- The log: SyncLog, RecoverLog, by both. -/
import Derived.Test.YtpejnfhenpdobaaDoorLog8
namespace Go.Proofs.YtpejnfhenpdobaaDoor
open Go.RowKit Go.G9
def syncV (d p : L8) (n : Int) : Value := if logS d p n then .agg #[.string (bs d ++ bs p), .string ⟨#[]⟩, .int .i64 n] else .agg #[.string ⟨#[]⟩, .string ⟨#[]⟩, .int .i64 0]
set_option maxHeartbeats 2000000 in
set_option maxRecDepth 100000 in
theorem syncLog_is (d p : L8) (n : Int) (ht : d.length + p.length ≤ 1048576) (w : World) (hT : Tab w) : Calls Tryd.prog 27 #[.agg #[.string (bs d), .string (bs p), .int .i64 n]] w fun e w' => e = .returned (.tuple #[syncV d p n, .bool (logS d p n)]) ∧ Below w.heap.size w w' := by
  have s3 : (bs d).size + (bs p).size ≤ 1048576 := by rw [bs_size, bs_size]; exact ht
  have hd : d.length ≤ 1048576 := by omega
  have hp : p.length ≤ 1048576 := by omega
  have HT := Lib.hid (hT.below (bl2 w (.cells #[.string (bs d), .string (bs p), .int .i64 n] 31) (.cells #[.string ⟨#[]⟩, .string ⟨#[]⟩, .int .i64 0] 31)))
  cases hv : logS d p n
  · have hs : syncV d p n = .agg #[.string ⟨#[]⟩, .string ⟨#[]⟩, .int .i64 0] := by simp [syncV, hv]
    have HS := Lib.hid hs; have HV := Lib.hid hv; clear hs hv
    have b0 := boxed w #[.string (bs d), .string (bs p), .int .i64 n] 31 0 (.string (bs d)) rfl
    have b1 := boxed w #[.string (bs d), .string (bs p), .int .i64 n] 31 1 (.string (bs p)) rfl
    have b2 := boxed w #[.string (bs d), .string (bs p), .int .i64 n] 31 2 (.int .i64 n) rfl
    go_enter Tryd.func27, Tryd.ntmps27
    go_wp2_with fail
    refine (isValidLog_is d p n ht _ HV.out _ HT.out).mono ?_
    rintro e w1 ⟨rfl, hb1⟩
    have hq1 : Below w.heap.size w w1 := bth (by repeat (first | exact Below.refl _ _ | refine Below.alloc ?_ (by first | exact Nat.le_refl _ | (simp <;> omega)) _ | refine Below.setCell ?_ (by first | exact Nat.le_refl _ | (simp <;> omega)) _)) hb1
    have HB : Below w.heap.size w w1 := hq1
    have hZ : Blk w1 ((w.heap.size + 1)) 31 #[.string ⟨#[]⟩, .string ⟨#[]⟩, .int .i64 0] := Blk.below (by repeat (first | exact Blk.new _ _ _ | exact Blk.new2 _ _ _ _ | exact Blk.new3 _ _ _ _ _ | exact Blk.new4 _ _ _ _ _ _ | refine Blk.alloc ?_ _)) hb1 (by simp <;> omega)
    have z0 := (hZ.cell 0).trans (show _ = some (.string ⟨#[]⟩) from rfl)
    have z1 := (hZ.cell 1).trans (show _ = some (.string ⟨#[]⟩) from rfl)
    have z2 := (hZ.cell 2).trans (show _ = some (.int .i64 0) from rfl)
    have yhZ0 := hZ.frozen 0
    have yhZ1 := hZ.frozen 1
    have yhZ2 := hZ.frozen 2
    have hF := (((hZ.set_ 0 (.string ⟨#[]⟩)).set_ 1 (.string ⟨#[]⟩)).set_ 2 (.int .i64 0))
    have r0 := (hF.cell 0).trans (show _ = some (.string ⟨#[]⟩) from rfl)
    have r1 := (hF.cell 1).trans (show _ = some (.string ⟨#[]⟩) from rfl)
    have r2 := (hF.cell 2).trans (show _ = some (.int .i64 0) from rfl)
    have hEW := (((HB.setCell (by show w.heap.size ≤ (w.heap.size + 1); omega) (.string ⟨#[]⟩) (p := ⟨(w.heap.size + 1), 0, none⟩)).setCell (by show w.heap.size ≤ (w.heap.size + 1); omega) (.string ⟨#[]⟩) (p := ⟨(w.heap.size + 1), 1, none⟩)).setCell (by show w.heap.size ≤ (w.heap.size + 1); omega) (.int .i64 0) (p := ⟨(w.heap.size + 1), 2, none⟩))
    have yhZ := hZ.lt
    go_wp2
    refine bodyPost_ret (v := .tuple #[.agg #[.string ⟨#[]⟩, .string ⟨#[]⟩, .int .i64 0], .bool false]) (by simp [results, Tryd.results27, go_sem, r0, r1, r2]) rfl ?_
    exact ⟨by rw [HS.out], (by repeat (first | exact HB | exact Below.refl _ _ | refine Below.alloc ?_ (by first | exact Nat.le_refl _ | (have hsz := HB.size; simp; omega) | (simp <;> omega)) _ | refine Below.setCell ?_ (by first | exact Nat.le_refl _ | (simp <;> omega)) _))⟩
  · have hs : syncV d p n = .agg #[.string (bs d ++ bs p), .string ⟨#[]⟩, .int .i64 n] := by simp [syncV, hv]
    have HS := Lib.hid hs; have HV := Lib.hid hv; clear hs hv
    have b0 := boxed w #[.string (bs d), .string (bs p), .int .i64 n] 31 0 (.string (bs d)) rfl
    have b1 := boxed w #[.string (bs d), .string (bs p), .int .i64 n] 31 1 (.string (bs p)) rfl
    have b2 := boxed w #[.string (bs d), .string (bs p), .int .i64 n] 31 2 (.int .i64 n) rfl
    go_enter Tryd.func27, Tryd.ntmps27
    go_wp2_with fail
    refine (isValidLog_is d p n ht _ HV.out _ HT.out).mono ?_
    rintro e w1 ⟨rfl, hb1⟩
    have hq1 : Below w.heap.size w w1 := bth (by repeat (first | exact Below.refl _ _ | refine Below.alloc ?_ (by first | exact Nat.le_refl _ | (simp <;> omega)) _ | refine Below.setCell ?_ (by first | exact Nat.le_refl _ | (simp <;> omega)) _)) hb1
    have HB : Below w.heap.size w w1 := hq1
    have hZ : Blk w1 ((w.heap.size + 1)) 31 #[.string ⟨#[]⟩, .string ⟨#[]⟩, .int .i64 0] := Blk.below (by repeat (first | exact Blk.new _ _ _ | exact Blk.new2 _ _ _ _ | exact Blk.new3 _ _ _ _ _ | exact Blk.new4 _ _ _ _ _ _ | refine Blk.alloc ?_ _)) hb1 (by simp <;> omega)
    have z0 := (hZ.cell 0).trans (show _ = some (.string ⟨#[]⟩) from rfl)
    have z1 := (hZ.cell 1).trans (show _ = some (.string ⟨#[]⟩) from rfl)
    have z2 := (hZ.cell 2).trans (show _ = some (.int .i64 0) from rfl)
    have hL : Blk w1 (w.heap.size) 31 #[.string (bs d), .string (bs p), .int .i64 n] := Blk.below (by repeat (first | exact Blk.new _ _ _ | exact Blk.new2 _ _ _ _ | exact Blk.new3 _ _ _ _ _ | exact Blk.new4 _ _ _ _ _ _ | refine Blk.alloc ?_ _)) hb1 (by simp <;> omega)
    have c0 := (hL.cell 0).trans (show _ = some (.string (bs d)) from rfl)
    have c1 := (hL.cell 1).trans (show _ = some (.string (bs p)) from rfl)
    have c2 := (hL.cell 2).trans (show _ = some (.int .i64 n) from rfl)
    have yhZ0 := hZ.frozen 0
    have yhZ1 := hZ.frozen 1
    have yhZ2 := hZ.frozen 2
    have hF := (((hZ.set_ 0 (.string (bs d ++ bs p))).set_ 1 (.string ⟨#[]⟩)).set_ 2 (.int .i64 n))
    have r0 := (hF.cell 0).trans (show _ = some (.string (bs d ++ bs p)) from rfl)
    have r1 := (hF.cell 1).trans (show _ = some (.string ⟨#[]⟩) from rfl)
    have r2 := (hF.cell 2).trans (show _ = some (.int .i64 n) from rfl)
    have hEW := (((HB.setCell (by show w.heap.size ≤ (w.heap.size + 1); omega) (.string (bs d ++ bs p)) (p := ⟨(w.heap.size + 1), 0, none⟩)).setCell (by show w.heap.size ≤ (w.heap.size + 1); omega) (.string ⟨#[]⟩) (p := ⟨(w.heap.size + 1), 1, none⟩)).setCell (by show w.heap.size ≤ (w.heap.size + 1); omega) (.int .i64 n) (p := ⟨(w.heap.size + 1), 2, none⟩))
    have yhZ := hZ.lt
    have yhL := hL.lt
    go_wp2
    refine bodyPost_ret (v := .tuple #[.agg #[.string (bs d ++ bs p), .string ⟨#[]⟩, .int .i64 n], .bool true]) (by simp [results, Tryd.results27, go_sem, r0, r1, r2]) rfl ?_
    exact ⟨by rw [HS.out], (by repeat (first | exact HB | exact Below.refl _ _ | refine Below.alloc ?_ (by first | exact Nat.le_refl _ | (have hsz := HB.size; simp; omega) | (simp <;> omega)) _ | refine Below.setCell ?_ (by first | exact Nat.le_refl _ | (simp <;> omega)) _))⟩
set_option maxHeartbeats 2000000 in
set_option maxRecDepth 100000 in
theorem sSyncLog_is (d p : L8) (n : Int) (ht : d.length + p.length ≤ 1048576) (w : World) : Calls Tryd.prog 26 #[.agg #[.string (bs d), .string (bs p), .int .i64 n]] w fun e w' => e = .returned (.tuple #[syncV d p n, .bool (logS d p n)]) ∧ Below w.heap.size w w' := by
  have s3 : (bs d).size + (bs p).size ≤ 1048576 := by rw [bs_size, bs_size]; exact ht
  have hd : d.length ≤ 1048576 := by omega
  have hp : p.length ≤ 1048576 := by omega
  cases hv : logS d p n
  · have hs : syncV d p n = .agg #[.string ⟨#[]⟩, .string ⟨#[]⟩, .int .i64 0] := by simp [syncV, hv]
    have HS := Lib.hid hs; have HV := Lib.hid hv; clear hs hv
    have b0 := boxed w #[.string (bs d), .string (bs p), .int .i64 n] 31 0 (.string (bs d)) rfl
    have b1 := boxed w #[.string (bs d), .string (bs p), .int .i64 n] 31 1 (.string (bs p)) rfl
    have b2 := boxed w #[.string (bs d), .string (bs p), .int .i64 n] 31 2 (.int .i64 n) rfl
    go_enter Tryd.func26, Tryd.ntmps26
    go_wp2_with fail
    refine (l27Log_is d p n hd hp _ HV.out _).mono ?_
    rintro e w1 ⟨rfl, hb1⟩
    have hq1 : Below w.heap.size w w1 := bth (by repeat (first | exact Below.refl _ _ | refine Below.alloc ?_ (by first | exact Nat.le_refl _ | (simp <;> omega)) _ | refine Below.setCell ?_ (by first | exact Nat.le_refl _ | (simp <;> omega)) _)) hb1
    have HB : Below w.heap.size w w1 := hq1
    have hZ : Blk w1 ((w.heap.size + 1)) 31 #[.string ⟨#[]⟩, .string ⟨#[]⟩, .int .i64 0] := Blk.below (by repeat (first | exact Blk.new _ _ _ | exact Blk.new2 _ _ _ _ | exact Blk.new3 _ _ _ _ _ | exact Blk.new4 _ _ _ _ _ _ | refine Blk.alloc ?_ _)) hb1 (by simp <;> omega)
    have z0 := (hZ.cell 0).trans (show _ = some (.string ⟨#[]⟩) from rfl)
    have z1 := (hZ.cell 1).trans (show _ = some (.string ⟨#[]⟩) from rfl)
    have z2 := (hZ.cell 2).trans (show _ = some (.int .i64 0) from rfl)
    have yhZ0 := hZ.frozen 0
    have yhZ1 := hZ.frozen 1
    have yhZ2 := hZ.frozen 2
    have hF := (((hZ.set_ 0 (.string ⟨#[]⟩)).set_ 1 (.string ⟨#[]⟩)).set_ 2 (.int .i64 0))
    have r0 := (hF.cell 0).trans (show _ = some (.string ⟨#[]⟩) from rfl)
    have r1 := (hF.cell 1).trans (show _ = some (.string ⟨#[]⟩) from rfl)
    have r2 := (hF.cell 2).trans (show _ = some (.int .i64 0) from rfl)
    have hEW := (((HB.setCell (by show w.heap.size ≤ (w.heap.size + 1); omega) (.string ⟨#[]⟩) (p := ⟨(w.heap.size + 1), 0, none⟩)).setCell (by show w.heap.size ≤ (w.heap.size + 1); omega) (.string ⟨#[]⟩) (p := ⟨(w.heap.size + 1), 1, none⟩)).setCell (by show w.heap.size ≤ (w.heap.size + 1); omega) (.int .i64 0) (p := ⟨(w.heap.size + 1), 2, none⟩))
    have yhZ := hZ.lt
    go_wp2
    refine bodyPost_ret (v := .tuple #[.agg #[.string ⟨#[]⟩, .string ⟨#[]⟩, .int .i64 0], .bool false]) (by simp [results, Tryd.results26, go_sem, r0, r1, r2]) rfl ?_
    exact ⟨by rw [HS.out], (by repeat (first | exact HB | exact Below.refl _ _ | refine Below.alloc ?_ (by first | exact Nat.le_refl _ | (have hsz := HB.size; simp; omega) | (simp <;> omega)) _ | refine Below.setCell ?_ (by first | exact Nat.le_refl _ | (simp <;> omega)) _))⟩
  · have hs : syncV d p n = .agg #[.string (bs d ++ bs p), .string ⟨#[]⟩, .int .i64 n] := by simp [syncV, hv]
    have HS := Lib.hid hs; have HV := Lib.hid hv; clear hs hv
    have b0 := boxed w #[.string (bs d), .string (bs p), .int .i64 n] 31 0 (.string (bs d)) rfl
    have b1 := boxed w #[.string (bs d), .string (bs p), .int .i64 n] 31 1 (.string (bs p)) rfl
    have b2 := boxed w #[.string (bs d), .string (bs p), .int .i64 n] 31 2 (.int .i64 n) rfl
    go_enter Tryd.func26, Tryd.ntmps26
    go_wp2_with fail
    refine (l27Log_is d p n hd hp _ HV.out _).mono ?_
    rintro e w1 ⟨rfl, hb1⟩
    have hq1 : Below w.heap.size w w1 := bth (by repeat (first | exact Below.refl _ _ | refine Below.alloc ?_ (by first | exact Nat.le_refl _ | (simp <;> omega)) _ | refine Below.setCell ?_ (by first | exact Nat.le_refl _ | (simp <;> omega)) _)) hb1
    have HB : Below w.heap.size w w1 := hq1
    have hZ : Blk w1 ((w.heap.size + 1)) 31 #[.string ⟨#[]⟩, .string ⟨#[]⟩, .int .i64 0] := Blk.below (by repeat (first | exact Blk.new _ _ _ | exact Blk.new2 _ _ _ _ | exact Blk.new3 _ _ _ _ _ | exact Blk.new4 _ _ _ _ _ _ | refine Blk.alloc ?_ _)) hb1 (by simp <;> omega)
    have z0 := (hZ.cell 0).trans (show _ = some (.string ⟨#[]⟩) from rfl)
    have z1 := (hZ.cell 1).trans (show _ = some (.string ⟨#[]⟩) from rfl)
    have z2 := (hZ.cell 2).trans (show _ = some (.int .i64 0) from rfl)
    have hL : Blk w1 (w.heap.size) 31 #[.string (bs d), .string (bs p), .int .i64 n] := Blk.below (by repeat (first | exact Blk.new _ _ _ | exact Blk.new2 _ _ _ _ | exact Blk.new3 _ _ _ _ _ | exact Blk.new4 _ _ _ _ _ _ | refine Blk.alloc ?_ _)) hb1 (by simp <;> omega)
    have c0 := (hL.cell 0).trans (show _ = some (.string (bs d)) from rfl)
    have c1 := (hL.cell 1).trans (show _ = some (.string (bs p)) from rfl)
    have c2 := (hL.cell 2).trans (show _ = some (.int .i64 n) from rfl)
    have yhZ0 := hZ.frozen 0
    have yhZ1 := hZ.frozen 1
    have yhZ2 := hZ.frozen 2
    have hF := (((hZ.set_ 0 (.string (bs d ++ bs p))).set_ 1 (.string ⟨#[]⟩)).set_ 2 (.int .i64 n))
    have r0 := (hF.cell 0).trans (show _ = some (.string (bs d ++ bs p)) from rfl)
    have r1 := (hF.cell 1).trans (show _ = some (.string ⟨#[]⟩) from rfl)
    have r2 := (hF.cell 2).trans (show _ = some (.int .i64 n) from rfl)
    have hEW := (((HB.setCell (by show w.heap.size ≤ (w.heap.size + 1); omega) (.string (bs d ++ bs p)) (p := ⟨(w.heap.size + 1), 0, none⟩)).setCell (by show w.heap.size ≤ (w.heap.size + 1); omega) (.string ⟨#[]⟩) (p := ⟨(w.heap.size + 1), 1, none⟩)).setCell (by show w.heap.size ≤ (w.heap.size + 1); omega) (.int .i64 n) (p := ⟨(w.heap.size + 1), 2, none⟩))
    have yhZ := hZ.lt
    have yhL := hL.lt
    go_wp2
    refine bodyPost_ret (v := .tuple #[.agg #[.string (bs d ++ bs p), .string ⟨#[]⟩, .int .i64 n], .bool true]) (by simp [results, Tryd.results26, go_sem, r0, r1, r2]) rfl ?_
    exact ⟨by rw [HS.out], (by repeat (first | exact HB | exact Below.refl _ _ | refine Below.alloc ?_ (by first | exact Nat.le_refl _ | (have hsz := HB.size; simp; omega) | (simp <;> omega)) _ | refine Below.setCell ?_ (by first | exact Nat.le_refl _ | (simp <;> omega)) _))⟩
end Go.Proofs.YtpejnfhenpdobaaDoor
