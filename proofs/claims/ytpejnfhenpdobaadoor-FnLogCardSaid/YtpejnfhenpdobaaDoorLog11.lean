/- The log: EncodeRecord and AppendRecord, by both. -/
import Derived.Test.YtpejnfhenpdobaaDoorLog10
import Derived.Test.YtpejnfhenpdobaaDoorBlk
import Derived.Deep.Cut
namespace Go.Proofs.YtpejnfhenpdobaaDoor
open Go.RowKit Go.G9
def encOk (k : Int) (c r : L8) : Bool := inB k 0 59 && okL c r
def encV (k : Int) (c r : L8) : Value := .tuple #[.string (if encOk k c r then bs (lineL k c r ++ [10]) else ⟨#[]⟩), .bool (encOk k c r)]
set_option maxHeartbeats 2000000 in
set_option maxRecDepth 100000 in
theorem iEncodeRecord_is (k : Int) (c r : L8) (hc : c.length ≤ 1048576) (hr : r.length ≤ 1048576) (w : World) (hT : Tab w) : Calls Tryd.prog 16 #[.int .i64 k, .agg #[.string (bs c), .string (bs r)]] w fun e w' => e = .returned (encV k c r) ∧ Below w.heap.size w w' := by
  have s1 : (bs c).size ≤ 1048576 := by rw [bs_size]; exact hc
  have s2 : (bs r).size ≤ 1048576 := by rw [bs_size]; exact hr
  have HT := Lib.hid (hT.below (bl1 w (.cells #[.string (bs c), .string (bs r)] 27)))
  cases hk : inB k 0 59
  · have hv : encV k c r = .tuple #[.string ⟨#[]⟩, .bool false] := by simp [encV, encOk, hk]
    have HV := Lib.hid hv; have HK := Lib.hid hk; clear hv hk
    go_enter Tryd.func16, Tryd.ntmps16
    go_wp2_with fail
    refine (inside_is _ _ _ _ HK.out _).mono ?_
    rintro e _ ⟨rfl, rfl⟩
    go_wp2
    go_ret2
    exact ⟨by rw [HV.out]; rfl, bl1 _ _⟩
  · cases ho : okL c r
    · have hv : encV k c r = .tuple #[.string ⟨#[]⟩, .bool false] := by simp [encV, encOk, hk, ho]
      have HV := Lib.hid hv; have HK := Lib.hid hk; have HO := Lib.hid ho; clear hv hk ho
      go_enter Tryd.func16, Tryd.ntmps16
      go_wp2_with fail
      refine (inside_is _ _ _ _ HK.out _).mono ?_
      rintro e _ ⟨rfl, rfl⟩
      go_wp2_with fail
      refine (isValidRecord_is (bs c) (bs r) s1 s2 _ HO.out _).mono ?_
      rintro e w1 ⟨rfl, hb1⟩
      have hq1 : Below w.heap.size w w1 := bth (by repeat (first | exact Below.refl _ _ | refine Below.alloc ?_ (by first | exact Nat.le_refl _ | (simp <;> omega)) _ | refine Below.setCell ?_ (by first | exact Nat.le_refl _ | (simp <;> omega)) _)) hb1
      have HB : Below w.heap.size w w1 := hq1
      go_wp2
      go_ret2
      exact ⟨by rw [HV.out]; rfl, (bth HB (by repeat (first | exact Below.refl _ _ | refine Below.alloc ?_ (by first | exact Nat.le_refl _ | (simp <;> omega)) _ | refine Below.setCell ?_ (by first | exact Nat.le_refl _ | (simp <;> omega)) _)))⟩
    · have hv : encV k c r = .tuple #[.string (bs (lineL k c r ++ [10])), .bool true] := by simp [encV, encOk, hk, ho]
      obtain ⟨k0, k1⟩ := inB_iff.1 hk
      have henc : ∀ W, Tab W → Calls Tryd.prog 46 #[.int .i64 k, .agg #[.string (bs c), .string (bs r)]] W fun e w' => e = .returned (.string (bs (lineL k c r ++ [10]))) ∧ Below W.heap.size W w' := fun W hW => encodeRecord_is k (by omega) (by omega) c r ho W hW
      have HV := Lib.hid hv; have HK := Lib.hid hk; have HO := Lib.hid ho; have HE := Lib.hid henc; clear hv hk ho henc
      go_enter Tryd.func16, Tryd.ntmps16
      go_wp2_with fail
      refine (inside_is _ _ _ _ HK.out _).mono ?_
      rintro e _ ⟨rfl, rfl⟩
      go_wp2_with fail
      refine (isValidRecord_is (bs c) (bs r) s1 s2 _ HO.out _).mono ?_
      rintro e w1 ⟨rfl, hb1⟩
      have hq1 : Below w.heap.size w w1 := bth (by repeat (first | exact Below.refl _ _ | refine Below.alloc ?_ (by first | exact Nat.le_refl _ | (simp <;> omega)) _ | refine Below.setCell ?_ (by first | exact Nat.le_refl _ | (simp <;> omega)) _)) hb1
      have HB : Below w.heap.size w w1 := hq1
      have hL : Blk w1 (w.heap.size) 27 #[.string (bs c), .string (bs r)] := Blk.below (by repeat (first | exact Blk.new _ _ _ | exact Blk.new2 _ _ _ _ | exact Blk.new3 _ _ _ _ _ | exact Blk.new4 _ _ _ _ _ _ | refine Blk.alloc ?_ _)) hb1 (by simp <;> omega)
      have q0 := (hL.cell 0).trans (show _ = some (.string (bs c)) from rfl)
      have q1 := (hL.cell 1).trans (show _ = some (.string (bs r)) from rfl)
      go_wp2_with fail
      refine (HE.out _ (hT.below HB)).mono ?_
      rintro e w2 ⟨rfl, hb2⟩
      have hq2 : Below w1.heap.size w1 w2 := bth (by repeat (first | exact Below.refl _ _ | refine Below.alloc ?_ (by first | exact Nat.le_refl _ | (simp <;> omega)) _ | refine Below.setCell ?_ (by first | exact Nat.le_refl _ | (simp <;> omega)) _)) hb2
      replace HB := bth HB hq2
      replace hL := hL.below hq2 hL.lt
      replace q0 := (hL.cell 0).trans (show _ = some (.string (bs c)) from rfl)
      replace q1 := (hL.cell 1).trans (show _ = some (.string (bs r)) from rfl)
      go_wp2
      go_ret2
      exact ⟨by rw [HV.out]; rfl, (bth HB (by repeat (first | exact Below.refl _ _ | refine Below.alloc ?_ (by first | exact Nat.le_refl _ | (simp <;> omega)) _ | refine Below.setCell ?_ (by first | exact Nat.le_refl _ | (simp <;> omega)) _)))⟩
set_option maxHeartbeats 2000000 in
set_option maxRecDepth 100000 in
theorem sEncodeRecord_is (k : Int) (c r : L8) (hc : c.length ≤ 1048576) (hr : r.length ≤ 1048576) (w : World) : Calls Tryd.prog 14 #[.int .i64 k, .agg #[.string (bs c), .string (bs r)]] w fun e w' => e = .returned (encV k c r) ∧ Below w.heap.size w w' := by
  have s1 : (bs c).size ≤ 1048576 := by rw [bs_size]; exact hc
  have s2 : (bs r).size ≤ 1048576 := by rw [bs_size]; exact hr
  cases hk : inB k 0 59
  · have hv : encV k c r = .tuple #[.string ⟨#[]⟩, .bool false] := by simp [encV, encOk, hk]
    have HV := Lib.hid hv; have HK := Lib.hid hk; clear hv hk
    go_enter Tryd.func14, Tryd.ntmps14
    go_wp2_with fail
    refine (l1In_is _ _ _ _ HK.out _).mono ?_
    rintro e _ ⟨rfl, rfl⟩
    go_wp2
    go_ret2
    exact ⟨by rw [HV.out]; rfl, bl1 _ _⟩
  · cases ho : okL c r
    · have hv : encV k c r = .tuple #[.string ⟨#[]⟩, .bool false] := by simp [encV, encOk, hk, ho]
      have HV := Lib.hid hv; have HK := Lib.hid hk; have HO := Lib.hid ho; clear hv hk ho
      go_enter Tryd.func14, Tryd.ntmps14
      go_wp2_with fail
      refine (l1In_is _ _ _ _ HK.out _).mono ?_
      rintro e _ ⟨rfl, rfl⟩
      go_wp2_with fail
      refine (l27Good_is (bs c) (bs r) s1 s2 _ HO.out _).mono ?_
      rintro e w1 ⟨rfl, hb1⟩
      have hq1 : Below w.heap.size w w1 := bth (by repeat (first | exact Below.refl _ _ | refine Below.alloc ?_ (by first | exact Nat.le_refl _ | (simp <;> omega)) _ | refine Below.setCell ?_ (by first | exact Nat.le_refl _ | (simp <;> omega)) _)) hb1
      have HB : Below w.heap.size w w1 := hq1
      go_wp2
      go_ret2
      exact ⟨by rw [HV.out]; rfl, (bth HB (by repeat (first | exact Below.refl _ _ | refine Below.alloc ?_ (by first | exact Nat.le_refl _ | (simp <;> omega)) _ | refine Below.setCell ?_ (by first | exact Nat.le_refl _ | (simp <;> omega)) _)))⟩
    · have hv : encV k c r = .tuple #[.string (bs (lineL k c r ++ [10])), .bool true] := by simp [encV, encOk, hk, ho]
      obtain ⟨k0, k1⟩ := inB_iff.1 hk
      have henc : ∀ W, Calls Tryd.prog 44 #[.int .i64 k, .agg #[.string (bs c), .string (bs r)]] W fun e w' => e = .returned (.string (bs (lineL k c r ++ [10]))) ∧ Below W.heap.size W w' := fun W => l27Line_is k (by omega) (by omega) c r ho W
      have HV := Lib.hid hv; have HK := Lib.hid hk; have HO := Lib.hid ho; have HE := Lib.hid henc; clear hv hk ho henc
      go_enter Tryd.func14, Tryd.ntmps14
      go_wp2_with fail
      refine (l1In_is _ _ _ _ HK.out _).mono ?_
      rintro e _ ⟨rfl, rfl⟩
      go_wp2_with fail
      refine (l27Good_is (bs c) (bs r) s1 s2 _ HO.out _).mono ?_
      rintro e w1 ⟨rfl, hb1⟩
      have hq1 : Below w.heap.size w w1 := bth (by repeat (first | exact Below.refl _ _ | refine Below.alloc ?_ (by first | exact Nat.le_refl _ | (simp <;> omega)) _ | refine Below.setCell ?_ (by first | exact Nat.le_refl _ | (simp <;> omega)) _)) hb1
      have HB : Below w.heap.size w w1 := hq1
      have hL : Blk w1 (w.heap.size) 27 #[.string (bs c), .string (bs r)] := Blk.below (by repeat (first | exact Blk.new _ _ _ | exact Blk.new2 _ _ _ _ | exact Blk.new3 _ _ _ _ _ | exact Blk.new4 _ _ _ _ _ _ | refine Blk.alloc ?_ _)) hb1 (by simp <;> omega)
      have q0 := (hL.cell 0).trans (show _ = some (.string (bs c)) from rfl)
      have q1 := (hL.cell 1).trans (show _ = some (.string (bs r)) from rfl)
      go_wp2_with fail
      refine (HE.out _).mono ?_
      rintro e w2 ⟨rfl, hb2⟩
      have hq2 : Below w1.heap.size w1 w2 := bth (by repeat (first | exact Below.refl _ _ | refine Below.alloc ?_ (by first | exact Nat.le_refl _ | (simp <;> omega)) _ | refine Below.setCell ?_ (by first | exact Nat.le_refl _ | (simp <;> omega)) _)) hb2
      replace HB := bth HB hq2
      replace hL := hL.below hq2 hL.lt
      replace q0 := (hL.cell 0).trans (show _ = some (.string (bs c)) from rfl)
      replace q1 := (hL.cell 1).trans (show _ = some (.string (bs r)) from rfl)
      go_wp2
      go_ret2
      exact ⟨by rw [HV.out]; rfl, (bth HB (by repeat (first | exact Below.refl _ _ | refine Below.alloc ?_ (by first | exact Nat.le_refl _ | (simp <;> omega)) _ | refine Below.setCell ?_ (by first | exact Nat.le_refl _ | (simp <;> omega)) _)))⟩
/-- What an append answers. -/
def apOk (d p : L8) (n : Int) (c r : L8) : Bool := logS d p n && okL c r
def apP (d p : L8) (n : Int) (c r : L8) : L8 := if apOk d p n c r && !(n == 60) then p ++ (lineL n c r ++ [10]) else p
def apN (d p : L8) (n : Int) (c r : L8) : Int := if apOk d p n c r && !(n == 60) then n + 1 else n
def apC (d p : L8) (n : Int) (c r : L8) : Int := if apOk d p n c r then (if n == 60 then 2 else 0) else 1
def apV (d p : L8) (n : Int) (c r : L8) : Value := .tuple #[.agg #[.string (bs d), .string (bs (apP d p n c r)), .int .i64 (apN d p n c r)], .int .i64 (apC d p n c r)]
theorem logS_n {d p : L8} {n : Int} (h : logS d p n = true) : 0 ≤ n ∧ n ≤ 60 ∧ d.length + p.length ≤ 30000 := by
  unfold logS at h
  simp only [Bool.and_eq_true, decide_eq_true_eq, beq_iff_eq] at h
  have h1 := recsL_len (d ++ p)
  have h2 := rdAll_len (d ++ p)
  omega
theorem encAny_is {n : Int} {c r : L8} {w0 : World} (h : ∀ W, Tab W → Calls Tryd.prog 46 #[.int .i64 n, .agg #[.string (bs c), .string (bs r)]] W fun e w' => e = .returned (.string (bs (lineL n c r ++ [10]))) ∧ Below W.heap.size W w') (hT : Tab w0) (K : Kin w0.heap.size w0) :
  Calls Tryd.prog 46 #[.int .i64 n, .agg #[.string (bs c), .string (bs r)]] K.world fun e w' => e = .returned (.string (bs (lineL n c r ++ [10]))) ∧ Below K.world.heap.size K.world w' := h _ (hT.below K.below)
set_option maxHeartbeats 4000000 in
set_option maxRecDepth 100000 in
theorem iAppendRecord_is (d p : L8) (n : Int) (ht : d.length + p.length ≤ 1048576) (c r : L8) (hc : c.length ≤ 1048576) (hr : r.length ≤ 1048576) (w : World) (hT : Tab w) : Calls Tryd.prog 29 #[.agg #[.string (bs d), .string (bs p), .int .i64 n], .agg #[.string (bs c), .string (bs r)]] w fun e w' => e = .returned (apV d p n c r) ∧ Below w.heap.size w w' := by
  have s1 : (bs c).size ≤ 1048576 := by rw [bs_size]; exact hc
  have s2 : (bs r).size ≤ 1048576 := by rw [bs_size]; exact hr
  have s3 : (bs d).size + (bs p).size ≤ 1048576 := by rw [bs_size, bs_size]; exact ht
  have HT := Lib.hid (hT.below (bl3 w (.cells #[.string (bs d), .string (bs p), .int .i64 n] 31) (.cells #[.string (bs c), .string (bs r)] 27) (.cells #[.string ⟨#[]⟩, .string ⟨#[]⟩, .int .i64 0] 31)))
  cases hl : logS d p n
  · have hv : apV d p n c r = .tuple #[.agg #[.string (bs d), .string (bs p), .int .i64 n], .int .i64 1] := by simp [apV, apP, apN, apC, apOk, hl]
    have HV := Lib.hid hv; have HL := Lib.hid hl; clear hv hl
    go_enter Tryd.func29, Tryd.ntmps29
    go_wp2_with fail
    refine (isValidLog_is d p n ht _ HL.out _ HT.out).mono ?_
    rintro e w1 ⟨rfl, hb1⟩
    have hq1 : Below w.heap.size w w1 := bth (by repeat (first | exact Below.refl _ _ | refine Below.alloc ?_ (by first | exact Nat.le_refl _ | (simp <;> omega)) _ | refine Below.setCell ?_ (by first | exact Nat.le_refl _ | (simp <;> omega)) _)) hb1
    have HB : Below w.heap.size w w1 := hq1
    have hB : Blk w1 (w.heap.size) 31 #[.string (bs d), .string (bs p), .int .i64 n] := Blk.below (by repeat (first | exact Blk.new _ _ _ | exact Blk.new2 _ _ _ _ | exact Blk.new3 _ _ _ _ _ | exact Blk.new4 _ _ _ _ _ _ | refine Blk.alloc ?_ _)) hb1 (by simp <;> omega)
    have q0 := (hB.cell 0).trans (show _ = some (.string (bs d)) from rfl)
    have q1 := (hB.cell 1).trans (show _ = some (.string (bs p)) from rfl)
    have q2 := (hB.cell 2).trans (show _ = some (.int .i64 n) from rfl)
    have hZ : Blk w1 ((w.heap.size + 1 + 1)) 31 #[.string ⟨#[]⟩, .string ⟨#[]⟩, .int .i64 0] := Blk.below (by repeat (first | exact Blk.new _ _ _ | exact Blk.new2 _ _ _ _ | exact Blk.new3 _ _ _ _ _ | exact Blk.new4 _ _ _ _ _ _ | refine Blk.alloc ?_ _)) hb1 (by simp <;> omega)
    have z0 := (hZ.cell 0).trans (show _ = some (.string ⟨#[]⟩) from rfl)
    have z1 := (hZ.cell 1).trans (show _ = some (.string ⟨#[]⟩) from rfl)
    have z2 := (hZ.cell 2).trans (show _ = some (.int .i64 0) from rfl)
    have yhZ0 := hZ.frozen 0
    have yhZ1 := hZ.frozen 1
    have yhZ2 := hZ.frozen 2
    have hF := (((hZ.set_ 0 (.string (bs d))).set_ 1 (.string (bs p))).set_ 2 (.int .i64 n))
    have r0 := (hF.cell 0).trans (show _ = some (.string (bs d)) from rfl)
    have r1 := (hF.cell 1).trans (show _ = some (.string (bs p)) from rfl)
    have r2 := (hF.cell 2).trans (show _ = some (.int .i64 n) from rfl)
    have hEW := (((HB.setCell (by show w.heap.size ≤ (w.heap.size + 1 + 1); omega) (.string (bs d)) (p := ⟨(w.heap.size + 1 + 1), 0, none⟩)).setCell (by show w.heap.size ≤ (w.heap.size + 1 + 1); omega) (.string (bs p)) (p := ⟨(w.heap.size + 1 + 1), 1, none⟩)).setCell (by show w.heap.size ≤ (w.heap.size + 1 + 1); omega) (.int .i64 n) (p := ⟨(w.heap.size + 1 + 1), 2, none⟩))
    have yhB := hB.lt
    have yhZ := hZ.lt
    go_wp2
    refine bodyPost_ret (v := .tuple #[.agg #[.string (bs d), .string (bs p), .int .i64 n], .int .i64 1]) (by simp [results, Tryd.results29, go_sem, r0, r1, r2]) rfl ?_
    exact ⟨by rw [HV.out], (by repeat (first | exact HB | exact Below.refl _ _ | refine Below.alloc ?_ (by first | exact Nat.le_refl _ | (have hsz := HB.size; simp; omega) | (simp <;> omega)) _ | refine Below.setCell ?_ (by first | exact Nat.le_refl _ | (simp <;> omega)) _))⟩
  · obtain ⟨n0, n1, s4⟩ := logS_n hl
    have s5 : (bs d).size + (bs p).size ≤ 30000 := by rw [bs_size, bs_size]; exact s4
    cases ho : okL c r
    · have hv : apV d p n c r = .tuple #[.agg #[.string (bs d), .string (bs p), .int .i64 n], .int .i64 1] := by simp [apV, apP, apN, apC, apOk, hl, ho]
      have HV := Lib.hid hv; have HL := Lib.hid hl; have HO := Lib.hid ho; clear hv hl ho
      go_enter Tryd.func29, Tryd.ntmps29
      go_wp2_with fail
      refine (isValidLog_is d p n ht _ HL.out _ HT.out).mono ?_
      rintro e w1 ⟨rfl, hb1⟩
      have hq1 : Below w.heap.size w w1 := bth (by repeat (first | exact Below.refl _ _ | refine Below.alloc ?_ (by first | exact Nat.le_refl _ | (simp <;> omega)) _ | refine Below.setCell ?_ (by first | exact Nat.le_refl _ | (simp <;> omega)) _)) hb1
      have HB : Below w.heap.size w w1 := hq1
      have hB : Blk w1 (w.heap.size) 31 #[.string (bs d), .string (bs p), .int .i64 n] := Blk.below (by repeat (first | exact Blk.new _ _ _ | exact Blk.new2 _ _ _ _ | exact Blk.new3 _ _ _ _ _ | exact Blk.new4 _ _ _ _ _ _ | refine Blk.alloc ?_ _)) hb1 (by simp <;> omega)
      have q0 := (hB.cell 0).trans (show _ = some (.string (bs d)) from rfl)
      have q1 := (hB.cell 1).trans (show _ = some (.string (bs p)) from rfl)
      have q2 := (hB.cell 2).trans (show _ = some (.int .i64 n) from rfl)
      have hR : Blk w1 ((w.heap.size + 1)) 27 #[.string (bs c), .string (bs r)] := Blk.below (by repeat (first | exact Blk.new _ _ _ | exact Blk.new2 _ _ _ _ | exact Blk.new3 _ _ _ _ _ | exact Blk.new4 _ _ _ _ _ _ | refine Blk.alloc ?_ _)) hb1 (by simp <;> omega)
      have u0 := (hR.cell 0).trans (show _ = some (.string (bs c)) from rfl)
      have u1 := (hR.cell 1).trans (show _ = some (.string (bs r)) from rfl)
      have hZ : Blk w1 ((w.heap.size + 1 + 1)) 31 #[.string ⟨#[]⟩, .string ⟨#[]⟩, .int .i64 0] := Blk.below (by repeat (first | exact Blk.new _ _ _ | exact Blk.new2 _ _ _ _ | exact Blk.new3 _ _ _ _ _ | exact Blk.new4 _ _ _ _ _ _ | refine Blk.alloc ?_ _)) hb1 (by simp <;> omega)
      have z0 := (hZ.cell 0).trans (show _ = some (.string ⟨#[]⟩) from rfl)
      have z1 := (hZ.cell 1).trans (show _ = some (.string ⟨#[]⟩) from rfl)
      have z2 := (hZ.cell 2).trans (show _ = some (.int .i64 0) from rfl)
      go_wp2_with fail
      refine (isValidRecord_is (bs c) (bs r) s1 s2 _ HO.out _).mono ?_
      rintro e w2 ⟨rfl, hb2⟩
      have hq2 : Below w1.heap.size w1 w2 := bth (by repeat (first | exact Below.refl _ _ | refine Below.alloc ?_ (by first | exact Nat.le_refl _ | (simp <;> omega)) _ | refine Below.setCell ?_ (by first | exact Nat.le_refl _ | (simp <;> omega)) _)) hb2
      replace HB := bth HB hq2
      replace hB := hB.below hq2 hB.lt
      replace q0 := (hB.cell 0).trans (show _ = some (.string (bs d)) from rfl)
      replace q1 := (hB.cell 1).trans (show _ = some (.string (bs p)) from rfl)
      replace q2 := (hB.cell 2).trans (show _ = some (.int .i64 n) from rfl)
      replace hR := hR.below hq2 hR.lt
      replace u0 := (hR.cell 0).trans (show _ = some (.string (bs c)) from rfl)
      replace u1 := (hR.cell 1).trans (show _ = some (.string (bs r)) from rfl)
      replace hZ := hZ.below hq2 hZ.lt
      replace z0 := (hZ.cell 0).trans (show _ = some (.string ⟨#[]⟩) from rfl)
      replace z1 := (hZ.cell 1).trans (show _ = some (.string ⟨#[]⟩) from rfl)
      replace z2 := (hZ.cell 2).trans (show _ = some (.int .i64 0) from rfl)
      have yhZ0 := hZ.frozen 0
      have yhZ1 := hZ.frozen 1
      have yhZ2 := hZ.frozen 2
      have hF := (((hZ.set_ 0 (.string (bs d))).set_ 1 (.string (bs p))).set_ 2 (.int .i64 n))
      have r0 := (hF.cell 0).trans (show _ = some (.string (bs d)) from rfl)
      have r1 := (hF.cell 1).trans (show _ = some (.string (bs p)) from rfl)
      have r2 := (hF.cell 2).trans (show _ = some (.int .i64 n) from rfl)
      have hEW := (((HB.setCell (by show w.heap.size ≤ (w.heap.size + 1 + 1); omega) (.string (bs d)) (p := ⟨(w.heap.size + 1 + 1), 0, none⟩)).setCell (by show w.heap.size ≤ (w.heap.size + 1 + 1); omega) (.string (bs p)) (p := ⟨(w.heap.size + 1 + 1), 1, none⟩)).setCell (by show w.heap.size ≤ (w.heap.size + 1 + 1); omega) (.int .i64 n) (p := ⟨(w.heap.size + 1 + 1), 2, none⟩))
      have yhB := hB.lt
      have yhR := hR.lt
      have yhZ := hZ.lt
      go_wp2
      refine bodyPost_ret (v := .tuple #[.agg #[.string (bs d), .string (bs p), .int .i64 n], .int .i64 1]) (by simp [results, Tryd.results29, go_sem, r0, r1, r2]) rfl ?_
      exact ⟨by rw [HV.out], (by repeat (first | exact HB | exact Below.refl _ _ | refine Below.alloc ?_ (by first | exact Nat.le_refl _ | (have hsz := HB.size; simp; omega) | (simp <;> omega)) _ | refine Below.setCell ?_ (by first | exact Nat.le_refl _ | (simp <;> omega)) _))⟩
    · cases h6 : n == 60
      · have hv : apV d p n c r = .tuple #[.agg #[.string (bs d), .string (bs p ++ bs (lineL n c r ++ [10])), .int .i64 (n + 1)], .int .i64 0] := by simp [apV, apP, apN, apC, apOk, hl, ho, h6, bs_app]
        have henc : ∀ W, Tab W → Calls Tryd.prog 46 #[.int .i64 n, .agg #[.string (bs c), .string (bs r)]] W fun e w' => e = .returned (.string (bs (lineL n c r ++ [10]))) ∧ Below W.heap.size W w' := fun W hW => encodeRecord_is n (by omega) (by omega) c r ho W hW
        have s6 : (bs (lineL n c r ++ [10])).size ≤ 372 := by rw [bs_size]; have := lineL_len n0 (by omega) ho; simp; omega
        have HV := Lib.hid hv; have HL := Lib.hid hl; have HO := Lib.hid ho; have HE := Lib.hid henc; clear hv hl ho henc
        go_enter Tryd.func29, Tryd.ntmps29
        go_wp2_with fail
        refine (isValidLog_is d p n ht _ HL.out _ HT.out).mono ?_
        rintro e w1 ⟨rfl, hb1⟩
        have hq1 : Below w.heap.size w w1 := bth (by repeat (first | exact Below.refl _ _ | refine Below.alloc ?_ (by first | exact Nat.le_refl _ | (simp <;> omega)) _ | refine Below.setCell ?_ (by first | exact Nat.le_refl _ | (simp <;> omega)) _)) hb1
        have HB : Below w.heap.size w w1 := hq1
        have hB : Blk w1 (w.heap.size) 31 #[.string (bs d), .string (bs p), .int .i64 n] := Blk.below (by repeat (first | exact Blk.new _ _ _ | exact Blk.new2 _ _ _ _ | exact Blk.new3 _ _ _ _ _ | exact Blk.new4 _ _ _ _ _ _ | refine Blk.alloc ?_ _)) hb1 (by simp <;> omega)
        have q0 := (hB.cell 0).trans (show _ = some (.string (bs d)) from rfl)
        have q1 := (hB.cell 1).trans (show _ = some (.string (bs p)) from rfl)
        have q2 := (hB.cell 2).trans (show _ = some (.int .i64 n) from rfl)
        have hR : Blk w1 ((w.heap.size + 1)) 27 #[.string (bs c), .string (bs r)] := Blk.below (by repeat (first | exact Blk.new _ _ _ | exact Blk.new2 _ _ _ _ | exact Blk.new3 _ _ _ _ _ | exact Blk.new4 _ _ _ _ _ _ | refine Blk.alloc ?_ _)) hb1 (by simp <;> omega)
        have u0 := (hR.cell 0).trans (show _ = some (.string (bs c)) from rfl)
        have u1 := (hR.cell 1).trans (show _ = some (.string (bs r)) from rfl)
        have hZ : Blk w1 ((w.heap.size + 1 + 1)) 31 #[.string ⟨#[]⟩, .string ⟨#[]⟩, .int .i64 0] := Blk.below (by repeat (first | exact Blk.new _ _ _ | exact Blk.new2 _ _ _ _ | exact Blk.new3 _ _ _ _ _ | exact Blk.new4 _ _ _ _ _ _ | refine Blk.alloc ?_ _)) hb1 (by simp <;> omega)
        have z0 := (hZ.cell 0).trans (show _ = some (.string ⟨#[]⟩) from rfl)
        have z1 := (hZ.cell 1).trans (show _ = some (.string ⟨#[]⟩) from rfl)
        have z2 := (hZ.cell 2).trans (show _ = some (.int .i64 0) from rfl)
        go_wp2_with fail
        refine (isValidRecord_is (bs c) (bs r) s1 s2 _ HO.out _).mono ?_
        rintro e w2 ⟨rfl, hb2⟩
        have hq2 : Below w1.heap.size w1 w2 := bth (by repeat (first | exact Below.refl _ _ | refine Below.alloc ?_ (by first | exact Nat.le_refl _ | (simp <;> omega)) _ | refine Below.setCell ?_ (by first | exact Nat.le_refl _ | (simp <;> omega)) _)) hb2
        replace HB := bth HB hq2
        replace hB := hB.below hq2 hB.lt
        replace q0 := (hB.cell 0).trans (show _ = some (.string (bs d)) from rfl)
        replace q1 := (hB.cell 1).trans (show _ = some (.string (bs p)) from rfl)
        replace q2 := (hB.cell 2).trans (show _ = some (.int .i64 n) from rfl)
        replace hR := hR.below hq2 hR.lt
        replace u0 := (hR.cell 0).trans (show _ = some (.string (bs c)) from rfl)
        replace u1 := (hR.cell 1).trans (show _ = some (.string (bs r)) from rfl)
        replace hZ := hZ.below hq2 hZ.lt
        replace z0 := (hZ.cell 0).trans (show _ = some (.string ⟨#[]⟩) from rfl)
        replace z1 := (hZ.cell 1).trans (show _ = some (.string ⟨#[]⟩) from rfl)
        replace z2 := (hZ.cell 2).trans (show _ = some (.int .i64 0) from rfl)
        go_wp2
        have HT2 := Lib.hid (hT.below HB)
        clear q0 q1 q2
        have q0 := fun K : Kin w2.heap.size w2 => ((hB.below K.below hB.lt).cell 0).trans (show _ = some (.string (bs d)) from rfl)
        have q1 := fun K : Kin w2.heap.size w2 => ((hB.below K.below hB.lt).cell 1).trans (show _ = some (.string (bs p)) from rfl)
        have q2 := fun K : Kin w2.heap.size w2 => ((hB.below K.below hB.lt).cell 2).trans (show _ = some (.int .i64 n) from rfl)
        clear u0 u1
        have u0 := fun K : Kin w2.heap.size w2 => ((hR.below K.below hR.lt).cell 0).trans (show _ = some (.string (bs c)) from rfl)
        have u1 := fun K : Kin w2.heap.size w2 => ((hR.below K.below hR.lt).cell 1).trans (show _ = some (.string (bs r)) from rfl)
        clear z0 z1 z2
        have z0 := fun K : Kin w2.heap.size w2 => ((hZ.below K.below hZ.lt).cell 0).trans (show _ = some (.string ⟨#[]⟩) from rfl)
        have z1 := fun K : Kin w2.heap.size w2 => ((hZ.below K.below hZ.lt).cell 1).trans (show _ = some (.string ⟨#[]⟩) from rfl)
        have z2 := fun K : Kin w2.heap.size w2 => ((hZ.below K.below hZ.lt).cell 2).trans (show _ = some (.int .i64 0) from rfl)
        refine wp_region_kin_tail 13 (by kernel_rfl) (by kernel_rfl) ?_
        change wpQuiet _ _ _ _ (_ :: _ :: _ :: _ :: _ :: _ :: _ :: _ :: _ :: _ :: _ :: _ :: _ :: []) _
        repeat (go_big_quiet_step ((first | (go_at_call 46; exact Kin.call _ (by first | exact Nat.le_refl _ | omega) (encAny_is HE.out HT2.out _)))))
        refine wpQuiet_nil ?_
        intro K
        change wpList _ _ _ (_ :: _ :: []) _ _
        clear q0 q1 q2
        clear u0 u1
        clear z0 z1 z2
        have hq3 : Below w2.heap.size w2 K.world := bth (by repeat (first | exact Below.refl _ _ | refine Below.alloc ?_ (by first | exact Nat.le_refl _ | (simp <;> omega)) _ | refine Below.setCell ?_ (by first | exact Nat.le_refl _ | (simp <;> omega)) _)) K.below
        replace HB := bth HB hq3
        replace hB := hB.below hq3 hB.lt
        have q0 := (hB.cell 0).trans (show _ = some (.string (bs d)) from rfl)
        have q1 := (hB.cell 1).trans (show _ = some (.string (bs p)) from rfl)
        have q2 := (hB.cell 2).trans (show _ = some (.int .i64 n) from rfl)
        replace hR := hR.below hq3 hR.lt
        have u0 := (hR.cell 0).trans (show _ = some (.string (bs c)) from rfl)
        have u1 := (hR.cell 1).trans (show _ = some (.string (bs r)) from rfl)
        replace hZ := hZ.below hq3 hZ.lt
        have z0 := (hZ.cell 0).trans (show _ = some (.string ⟨#[]⟩) from rfl)
        have z1 := (hZ.cell 1).trans (show _ = some (.string ⟨#[]⟩) from rfl)
        have z2 := (hZ.cell 2).trans (show _ = some (.int .i64 0) from rfl)
        have yhZ0 := hZ.frozen 0
        have yhZ1 := hZ.frozen 1
        have yhZ2 := hZ.frozen 2
        have hF := (((hZ.set_ 0 (.string (bs d))).set_ 1 (.string (bs p ++ bs (lineL n c r ++ [10])))).set_ 2 (.int .i64 (n + 1)))
        have r0 := (hF.cell 0).trans (show _ = some (.string (bs d)) from rfl)
        have r1 := (hF.cell 1).trans (show _ = some (.string (bs p ++ bs (lineL n c r ++ [10]))) from rfl)
        have r2 := (hF.cell 2).trans (show _ = some (.int .i64 (n + 1)) from rfl)
        have hEW := (((HB.setCell (by show w.heap.size ≤ (w.heap.size + 1 + 1); omega) (.string (bs d)) (p := ⟨(w.heap.size + 1 + 1), 0, none⟩)).setCell (by show w.heap.size ≤ (w.heap.size + 1 + 1); omega) (.string (bs p ++ bs (lineL n c r ++ [10]))) (p := ⟨(w.heap.size + 1 + 1), 1, none⟩)).setCell (by show w.heap.size ≤ (w.heap.size + 1 + 1); omega) (.int .i64 (n + 1)) (p := ⟨(w.heap.size + 1 + 1), 2, none⟩))
        have yhB := hB.lt
        have yhR := hR.lt
        have yhZ := hZ.lt
        go_wp2
        refine bodyPost_ret (v := .tuple #[.agg #[.string (bs d), .string (bs p ++ bs (lineL n c r ++ [10])), .int .i64 (n + 1)], .int .i64 0]) (by simp [results, Tryd.results29, go_sem, r0, r1, r2]) rfl ?_
        exact ⟨by rw [HV.out], (by repeat (first | exact HB | exact Below.refl _ _ | refine Below.alloc ?_ (by first | exact Nat.le_refl _ | (have hsz := HB.size; simp; omega) | (simp <;> omega)) _ | refine Below.setCell ?_ (by first | exact Nat.le_refl _ | (simp <;> omega)) _))⟩
      · have hv : apV d p n c r = .tuple #[.agg #[.string (bs d), .string (bs p), .int .i64 n], .int .i64 2] := by simp [apV, apP, apN, apC, apOk, hl, ho, h6]
        have HV := Lib.hid hv; have HL := Lib.hid hl; have HO := Lib.hid ho; clear hv hl ho
        go_enter Tryd.func29, Tryd.ntmps29
        go_wp2_with fail
        refine (isValidLog_is d p n ht _ HL.out _ HT.out).mono ?_
        rintro e w1 ⟨rfl, hb1⟩
        have hq1 : Below w.heap.size w w1 := bth (by repeat (first | exact Below.refl _ _ | refine Below.alloc ?_ (by first | exact Nat.le_refl _ | (simp <;> omega)) _ | refine Below.setCell ?_ (by first | exact Nat.le_refl _ | (simp <;> omega)) _)) hb1
        have HB : Below w.heap.size w w1 := hq1
        have hB : Blk w1 (w.heap.size) 31 #[.string (bs d), .string (bs p), .int .i64 n] := Blk.below (by repeat (first | exact Blk.new _ _ _ | exact Blk.new2 _ _ _ _ | exact Blk.new3 _ _ _ _ _ | exact Blk.new4 _ _ _ _ _ _ | refine Blk.alloc ?_ _)) hb1 (by simp <;> omega)
        have q0 := (hB.cell 0).trans (show _ = some (.string (bs d)) from rfl)
        have q1 := (hB.cell 1).trans (show _ = some (.string (bs p)) from rfl)
        have q2 := (hB.cell 2).trans (show _ = some (.int .i64 n) from rfl)
        have hR : Blk w1 ((w.heap.size + 1)) 27 #[.string (bs c), .string (bs r)] := Blk.below (by repeat (first | exact Blk.new _ _ _ | exact Blk.new2 _ _ _ _ | exact Blk.new3 _ _ _ _ _ | exact Blk.new4 _ _ _ _ _ _ | refine Blk.alloc ?_ _)) hb1 (by simp <;> omega)
        have u0 := (hR.cell 0).trans (show _ = some (.string (bs c)) from rfl)
        have u1 := (hR.cell 1).trans (show _ = some (.string (bs r)) from rfl)
        have hZ : Blk w1 ((w.heap.size + 1 + 1)) 31 #[.string ⟨#[]⟩, .string ⟨#[]⟩, .int .i64 0] := Blk.below (by repeat (first | exact Blk.new _ _ _ | exact Blk.new2 _ _ _ _ | exact Blk.new3 _ _ _ _ _ | exact Blk.new4 _ _ _ _ _ _ | refine Blk.alloc ?_ _)) hb1 (by simp <;> omega)
        have z0 := (hZ.cell 0).trans (show _ = some (.string ⟨#[]⟩) from rfl)
        have z1 := (hZ.cell 1).trans (show _ = some (.string ⟨#[]⟩) from rfl)
        have z2 := (hZ.cell 2).trans (show _ = some (.int .i64 0) from rfl)
        go_wp2_with fail
        refine (isValidRecord_is (bs c) (bs r) s1 s2 _ HO.out _).mono ?_
        rintro e w2 ⟨rfl, hb2⟩
        have hq2 : Below w1.heap.size w1 w2 := bth (by repeat (first | exact Below.refl _ _ | refine Below.alloc ?_ (by first | exact Nat.le_refl _ | (simp <;> omega)) _ | refine Below.setCell ?_ (by first | exact Nat.le_refl _ | (simp <;> omega)) _)) hb2
        replace HB := bth HB hq2
        replace hB := hB.below hq2 hB.lt
        replace q0 := (hB.cell 0).trans (show _ = some (.string (bs d)) from rfl)
        replace q1 := (hB.cell 1).trans (show _ = some (.string (bs p)) from rfl)
        replace q2 := (hB.cell 2).trans (show _ = some (.int .i64 n) from rfl)
        replace hR := hR.below hq2 hR.lt
        replace u0 := (hR.cell 0).trans (show _ = some (.string (bs c)) from rfl)
        replace u1 := (hR.cell 1).trans (show _ = some (.string (bs r)) from rfl)
        replace hZ := hZ.below hq2 hZ.lt
        replace z0 := (hZ.cell 0).trans (show _ = some (.string ⟨#[]⟩) from rfl)
        replace z1 := (hZ.cell 1).trans (show _ = some (.string ⟨#[]⟩) from rfl)
        replace z2 := (hZ.cell 2).trans (show _ = some (.int .i64 0) from rfl)
        have yhZ0 := hZ.frozen 0
        have yhZ1 := hZ.frozen 1
        have yhZ2 := hZ.frozen 2
        have hF := (((hZ.set_ 0 (.string (bs d))).set_ 1 (.string (bs p))).set_ 2 (.int .i64 n))
        have r0 := (hF.cell 0).trans (show _ = some (.string (bs d)) from rfl)
        have r1 := (hF.cell 1).trans (show _ = some (.string (bs p)) from rfl)
        have r2 := (hF.cell 2).trans (show _ = some (.int .i64 n) from rfl)
        have hEW := (((HB.setCell (by show w.heap.size ≤ (w.heap.size + 1 + 1); omega) (.string (bs d)) (p := ⟨(w.heap.size + 1 + 1), 0, none⟩)).setCell (by show w.heap.size ≤ (w.heap.size + 1 + 1); omega) (.string (bs p)) (p := ⟨(w.heap.size + 1 + 1), 1, none⟩)).setCell (by show w.heap.size ≤ (w.heap.size + 1 + 1); omega) (.int .i64 n) (p := ⟨(w.heap.size + 1 + 1), 2, none⟩))
        have yhB := hB.lt
        have yhR := hR.lt
        have yhZ := hZ.lt
        go_wp2
        refine bodyPost_ret (v := .tuple #[.agg #[.string (bs d), .string (bs p), .int .i64 n], .int .i64 2]) (by simp [results, Tryd.results29, go_sem, r0, r1, r2]) rfl ?_
        exact ⟨by rw [HV.out], (by repeat (first | exact HB | exact Below.refl _ _ | refine Below.alloc ?_ (by first | exact Nat.le_refl _ | (have hsz := HB.size; simp; omega) | (simp <;> omega)) _ | refine Below.setCell ?_ (by first | exact Nat.le_refl _ | (simp <;> omega)) _))⟩
theorem lineAny_is {n : Int} {c r : L8} {ln : ByteArray} {w0 : World} (h : ∀ W, Calls Tryd.prog 44 #[.int .i64 n, .agg #[.string (bs c), .string (bs r)]] W fun e w' => e = .returned (.string ln) ∧ Below W.heap.size W w') (K : Kin w0.heap.size w0) :
  Calls Tryd.prog 44 #[.int .i64 n, .agg #[.string (bs c), .string (bs r)]] K.world fun e w' => e = .returned (.string ln) ∧ Below K.world.heap.size K.world w' := h _
set_option maxHeartbeats 4000000 in
set_option maxRecDepth 100000 in
theorem sAppendRecord_is (d p : L8) (n : Int) (ht : d.length + p.length ≤ 1048576) (c r : L8) (hc : c.length ≤ 1048576) (hr : r.length ≤ 1048576) (w : World) : Calls Tryd.prog 28 #[.agg #[.string (bs d), .string (bs p), .int .i64 n], .agg #[.string (bs c), .string (bs r)]] w fun e w' => e = .returned (apV d p n c r) ∧ Below w.heap.size w w' := by
  have s1 : (bs c).size ≤ 1048576 := by rw [bs_size]; exact hc
  have s2 : (bs r).size ≤ 1048576 := by rw [bs_size]; exact hr
  have s3 : (bs d).size + (bs p).size ≤ 1048576 := by rw [bs_size, bs_size]; exact ht
  have hd : d.length ≤ 1048576 := by omega
  have hp : p.length ≤ 1048576 := by omega
  cases hl : logS d p n
  · have hv : apV d p n c r = .tuple #[.agg #[.string (bs d), .string (bs p), .int .i64 n], .int .i64 1] := by simp [apV, apP, apN, apC, apOk, hl]
    have HV := Lib.hid hv; have HL := Lib.hid hl; clear hv hl
    go_enter Tryd.func28, Tryd.ntmps28
    go_wp2_with fail
    refine (l27Log_is d p n hd hp _ HL.out _).mono ?_
    rintro e w1 ⟨rfl, hb1⟩
    have hq1 : Below w.heap.size w w1 := bth (by repeat (first | exact Below.refl _ _ | refine Below.alloc ?_ (by first | exact Nat.le_refl _ | (simp <;> omega)) _ | refine Below.setCell ?_ (by first | exact Nat.le_refl _ | (simp <;> omega)) _)) hb1
    have HB : Below w.heap.size w w1 := hq1
    have hB : Blk w1 (w.heap.size) 31 #[.string (bs d), .string (bs p), .int .i64 n] := Blk.below (by repeat (first | exact Blk.new _ _ _ | exact Blk.new2 _ _ _ _ | exact Blk.new3 _ _ _ _ _ | exact Blk.new4 _ _ _ _ _ _ | refine Blk.alloc ?_ _)) hb1 (by simp <;> omega)
    have q0 := (hB.cell 0).trans (show _ = some (.string (bs d)) from rfl)
    have q1 := (hB.cell 1).trans (show _ = some (.string (bs p)) from rfl)
    have q2 := (hB.cell 2).trans (show _ = some (.int .i64 n) from rfl)
    have hZ : Blk w1 ((w.heap.size + 1 + 1)) 31 #[.string ⟨#[]⟩, .string ⟨#[]⟩, .int .i64 0] := Blk.below (by repeat (first | exact Blk.new _ _ _ | exact Blk.new2 _ _ _ _ | exact Blk.new3 _ _ _ _ _ | exact Blk.new4 _ _ _ _ _ _ | refine Blk.alloc ?_ _)) hb1 (by simp <;> omega)
    have z0 := (hZ.cell 0).trans (show _ = some (.string ⟨#[]⟩) from rfl)
    have z1 := (hZ.cell 1).trans (show _ = some (.string ⟨#[]⟩) from rfl)
    have z2 := (hZ.cell 2).trans (show _ = some (.int .i64 0) from rfl)
    have yhZ0 := hZ.frozen 0
    have yhZ1 := hZ.frozen 1
    have yhZ2 := hZ.frozen 2
    have hF := (((hZ.set_ 0 (.string (bs d))).set_ 1 (.string (bs p))).set_ 2 (.int .i64 n))
    have r0 := (hF.cell 0).trans (show _ = some (.string (bs d)) from rfl)
    have r1 := (hF.cell 1).trans (show _ = some (.string (bs p)) from rfl)
    have r2 := (hF.cell 2).trans (show _ = some (.int .i64 n) from rfl)
    have hEW := (((HB.setCell (by show w.heap.size ≤ (w.heap.size + 1 + 1); omega) (.string (bs d)) (p := ⟨(w.heap.size + 1 + 1), 0, none⟩)).setCell (by show w.heap.size ≤ (w.heap.size + 1 + 1); omega) (.string (bs p)) (p := ⟨(w.heap.size + 1 + 1), 1, none⟩)).setCell (by show w.heap.size ≤ (w.heap.size + 1 + 1); omega) (.int .i64 n) (p := ⟨(w.heap.size + 1 + 1), 2, none⟩))
    have yhB := hB.lt
    have yhZ := hZ.lt
    go_wp2
    refine bodyPost_ret (v := .tuple #[.agg #[.string (bs d), .string (bs p), .int .i64 n], .int .i64 1]) (by simp [results, Tryd.results28, go_sem, r0, r1, r2]) rfl ?_
    exact ⟨by rw [HV.out], (by repeat (first | exact HB | exact Below.refl _ _ | refine Below.alloc ?_ (by first | exact Nat.le_refl _ | (have hsz := HB.size; simp; omega) | (simp <;> omega)) _ | refine Below.setCell ?_ (by first | exact Nat.le_refl _ | (simp <;> omega)) _))⟩
  · obtain ⟨n0, n1, s4⟩ := logS_n hl
    have s5 : (bs d).size + (bs p).size ≤ 30000 := by rw [bs_size, bs_size]; exact s4
    cases ho : okL c r
    · have hv : apV d p n c r = .tuple #[.agg #[.string (bs d), .string (bs p), .int .i64 n], .int .i64 1] := by simp [apV, apP, apN, apC, apOk, hl, ho]
      have HV := Lib.hid hv; have HL := Lib.hid hl; have HO := Lib.hid ho; clear hv hl ho
      go_enter Tryd.func28, Tryd.ntmps28
      go_wp2_with fail
      refine (l27Log_is d p n hd hp _ HL.out _).mono ?_
      rintro e w1 ⟨rfl, hb1⟩
      have hq1 : Below w.heap.size w w1 := bth (by repeat (first | exact Below.refl _ _ | refine Below.alloc ?_ (by first | exact Nat.le_refl _ | (simp <;> omega)) _ | refine Below.setCell ?_ (by first | exact Nat.le_refl _ | (simp <;> omega)) _)) hb1
      have HB : Below w.heap.size w w1 := hq1
      have hB : Blk w1 (w.heap.size) 31 #[.string (bs d), .string (bs p), .int .i64 n] := Blk.below (by repeat (first | exact Blk.new _ _ _ | exact Blk.new2 _ _ _ _ | exact Blk.new3 _ _ _ _ _ | exact Blk.new4 _ _ _ _ _ _ | refine Blk.alloc ?_ _)) hb1 (by simp <;> omega)
      have q0 := (hB.cell 0).trans (show _ = some (.string (bs d)) from rfl)
      have q1 := (hB.cell 1).trans (show _ = some (.string (bs p)) from rfl)
      have q2 := (hB.cell 2).trans (show _ = some (.int .i64 n) from rfl)
      have hR : Blk w1 ((w.heap.size + 1)) 27 #[.string (bs c), .string (bs r)] := Blk.below (by repeat (first | exact Blk.new _ _ _ | exact Blk.new2 _ _ _ _ | exact Blk.new3 _ _ _ _ _ | exact Blk.new4 _ _ _ _ _ _ | refine Blk.alloc ?_ _)) hb1 (by simp <;> omega)
      have u0 := (hR.cell 0).trans (show _ = some (.string (bs c)) from rfl)
      have u1 := (hR.cell 1).trans (show _ = some (.string (bs r)) from rfl)
      have hZ : Blk w1 ((w.heap.size + 1 + 1)) 31 #[.string ⟨#[]⟩, .string ⟨#[]⟩, .int .i64 0] := Blk.below (by repeat (first | exact Blk.new _ _ _ | exact Blk.new2 _ _ _ _ | exact Blk.new3 _ _ _ _ _ | exact Blk.new4 _ _ _ _ _ _ | refine Blk.alloc ?_ _)) hb1 (by simp <;> omega)
      have z0 := (hZ.cell 0).trans (show _ = some (.string ⟨#[]⟩) from rfl)
      have z1 := (hZ.cell 1).trans (show _ = some (.string ⟨#[]⟩) from rfl)
      have z2 := (hZ.cell 2).trans (show _ = some (.int .i64 0) from rfl)
      go_wp2_with fail
      refine (l27Good_is (bs c) (bs r) s1 s2 _ HO.out _).mono ?_
      rintro e w2 ⟨rfl, hb2⟩
      have hq2 : Below w1.heap.size w1 w2 := bth (by repeat (first | exact Below.refl _ _ | refine Below.alloc ?_ (by first | exact Nat.le_refl _ | (simp <;> omega)) _ | refine Below.setCell ?_ (by first | exact Nat.le_refl _ | (simp <;> omega)) _)) hb2
      replace HB := bth HB hq2
      replace hB := hB.below hq2 hB.lt
      replace q0 := (hB.cell 0).trans (show _ = some (.string (bs d)) from rfl)
      replace q1 := (hB.cell 1).trans (show _ = some (.string (bs p)) from rfl)
      replace q2 := (hB.cell 2).trans (show _ = some (.int .i64 n) from rfl)
      replace hR := hR.below hq2 hR.lt
      replace u0 := (hR.cell 0).trans (show _ = some (.string (bs c)) from rfl)
      replace u1 := (hR.cell 1).trans (show _ = some (.string (bs r)) from rfl)
      replace hZ := hZ.below hq2 hZ.lt
      replace z0 := (hZ.cell 0).trans (show _ = some (.string ⟨#[]⟩) from rfl)
      replace z1 := (hZ.cell 1).trans (show _ = some (.string ⟨#[]⟩) from rfl)
      replace z2 := (hZ.cell 2).trans (show _ = some (.int .i64 0) from rfl)
      have yhZ0 := hZ.frozen 0
      have yhZ1 := hZ.frozen 1
      have yhZ2 := hZ.frozen 2
      have hF := (((hZ.set_ 0 (.string (bs d))).set_ 1 (.string (bs p))).set_ 2 (.int .i64 n))
      have r0 := (hF.cell 0).trans (show _ = some (.string (bs d)) from rfl)
      have r1 := (hF.cell 1).trans (show _ = some (.string (bs p)) from rfl)
      have r2 := (hF.cell 2).trans (show _ = some (.int .i64 n) from rfl)
      have hEW := (((HB.setCell (by show w.heap.size ≤ (w.heap.size + 1 + 1); omega) (.string (bs d)) (p := ⟨(w.heap.size + 1 + 1), 0, none⟩)).setCell (by show w.heap.size ≤ (w.heap.size + 1 + 1); omega) (.string (bs p)) (p := ⟨(w.heap.size + 1 + 1), 1, none⟩)).setCell (by show w.heap.size ≤ (w.heap.size + 1 + 1); omega) (.int .i64 n) (p := ⟨(w.heap.size + 1 + 1), 2, none⟩))
      have yhB := hB.lt
      have yhR := hR.lt
      have yhZ := hZ.lt
      go_wp2
      refine bodyPost_ret (v := .tuple #[.agg #[.string (bs d), .string (bs p), .int .i64 n], .int .i64 1]) (by simp [results, Tryd.results28, go_sem, r0, r1, r2]) rfl ?_
      exact ⟨by rw [HV.out], (by repeat (first | exact HB | exact Below.refl _ _ | refine Below.alloc ?_ (by first | exact Nat.le_refl _ | (have hsz := HB.size; simp; omega) | (simp <;> omega)) _ | refine Below.setCell ?_ (by first | exact Nat.le_refl _ | (simp <;> omega)) _))⟩
    · cases h6 : n == 60
      · have hv : apV d p n c r = .tuple #[.agg #[.string (bs d), .string (bs p ++ bs (lineL n c r ++ [10])), .int .i64 (n + 1)], .int .i64 0] := by simp [apV, apP, apN, apC, apOk, hl, ho, h6, bs_app]
        have henc : ∀ W, Calls Tryd.prog 44 #[.int .i64 n, .agg #[.string (bs c), .string (bs r)]] W fun e w' => e = .returned (.string (bs (lineL n c r ++ [10]))) ∧ Below W.heap.size W w' := fun W => l27Line_is n (by omega) (by omega) c r ho W
        have s6 : (bs (lineL n c r ++ [10])).size ≤ 372 := by rw [bs_size]; have := lineL_len n0 (by omega) ho; simp; omega
        have HV := Lib.hid hv; have HL := Lib.hid hl; have HO := Lib.hid ho; have HE := Lib.hid henc; clear hv hl ho henc
        generalize bs (lineL n c r ++ [10]) = ln at *
        go_enter Tryd.func28, Tryd.ntmps28
        go_wp2_with fail
        refine (l27Log_is d p n hd hp _ HL.out _).mono ?_
        rintro e w1 ⟨rfl, hb1⟩
        have hq1 : Below w.heap.size w w1 := bth (by repeat (first | exact Below.refl _ _ | refine Below.alloc ?_ (by first | exact Nat.le_refl _ | (simp <;> omega)) _ | refine Below.setCell ?_ (by first | exact Nat.le_refl _ | (simp <;> omega)) _)) hb1
        have HB : Below w.heap.size w w1 := hq1
        have hB : Blk w1 (w.heap.size) 31 #[.string (bs d), .string (bs p), .int .i64 n] := Blk.below (by repeat (first | exact Blk.new _ _ _ | exact Blk.new2 _ _ _ _ | exact Blk.new3 _ _ _ _ _ | exact Blk.new4 _ _ _ _ _ _ | refine Blk.alloc ?_ _)) hb1 (by simp <;> omega)
        have q0 := (hB.cell 0).trans (show _ = some (.string (bs d)) from rfl)
        have q1 := (hB.cell 1).trans (show _ = some (.string (bs p)) from rfl)
        have q2 := (hB.cell 2).trans (show _ = some (.int .i64 n) from rfl)
        have hR : Blk w1 ((w.heap.size + 1)) 27 #[.string (bs c), .string (bs r)] := Blk.below (by repeat (first | exact Blk.new _ _ _ | exact Blk.new2 _ _ _ _ | exact Blk.new3 _ _ _ _ _ | exact Blk.new4 _ _ _ _ _ _ | refine Blk.alloc ?_ _)) hb1 (by simp <;> omega)
        have u0 := (hR.cell 0).trans (show _ = some (.string (bs c)) from rfl)
        have u1 := (hR.cell 1).trans (show _ = some (.string (bs r)) from rfl)
        have hZ : Blk w1 ((w.heap.size + 1 + 1)) 31 #[.string ⟨#[]⟩, .string ⟨#[]⟩, .int .i64 0] := Blk.below (by repeat (first | exact Blk.new _ _ _ | exact Blk.new2 _ _ _ _ | exact Blk.new3 _ _ _ _ _ | exact Blk.new4 _ _ _ _ _ _ | refine Blk.alloc ?_ _)) hb1 (by simp <;> omega)
        have z0 := (hZ.cell 0).trans (show _ = some (.string ⟨#[]⟩) from rfl)
        have z1 := (hZ.cell 1).trans (show _ = some (.string ⟨#[]⟩) from rfl)
        have z2 := (hZ.cell 2).trans (show _ = some (.int .i64 0) from rfl)
        go_wp2_with fail
        refine (l27Good_is (bs c) (bs r) s1 s2 _ HO.out _).mono ?_
        rintro e w2 ⟨rfl, hb2⟩
        have hq2 : Below w1.heap.size w1 w2 := bth (by repeat (first | exact Below.refl _ _ | refine Below.alloc ?_ (by first | exact Nat.le_refl _ | (simp <;> omega)) _ | refine Below.setCell ?_ (by first | exact Nat.le_refl _ | (simp <;> omega)) _)) hb2
        replace HB := bth HB hq2
        replace hB := hB.below hq2 hB.lt
        replace q0 := (hB.cell 0).trans (show _ = some (.string (bs d)) from rfl)
        replace q1 := (hB.cell 1).trans (show _ = some (.string (bs p)) from rfl)
        replace q2 := (hB.cell 2).trans (show _ = some (.int .i64 n) from rfl)
        replace hR := hR.below hq2 hR.lt
        replace u0 := (hR.cell 0).trans (show _ = some (.string (bs c)) from rfl)
        replace u1 := (hR.cell 1).trans (show _ = some (.string (bs r)) from rfl)
        replace hZ := hZ.below hq2 hZ.lt
        replace z0 := (hZ.cell 0).trans (show _ = some (.string ⟨#[]⟩) from rfl)
        replace z1 := (hZ.cell 1).trans (show _ = some (.string ⟨#[]⟩) from rfl)
        replace z2 := (hZ.cell 2).trans (show _ = some (.int .i64 0) from rfl)
        go_wp2
        clear q0 q1 q2
        have q0 := fun K : Kin w2.heap.size w2 => ((hB.below K.below hB.lt).cell 0).trans (show _ = some (.string (bs d)) from rfl)
        have q1 := fun K : Kin w2.heap.size w2 => ((hB.below K.below hB.lt).cell 1).trans (show _ = some (.string (bs p)) from rfl)
        have q2 := fun K : Kin w2.heap.size w2 => ((hB.below K.below hB.lt).cell 2).trans (show _ = some (.int .i64 n) from rfl)
        clear u0 u1
        have u0 := fun K : Kin w2.heap.size w2 => ((hR.below K.below hR.lt).cell 0).trans (show _ = some (.string (bs c)) from rfl)
        have u1 := fun K : Kin w2.heap.size w2 => ((hR.below K.below hR.lt).cell 1).trans (show _ = some (.string (bs r)) from rfl)
        clear z0 z1 z2
        have z0 := fun K : Kin w2.heap.size w2 => ((hZ.below K.below hZ.lt).cell 0).trans (show _ = some (.string ⟨#[]⟩) from rfl)
        have z1 := fun K : Kin w2.heap.size w2 => ((hZ.below K.below hZ.lt).cell 1).trans (show _ = some (.string ⟨#[]⟩) from rfl)
        have z2 := fun K : Kin w2.heap.size w2 => ((hZ.below K.below hZ.lt).cell 2).trans (show _ = some (.int .i64 0) from rfl)
        refine wp_region_kin_tail 8 (by kernel_rfl) (by kernel_rfl) ?_
        change wpQuiet _ _ _ _ (_ :: _ :: _ :: _ :: _ :: _ :: _ :: _ :: []) _
        repeat (go_big_quiet_step ((first | (go_at_call 44; exact Kin.call _ (by first | exact Nat.le_refl _ | omega) (lineAny_is HE.out _)))))
        refine wpQuiet_nil ?_
        intro K
        change wpList _ _ _ (_ :: []) _ _
        clear q0 q1 q2
        clear u0 u1
        clear z0 z1 z2
        have hq3 : Below w2.heap.size w2 K.world := bth (by repeat (first | exact Below.refl _ _ | refine Below.alloc ?_ (by first | exact Nat.le_refl _ | (simp <;> omega)) _ | refine Below.setCell ?_ (by first | exact Nat.le_refl _ | (simp <;> omega)) _)) K.below
        replace HB := bth HB hq3
        replace hB := hB.below hq3 hB.lt
        have q0 := (hB.cell 0).trans (show _ = some (.string (bs d)) from rfl)
        have q1 := (hB.cell 1).trans (show _ = some (.string (bs p)) from rfl)
        have q2 := (hB.cell 2).trans (show _ = some (.int .i64 n) from rfl)
        replace hR := hR.below hq3 hR.lt
        have u0 := (hR.cell 0).trans (show _ = some (.string (bs c)) from rfl)
        have u1 := (hR.cell 1).trans (show _ = some (.string (bs r)) from rfl)
        replace hZ := hZ.below hq3 hZ.lt
        have z0 := (hZ.cell 0).trans (show _ = some (.string ⟨#[]⟩) from rfl)
        have z1 := (hZ.cell 1).trans (show _ = some (.string ⟨#[]⟩) from rfl)
        have z2 := (hZ.cell 2).trans (show _ = some (.int .i64 0) from rfl)
        have fhB1 := hB.frozen 1
        have yhB := hB.lt
        have yhR := hR.lt
        have yhZ := hZ.lt
        go_upto_region 6 with fail
        clear fhB1
        clear q0 q1 q2 u0 u1 z0 z1 z2
        replace HB : Below w.heap.size w (World.setCell K.world ⟨w.heap.size, 1, none⟩ (.string (bs p ++ ln))) := HB.setCell (by show w.heap.size ≤ w.heap.size; omega) _
        replace hB : Blk (World.setCell K.world ⟨w.heap.size, 1, none⟩ (.string (bs p ++ ln))) (w.heap.size) 31 #[.string (bs d), .string (bs p ++ ln), .int .i64 n] := hB.set_ 1 (.string (bs p ++ ln))
        replace hR := hR.far' (p := ⟨w.heap.size, 1, none⟩) (by show _ ≠ w.heap.size; omega) (.string (bs p ++ ln))
        replace hZ := hZ.far' (p := ⟨w.heap.size, 1, none⟩) (by show _ ≠ w.heap.size; omega) (.string (bs p ++ ln))
        generalize World.setCell K.world ⟨w.heap.size, 1, none⟩ (.string (bs p ++ ln)) = W1 at *
        have q0 := (hB.cell 0).trans (show _ = some (.string (bs d)) from rfl)
        have q1 := (hB.cell 1).trans (show _ = some (.string (bs p ++ ln)) from rfl)
        have q2 := (hB.cell 2).trans (show _ = some (.int .i64 n) from rfl)
        have u0 := (hR.cell 0).trans (show _ = some (.string (bs c)) from rfl)
        have u1 := (hR.cell 1).trans (show _ = some (.string (bs r)) from rfl)
        have z0 := (hZ.cell 0).trans (show _ = some (.string ⟨#[]⟩) from rfl)
        have z1 := (hZ.cell 1).trans (show _ = some (.string ⟨#[]⟩) from rfl)
        have z2 := (hZ.cell 2).trans (show _ = some (.int .i64 0) from rfl)
        have fhB2 := hB.frozen 2
        have yhB := hB.lt
        have yhR := hR.lt
        have yhZ := hZ.lt
        go_upto_region 7 with fail
        clear fhB2
        clear q0 q1 q2 u0 u1 z0 z1 z2
        replace HB : Below w.heap.size w (World.setCell W1 ⟨w.heap.size, 2, none⟩ (.int .i64 (n + 1))) := HB.setCell (by show w.heap.size ≤ w.heap.size; omega) _
        replace hB : Blk (World.setCell W1 ⟨w.heap.size, 2, none⟩ (.int .i64 (n + 1))) (w.heap.size) 31 #[.string (bs d), .string (bs p ++ ln), .int .i64 (n + 1)] := hB.set_ 2 (.int .i64 (n + 1))
        replace hR := hR.far' (p := ⟨w.heap.size, 2, none⟩) (by show _ ≠ w.heap.size; omega) (.int .i64 (n + 1))
        replace hZ := hZ.far' (p := ⟨w.heap.size, 2, none⟩) (by show _ ≠ w.heap.size; omega) (.int .i64 (n + 1))
        generalize World.setCell W1 ⟨w.heap.size, 2, none⟩ (.int .i64 (n + 1)) = W2 at *
        have q0 := (hB.cell 0).trans (show _ = some (.string (bs d)) from rfl)
        have q1 := (hB.cell 1).trans (show _ = some (.string (bs p ++ ln)) from rfl)
        have q2 := (hB.cell 2).trans (show _ = some (.int .i64 (n + 1)) from rfl)
        have u0 := (hR.cell 0).trans (show _ = some (.string (bs c)) from rfl)
        have u1 := (hR.cell 1).trans (show _ = some (.string (bs r)) from rfl)
        have z0 := (hZ.cell 0).trans (show _ = some (.string ⟨#[]⟩) from rfl)
        have z1 := (hZ.cell 1).trans (show _ = some (.string ⟨#[]⟩) from rfl)
        have z2 := (hZ.cell 2).trans (show _ = some (.int .i64 0) from rfl)
        have yhZ0 := hZ.frozen 0
        have yhZ1 := hZ.frozen 1
        have yhZ2 := hZ.frozen 2
        have hF := (((hZ.set_ 0 (.string (bs d))).set_ 1 (.string (bs p ++ ln))).set_ 2 (.int .i64 (n + 1)))
        have r0 := (hF.cell 0).trans (show _ = some (.string (bs d)) from rfl)
        have r1 := (hF.cell 1).trans (show _ = some (.string (bs p ++ ln)) from rfl)
        have r2 := (hF.cell 2).trans (show _ = some (.int .i64 (n + 1)) from rfl)
        have hEW := (((HB.setCell (by show w.heap.size ≤ (w.heap.size + 1 + 1); omega) (.string (bs d)) (p := ⟨(w.heap.size + 1 + 1), 0, none⟩)).setCell (by show w.heap.size ≤ (w.heap.size + 1 + 1); omega) (.string (bs p ++ ln)) (p := ⟨(w.heap.size + 1 + 1), 1, none⟩)).setCell (by show w.heap.size ≤ (w.heap.size + 1 + 1); omega) (.int .i64 (n + 1)) (p := ⟨(w.heap.size + 1 + 1), 2, none⟩))
        have yhB := hB.lt
        have yhR := hR.lt
        have yhZ := hZ.lt
        go_wp2
        refine bodyPost_ret (v := .tuple #[.agg #[.string (bs d), .string (bs p ++ ln), .int .i64 (n + 1)], .int .i64 0]) (by simp [results, Tryd.results28, go_sem, r0, r1, r2]) rfl ?_
        exact ⟨by rw [HV.out], (by repeat (first | exact HB | exact Below.refl _ _ | refine Below.alloc ?_ (by first | exact Nat.le_refl _ | (have hsz := HB.size; simp; omega) | (simp <;> omega)) _ | refine Below.setCell ?_ (by first | exact Nat.le_refl _ | (simp <;> omega)) _))⟩
      · have hv : apV d p n c r = .tuple #[.agg #[.string (bs d), .string (bs p), .int .i64 n], .int .i64 2] := by simp [apV, apP, apN, apC, apOk, hl, ho, h6]
        have HV := Lib.hid hv; have HL := Lib.hid hl; have HO := Lib.hid ho; clear hv hl ho
        go_enter Tryd.func28, Tryd.ntmps28
        go_wp2_with fail
        refine (l27Log_is d p n hd hp _ HL.out _).mono ?_
        rintro e w1 ⟨rfl, hb1⟩
        have hq1 : Below w.heap.size w w1 := bth (by repeat (first | exact Below.refl _ _ | refine Below.alloc ?_ (by first | exact Nat.le_refl _ | (simp <;> omega)) _ | refine Below.setCell ?_ (by first | exact Nat.le_refl _ | (simp <;> omega)) _)) hb1
        have HB : Below w.heap.size w w1 := hq1
        have hB : Blk w1 (w.heap.size) 31 #[.string (bs d), .string (bs p), .int .i64 n] := Blk.below (by repeat (first | exact Blk.new _ _ _ | exact Blk.new2 _ _ _ _ | exact Blk.new3 _ _ _ _ _ | exact Blk.new4 _ _ _ _ _ _ | refine Blk.alloc ?_ _)) hb1 (by simp <;> omega)
        have q0 := (hB.cell 0).trans (show _ = some (.string (bs d)) from rfl)
        have q1 := (hB.cell 1).trans (show _ = some (.string (bs p)) from rfl)
        have q2 := (hB.cell 2).trans (show _ = some (.int .i64 n) from rfl)
        have hR : Blk w1 ((w.heap.size + 1)) 27 #[.string (bs c), .string (bs r)] := Blk.below (by repeat (first | exact Blk.new _ _ _ | exact Blk.new2 _ _ _ _ | exact Blk.new3 _ _ _ _ _ | exact Blk.new4 _ _ _ _ _ _ | refine Blk.alloc ?_ _)) hb1 (by simp <;> omega)
        have u0 := (hR.cell 0).trans (show _ = some (.string (bs c)) from rfl)
        have u1 := (hR.cell 1).trans (show _ = some (.string (bs r)) from rfl)
        have hZ : Blk w1 ((w.heap.size + 1 + 1)) 31 #[.string ⟨#[]⟩, .string ⟨#[]⟩, .int .i64 0] := Blk.below (by repeat (first | exact Blk.new _ _ _ | exact Blk.new2 _ _ _ _ | exact Blk.new3 _ _ _ _ _ | exact Blk.new4 _ _ _ _ _ _ | refine Blk.alloc ?_ _)) hb1 (by simp <;> omega)
        have z0 := (hZ.cell 0).trans (show _ = some (.string ⟨#[]⟩) from rfl)
        have z1 := (hZ.cell 1).trans (show _ = some (.string ⟨#[]⟩) from rfl)
        have z2 := (hZ.cell 2).trans (show _ = some (.int .i64 0) from rfl)
        go_wp2_with fail
        refine (l27Good_is (bs c) (bs r) s1 s2 _ HO.out _).mono ?_
        rintro e w2 ⟨rfl, hb2⟩
        have hq2 : Below w1.heap.size w1 w2 := bth (by repeat (first | exact Below.refl _ _ | refine Below.alloc ?_ (by first | exact Nat.le_refl _ | (simp <;> omega)) _ | refine Below.setCell ?_ (by first | exact Nat.le_refl _ | (simp <;> omega)) _)) hb2
        replace HB := bth HB hq2
        replace hB := hB.below hq2 hB.lt
        replace q0 := (hB.cell 0).trans (show _ = some (.string (bs d)) from rfl)
        replace q1 := (hB.cell 1).trans (show _ = some (.string (bs p)) from rfl)
        replace q2 := (hB.cell 2).trans (show _ = some (.int .i64 n) from rfl)
        replace hR := hR.below hq2 hR.lt
        replace u0 := (hR.cell 0).trans (show _ = some (.string (bs c)) from rfl)
        replace u1 := (hR.cell 1).trans (show _ = some (.string (bs r)) from rfl)
        replace hZ := hZ.below hq2 hZ.lt
        replace z0 := (hZ.cell 0).trans (show _ = some (.string ⟨#[]⟩) from rfl)
        replace z1 := (hZ.cell 1).trans (show _ = some (.string ⟨#[]⟩) from rfl)
        replace z2 := (hZ.cell 2).trans (show _ = some (.int .i64 0) from rfl)
        have yhZ0 := hZ.frozen 0
        have yhZ1 := hZ.frozen 1
        have yhZ2 := hZ.frozen 2
        have hF := (((hZ.set_ 0 (.string (bs d))).set_ 1 (.string (bs p))).set_ 2 (.int .i64 n))
        have r0 := (hF.cell 0).trans (show _ = some (.string (bs d)) from rfl)
        have r1 := (hF.cell 1).trans (show _ = some (.string (bs p)) from rfl)
        have r2 := (hF.cell 2).trans (show _ = some (.int .i64 n) from rfl)
        have hEW := (((HB.setCell (by show w.heap.size ≤ (w.heap.size + 1 + 1); omega) (.string (bs d)) (p := ⟨(w.heap.size + 1 + 1), 0, none⟩)).setCell (by show w.heap.size ≤ (w.heap.size + 1 + 1); omega) (.string (bs p)) (p := ⟨(w.heap.size + 1 + 1), 1, none⟩)).setCell (by show w.heap.size ≤ (w.heap.size + 1 + 1); omega) (.int .i64 n) (p := ⟨(w.heap.size + 1 + 1), 2, none⟩))
        have yhB := hB.lt
        have yhR := hR.lt
        have yhZ := hZ.lt
        go_wp2
        refine bodyPost_ret (v := .tuple #[.agg #[.string (bs d), .string (bs p), .int .i64 n], .int .i64 2]) (by simp [results, Tryd.results28, go_sem, r0, r1, r2]) rfl ?_
        exact ⟨by rw [HV.out], (by repeat (first | exact HB | exact Below.refl _ _ | refine Below.alloc ?_ (by first | exact Nat.le_refl _ | (have hsz := HB.size; simp; omega) | (simp <;> omega)) _ | refine Below.setCell ?_ (by first | exact Nat.le_refl _ | (simp <;> omega)) _))⟩
end Go.Proofs.YtpejnfhenpdobaaDoor
