/- The log: CrashLog, by both. -/
import Derived.Test.YtpejnfhenpdobaaDoorLog11
import Derived.Laws.IdiomStrings
namespace Go.G9
open Go.RowKit
theorem bytes_get (s : ByteArray) (c : Nat) (i : Nat) (h : i < s.size) : (bytesRow s c)[i]? = some (.int .u8 (s[i].toNat : Int)) := by
  unfold bytesRow
  rw [Array.getElem?_append_left (by simp; exact h)]
  simp
  exact ⟨s[i], Array.getElem?_eq_getElem h, rfl⟩
theorem bytes_size (s : ByteArray) (c : Nat) : s.size ≤ (bytesRow s c).size := by
  unfold bytesRow; simp
/-- '[]byte(s)': a new row that holds the bytes. -/
theorem conv_bytes {P : Program} (w : World) (src dst e : TypeId) (s : ByteArray) (hs : P.underlying src = some .string) (hd : P.underlying dst = some (.slice e)) (he : P.underlying e = some (.int .u8)) :
    ∃ (cap : Nat) (C : Array Value), s.size ≤ C.size ∧ (∀ i (h : i < s.size), C[i]? = some (.int .u8 (s[i].toNat : Int))) ∧
      (convert src dst (.string s)).run P w = .ok (.slice (some ⟨w.heap.size, 0, none⟩) s.size cap) (w.drew.alloc (.cells C e (C.size, C.size + 1))) :=
  ⟨_, _, bytes_size s _, fun i h => bytes_get s _ i h, run_bytes_of_string w src dst e s hs hd he⟩
end Go.G9
namespace Go.Proofs.YtpejnfhenpdobaaDoor
open Go.RowKit Go.G9
/-- A row of bytes: its cells, none of them frozen. -/
structure BRow (w : World) (g : Nat) (l : L8) : Prop where
  lt : g < w.heap.size
  cell : ∀ i (h : i < l.length), w.cell? ⟨g, i, none⟩ = some (.int .u8 (l[i].toNat : Int))
  free : ∀ i, i < l.length → w.frozen? ⟨g, i, none⟩ = false
theorem BRow.new (w : World) (l : L8) (C : Array Value) (t : TypeId) (hs : (bs l).size ≤ C.size) (hC : ∀ i (h : i < (bs l).size), C[i]? = some (.int .u8 ((bs l)[i].toNat : Int))) : BRow (w.alloc (.cells C t (C.size, C.size + 1))) w.heap.size l := by
  have hz := bs_size l
  have hb : (w.alloc (.cells C t (C.size, C.size + 1))).heap[w.heap.size]? = some (.cells C t (C.size, C.size + 1)) := heap_alloc_new w _
  refine ⟨by simp, fun i h => ?_, fun i h => ?_⟩
  · rw [cell_of_row _ _ i C t _ hb, hC i (by omega), bs_get]
  · unfold World.frozen?
    simp only [hb]
    simp
    omega
theorem BRow.drew {w : World} {g : Nat} {l : L8} (h : BRow w g l) : BRow w.drew g l := ⟨h.lt, h.cell, h.free⟩
theorem BRow.bytes {w : World} {g : Nat} {l : L8} (h : BRow w g l) : Lib.Bytes w g 0 (bs l) := fun i hi => by
  have hz := bs_size l
  rw [Nat.zero_add, h.cell i (by omega), bs_get]
theorem BRow.set_ {w : World} {g : Nat} {l : L8} (h : BRow w g l) (j : Nat) (hj : j < l.length) (x : UInt8) : BRow (w.setCell ⟨g, j, none⟩ (.int .u8 (x.toNat : Int))) g (l.set j x) := by
  refine ⟨by have := h.lt; simpa [World.setCell] using this, fun i hi => ?_, fun i hi => ?_⟩
  · rw [List.length_set] at hi
    by_cases e : j = i
    · subst e
      rw [World.cell?_setCell_same (v := .int .u8 (x.toNat : Int)) (h := h.cell j hj)]
      simp
    · rw [World.cell?_setCell_other (h := by simp [e]), h.cell i hi, List.getElem_set_ne e]
  · rw [List.length_set] at hi
    rw [World.frozen?_setCell]
    exact h.free i hi
def crB (p : L8) (k : Int) (t : Bool) : L8 := if t && decide (0 < k) then (p.take k.toNat).set (k.toNat - 1) (255 - p.getD (k.toNat - 1) 0) else p.take k.toNat
def crOk (d p : L8) (n k : Int) : Bool := logS d p n && inB k 0 p.length
def crV (d p : L8) (n k : Int) (t : Bool) : Value := .tuple #[.string (if crOk d p n k then bs (d ++ crB p k t) else ⟨#[]⟩), .bool (crOk d p n k)]
theorem inv255 (x : UInt8) : ((255 - x).toNat : Int) = 255 - (x.toNat : Int) := by
  have := x.toNat_lt
  have h : x ≤ 255 := by rw [UInt8.le_iff_toNat_le]; show x.toNat ≤ 255; omega
  rw [UInt8.toNat_sub_of_le _ _ h]
  show (((255 - x.toNat : Nat)) : Int) = _
  omega
set_option maxHeartbeats 4000000 in
set_option maxRecDepth 100000 in
theorem iCrashLog_is (d p : L8) (n : Int) (ht : d.length + p.length ≤ 1048576) (k : Int) (t : Bool) (w : World) (hT : Tab w) : Calls Tryd.prog 25 #[.agg #[.string (bs d), .string (bs p), .int .i64 n], .int .i64 k, .bool t] w fun e w' => e = .returned (crV d p n k t) ∧ Below w.heap.size w w' := by
  have hsp := bs_size p
  have hsd := bs_size d
  have s3 : (bs d).size + (bs p).size ≤ 1048576 := by omega
  have hd : d.length ≤ 1048576 := by omega
  have hp : p.length ≤ 1048576 := by omega
  have hval : ∀ v, logS d p n = v → Calls Tryd.prog 23 #[.agg #[.string (bs d), .string (bs p), .int .i64 n]] (w.alloc (.cells #[.string (bs d), .string (bs p), .int .i64 n] 31)) fun e w' => e = .returned (.bool v) ∧ Below (w.alloc (.cells #[.string (bs d), .string (bs p), .int .i64 n] 31)).heap.size (w.alloc (.cells #[.string (bs d), .string (bs p), .int .i64 n] 31)) w' := fun v hv => isValidLog_is d p n ht v hv _ (hT.below (bl1 _ _))
  cases hl : logS d p n
  · have hv : crV d p n k t = .tuple #[.string ⟨#[]⟩, .bool false] := by simp [crV, crOk, hl]
    have HV := Lib.hid hv; have HX := Lib.hid (hval _ hl); clear hv hl hval hsp hsd
    go_enter Tryd.func25, Tryd.ntmps25
    go_wp2_with fail
    refine (HX.out).mono ?_
    rintro e w1 ⟨rfl, hb1⟩
    have hq1 : Below w.heap.size w w1 := bth (by repeat (first | exact Below.refl _ _ | refine Below.alloc ?_ (by first | exact Nat.le_refl _ | (simp <;> omega)) _ | refine Below.setCell ?_ (by first | exact Nat.le_refl _ | (simp <;> omega)) _)) hb1
    have HB : Below w.heap.size w w1 := hq1
    go_wp2
    go_ret2
    exact ⟨by rw [HV.out]; rfl, (bth HB (by repeat (first | exact Below.refl _ _ | refine Below.alloc ?_ (by first | exact Nat.le_refl _ | (simp <;> omega)) _ | refine Below.setCell ?_ (by first | exact Nat.le_refl _ | (simp <;> omega)) _)))⟩
  · cases hk : inB k 0 p.length
    · have hv : crV d p n k t = .tuple #[.string ⟨#[]⟩, .bool false] := by simp [crV, crOk, hl, hk]
      rw [← hsp] at hk
      have HV := Lib.hid hv; have HX := Lib.hid (hval _ hl); have HK := Lib.hid hk; clear hv hl hk hval hsp hsd
      go_enter Tryd.func25, Tryd.ntmps25
      go_wp2_with fail
      refine (HX.out).mono ?_
      rintro e w1 ⟨rfl, hb1⟩
      have hq1 : Below w.heap.size w w1 := bth (by repeat (first | exact Below.refl _ _ | refine Below.alloc ?_ (by first | exact Nat.le_refl _ | (simp <;> omega)) _ | refine Below.setCell ?_ (by first | exact Nat.le_refl _ | (simp <;> omega)) _)) hb1
      have HB : Below w.heap.size w w1 := hq1
      have hB : Blk w1 (w.heap.size) 31 #[.string (bs d), .string (bs p), .int .i64 n] := Blk.below (by repeat (first | exact Blk.new _ _ _ | exact Blk.new2 _ _ _ _ | exact Blk.new3 _ _ _ _ _ | exact Blk.new4 _ _ _ _ _ _ | refine Blk.alloc ?_ _)) hb1 (by simp <;> omega)
      have q0 := (hB.cell 0).trans (show _ = some (.string (bs d)) from rfl)
      have q1 := (hB.cell 1).trans (show _ = some (.string (bs p)) from rfl)
      have q2 := (hB.cell 2).trans (show _ = some (.int .i64 n) from rfl)
      go_wp2_with fail
      refine (inside_is _ _ _ _ HK.out _).mono ?_
      rintro e _ ⟨rfl, rfl⟩
      go_wp2
      go_ret2
      exact ⟨by rw [HV.out]; rfl, (bth HB (by repeat (first | exact Below.refl _ _ | refine Below.alloc ?_ (by first | exact Nat.le_refl _ | (simp <;> omega)) _ | refine Below.setCell ?_ (by first | exact Nat.le_refl _ | (simp <;> omega)) _)))⟩
    · have hv : crV d p n k t = .tuple #[.string (bs d ++ bs (crB p k t)), .bool true] := by simp [crV, crOk, hl, hk, bs_app]
      obtain ⟨k0, k1⟩ := inB_iff.1 hk
      rw [← hsp] at hk
      obtain ⟨m, rfl⟩ : ∃ m : Nat, k = m := ⟨k.toNat, by omega⟩
      have hm : m ≤ (bs p).size := by omega
      have hex : (bs p).extract 0 m = bs (p.take m) := by rw [bs_extract]; simp
      have hql : (p.take m).length = m := by simp; omega
      have hqs : (bs (p.take m)).size = m := by rw [bs_size, hql]
      have HV := Lib.hid hv; have HX := Lib.hid (hval _ hl); have HK := Lib.hid hk; have HEX := Lib.hid hex; have HQL := Lib.hid hql; have HQS := Lib.hid hqs; clear hv hl hk hval hsp hsd hex hql hqs k0 k1
      go_enter Tryd.func25, Tryd.ntmps25
      go_wp2_with fail
      refine (HX.out).mono ?_
      rintro e w1 ⟨rfl, hb1⟩
      have hq1 : Below w.heap.size w w1 := bth (by repeat (first | exact Below.refl _ _ | refine Below.alloc ?_ (by first | exact Nat.le_refl _ | (simp <;> omega)) _ | refine Below.setCell ?_ (by first | exact Nat.le_refl _ | (simp <;> omega)) _)) hb1
      have HB : Below w.heap.size w w1 := hq1
      have hB : Blk w1 (w.heap.size) 31 #[.string (bs d), .string (bs p), .int .i64 n] := Blk.below (by repeat (first | exact Blk.new _ _ _ | exact Blk.new2 _ _ _ _ | exact Blk.new3 _ _ _ _ _ | exact Blk.new4 _ _ _ _ _ _ | refine Blk.alloc ?_ _)) hb1 (by simp <;> omega)
      have q0 := (hB.cell 0).trans (show _ = some (.string (bs d)) from rfl)
      have q1 := (hB.cell 1).trans (show _ = some (.string (bs p)) from rfl)
      have q2 := (hB.cell 2).trans (show _ = some (.int .i64 n) from rfl)
      go_wp2_with fail
      refine (inside_is _ _ _ _ HK.out _).mono ?_
      rintro e w1' ⟨rfl, hw'⟩
      have hw2 := hw'.symm
      subst hw2
      obtain ⟨cap, C, hC1, hC2, hconv⟩ := conv_bytes (P := Tryd.prog) w1 9 53 5 (bs (p.take m)) Tryd.underlying9 Tryd.underlying53 Tryd.underlying5
      have hrow := BRow.new w1 (p.take m) C 5 hC1 hC2
      rw [HQS.out, ← HEX.out] at hconv
      have HROW := Lib.hid hrow; clear hrow hC1 hC2
      have yB := hB.lt
      go_upto_region 4 with fail
      clear hconv
      replace hB := (hB.alloc (.cells C 5 (C.size, C.size + 1))).drew
      replace HB := (HB.alloc (by omega) (.cells C 5 (C.size, C.size + 1))).drew
      have hrow := HROW.out.drew
      have hq := hq1
      clear HROW q0 q1 q2 hw' hb1 hq1
      generalize (w1.alloc (.cells C 5 (C.size, C.size + 1))).drew = W at *
      generalize w1.heap.size = g at *
      have q0 := (hB.cell 0).trans (show _ = some (.string (bs d)) from rfl)
      have yg := hrow.lt
      have hqs' : (bs (p.take m)).size ≤ 1048576 := by rw [HQS.out]; omega
      cases t
      · have hback := Lib.run_convert_whole (P := Tryd.prog) W 53 5 9 Tryd.underlying53 Tryd.underlying5 Tryd.underlying9 g 0 (bs (p.take m)) hrow.bytes cap
        rw [HQS.out] at hback
        have HR := Lib.hid hrow; clear hrow
        go_upto_region 6 with fail
        go_wp2
        go_ret2
        exact ⟨by rw [HV.out]; rfl, HB⟩
      · by_cases h0 : m = 0
        · have hno : ¬ 0 < m := by omega
          have hcr : crB p (m : Int) true = p.take m := by
            unfold crB
            rw [show decide ((0 : Int) < (m : Int)) = false from decide_eq_false (by omega)]; rfl
          have hback := Lib.run_convert_whole (P := Tryd.prog) W 53 5 9 Tryd.underlying53 Tryd.underlying5 Tryd.underlying9 g 0 (bs (p.take m)) hrow.bytes cap
          rw [HQS.out] at hback
          have HR := Lib.hid hrow; have HC := Lib.hid hcr; clear hrow hcr h0
          go_upto_region 6 with fail
          go_wp2
          go_ret2
          exact ⟨by rw [HV.out, HC.out]; rfl, HB⟩
        · have hm1 : m - 1 < (p.take m).length := by rw [HQL.out]; omega
          have cm := hrow.cell (m - 1) hm1
          have fm := hrow.free (m - 1) hm1
          have hx : (p.take m)[m - 1] = p.getD (m - 1) 0 := by
            rw [List.getElem_take, List.getD_eq_getElem?_getD, List.getElem?_eq_getElem (by simp at hm1; omega)]; rfl
          rw [hx] at cm
          have hcr : crB p (m : Int) true = (p.take m).set (m - 1) (255 - p.getD (m - 1) 0) := by
            unfold crB
            rw [show decide ((0 : Int) < (m : Int)) = true from decide_eq_true (by omega)]; rfl
          have hi := inv255 (p.getD (m - 1) 0)
          have hlt := (p.getD (m - 1) 0).toNat_lt
          generalize p.getD (m - 1) 0 = x at *
          have hrow2 := hrow.set_ (m - 1) hm1 (255 - x)
          have HI := Lib.hid hi; have HC := Lib.hid hcr; clear hcr
          have HR := Lib.hid hrow2; clear hrow hrow2 hi hx
          go_upto_region 6 with fail
          have hz : W.setCell ⟨g, m - 1, none⟩ (.int .u8 ((255 - x).toNat : Int)) = W.setCell ⟨g, m - 1, none⟩ (.int .u8 (255 - (x.toNat : Int))) := by rw [HI.out]
          have hrow2 := HR.out
          rw [hz] at hrow2
          have hg : w.heap.size ≤ g := by have := hq.size; omega
          have hBB := hB.far' (p := ⟨g, m - 1, none⟩) (by show w.heap.size ≠ g; omega) (.int .u8 (255 - (x.toNat : Int)))
          replace HB : Below w.heap.size w (W.setCell ⟨g, m - 1, none⟩ (.int .u8 (255 - (x.toNat : Int)))) := HB.setCell hg _
          clear hz HR hB q0 cm fm
          generalize W.setCell ⟨g, m - 1, none⟩ (.int .u8 (255 - (x.toNat : Int))) = W4 at *
          have q0 := (hBB.cell 0).trans (show _ = some (.string (bs d)) from rfl)
          have hback := Lib.run_convert_whole (P := Tryd.prog) W4 53 5 9 Tryd.underlying53 Tryd.underlying5 Tryd.underlying9 g 0 (bs ((p.take m).set (m - 1) (255 - x))) hrow2.bytes cap
          rw [bs_size, List.length_set, HQL.out] at hback
          have hqs' : (bs ((p.take m).set (m - 1) (255 - x))).size ≤ 1048576 := by rw [bs_size, List.length_set, HQL.out]; omega
          have HR := Lib.hid hrow2; clear hrow2
          go_wp2
          go_ret2
          exact ⟨by rw [HV.out, HC.out]; rfl, HB⟩
set_option maxHeartbeats 4000000 in
set_option maxRecDepth 100000 in
theorem sCrashLog_is (d p : L8) (n : Int) (ht : d.length + p.length ≤ 1048576) (k : Int) (t : Bool) (w : World) : Calls Tryd.prog 24 #[.agg #[.string (bs d), .string (bs p), .int .i64 n], .int .i64 k, .bool t] w fun e w' => e = .returned (crV d p n k t) ∧ Below w.heap.size w w' := by
  have hsp := bs_size p
  have hsd := bs_size d
  have s3 : (bs d).size + (bs p).size ≤ 1048576 := by omega
  have hd : d.length ≤ 1048576 := by omega
  have hp : p.length ≤ 1048576 := by omega
  have hval : ∀ v, logS d p n = v → Calls Tryd.prog 49 #[.agg #[.string (bs d), .string (bs p), .int .i64 n]] (w.alloc (.cells #[.string (bs d), .string (bs p), .int .i64 n] 31)) fun e w' => e = .returned (.bool v) ∧ Below (w.alloc (.cells #[.string (bs d), .string (bs p), .int .i64 n] 31)).heap.size (w.alloc (.cells #[.string (bs d), .string (bs p), .int .i64 n] 31)) w' := fun v hv => l27Log_is d p n hd hp v hv _
  cases hl : logS d p n
  · have hv : crV d p n k t = .tuple #[.string ⟨#[]⟩, .bool false] := by simp [crV, crOk, hl]
    have HV := Lib.hid hv; have HX := Lib.hid (hval _ hl); clear hv hl hval hsp hsd
    go_enter Tryd.func24, Tryd.ntmps24
    go_wp2_with fail
    refine (HX.out).mono ?_
    rintro e w1 ⟨rfl, hb1⟩
    have hq1 : Below w.heap.size w w1 := bth (by repeat (first | exact Below.refl _ _ | refine Below.alloc ?_ (by first | exact Nat.le_refl _ | (simp <;> omega)) _ | refine Below.setCell ?_ (by first | exact Nat.le_refl _ | (simp <;> omega)) _)) hb1
    have HB : Below w.heap.size w w1 := hq1
    go_wp2
    go_ret2
    exact ⟨by rw [HV.out]; rfl, (bth HB (by repeat (first | exact Below.refl _ _ | refine Below.alloc ?_ (by first | exact Nat.le_refl _ | (simp <;> omega)) _ | refine Below.setCell ?_ (by first | exact Nat.le_refl _ | (simp <;> omega)) _)))⟩
  · cases hk : inB k 0 p.length
    · have hv : crV d p n k t = .tuple #[.string ⟨#[]⟩, .bool false] := by simp [crV, crOk, hl, hk]
      rw [← hsp] at hk
      have HV := Lib.hid hv; have HX := Lib.hid (hval _ hl); have HK := Lib.hid hk; clear hv hl hk hval hsp hsd
      go_enter Tryd.func24, Tryd.ntmps24
      go_wp2_with fail
      refine (HX.out).mono ?_
      rintro e w1 ⟨rfl, hb1⟩
      have hq1 : Below w.heap.size w w1 := bth (by repeat (first | exact Below.refl _ _ | refine Below.alloc ?_ (by first | exact Nat.le_refl _ | (simp <;> omega)) _ | refine Below.setCell ?_ (by first | exact Nat.le_refl _ | (simp <;> omega)) _)) hb1
      have HB : Below w.heap.size w w1 := hq1
      have hB : Blk w1 (w.heap.size) 31 #[.string (bs d), .string (bs p), .int .i64 n] := Blk.below (by repeat (first | exact Blk.new _ _ _ | exact Blk.new2 _ _ _ _ | exact Blk.new3 _ _ _ _ _ | exact Blk.new4 _ _ _ _ _ _ | refine Blk.alloc ?_ _)) hb1 (by simp <;> omega)
      have q0 := (hB.cell 0).trans (show _ = some (.string (bs d)) from rfl)
      have q1 := (hB.cell 1).trans (show _ = some (.string (bs p)) from rfl)
      have q2 := (hB.cell 2).trans (show _ = some (.int .i64 n) from rfl)
      go_wp2_with fail
      refine (l1In_is _ _ _ _ HK.out _).mono ?_
      rintro e _ ⟨rfl, rfl⟩
      go_wp2
      go_ret2
      exact ⟨by rw [HV.out]; rfl, (bth HB (by repeat (first | exact Below.refl _ _ | refine Below.alloc ?_ (by first | exact Nat.le_refl _ | (simp <;> omega)) _ | refine Below.setCell ?_ (by first | exact Nat.le_refl _ | (simp <;> omega)) _)))⟩
    · have hv : crV d p n k t = .tuple #[.string (bs d ++ bs (crB p k t)), .bool true] := by simp [crV, crOk, hl, hk, bs_app]
      obtain ⟨k0, k1⟩ := inB_iff.1 hk
      rw [← hsp] at hk
      obtain ⟨m, rfl⟩ : ∃ m : Nat, k = m := ⟨k.toNat, by omega⟩
      have hm : m ≤ (bs p).size := by omega
      have hex : (bs p).extract 0 m = bs (p.take m) := by rw [bs_extract]; simp
      have hql : (p.take m).length = m := by simp; omega
      have hqs : (bs (p.take m)).size = m := by rw [bs_size, hql]
      have HV := Lib.hid hv; have HX := Lib.hid (hval _ hl); have HK := Lib.hid hk; have HEX := Lib.hid hex; have HQL := Lib.hid hql; have HQS := Lib.hid hqs; clear hv hl hk hval hsp hsd hex hql hqs k0 k1
      go_enter Tryd.func24, Tryd.ntmps24
      go_wp2_with fail
      refine (HX.out).mono ?_
      rintro e w1 ⟨rfl, hb1⟩
      have hq1 : Below w.heap.size w w1 := bth (by repeat (first | exact Below.refl _ _ | refine Below.alloc ?_ (by first | exact Nat.le_refl _ | (simp <;> omega)) _ | refine Below.setCell ?_ (by first | exact Nat.le_refl _ | (simp <;> omega)) _)) hb1
      have HB : Below w.heap.size w w1 := hq1
      have hB : Blk w1 (w.heap.size) 31 #[.string (bs d), .string (bs p), .int .i64 n] := Blk.below (by repeat (first | exact Blk.new _ _ _ | exact Blk.new2 _ _ _ _ | exact Blk.new3 _ _ _ _ _ | exact Blk.new4 _ _ _ _ _ _ | refine Blk.alloc ?_ _)) hb1 (by simp <;> omega)
      have q0 := (hB.cell 0).trans (show _ = some (.string (bs d)) from rfl)
      have q1 := (hB.cell 1).trans (show _ = some (.string (bs p)) from rfl)
      have q2 := (hB.cell 2).trans (show _ = some (.int .i64 n) from rfl)
      go_wp2_with fail
      refine (l1In_is _ _ _ _ HK.out _).mono ?_
      rintro e w1' ⟨rfl, hw'⟩
      have hw2 := hw'.symm
      subst hw2
      obtain ⟨cap, C, hC1, hC2, hconv⟩ := conv_bytes (P := Tryd.prog) w1 9 53 5 (bs (p.take m)) Tryd.underlying9 Tryd.underlying53 Tryd.underlying5
      have hrow := BRow.new w1 (p.take m) C 5 hC1 hC2
      rw [HQS.out, ← HEX.out] at hconv
      have HROW := Lib.hid hrow; clear hrow hC1 hC2
      have yB := hB.lt
      go_upto_region 4 with fail
      clear hconv
      replace hB := (hB.alloc (.cells C 5 (C.size, C.size + 1))).drew
      replace HB := (HB.alloc (by omega) (.cells C 5 (C.size, C.size + 1))).drew
      have hrow := HROW.out.drew
      have hq := hq1
      clear HROW q0 q1 q2 hw' hb1 hq1
      generalize (w1.alloc (.cells C 5 (C.size, C.size + 1))).drew = W at *
      generalize w1.heap.size = g at *
      have q0 := (hB.cell 0).trans (show _ = some (.string (bs d)) from rfl)
      have yg := hrow.lt
      have hqs' : (bs (p.take m)).size ≤ 1048576 := by rw [HQS.out]; omega
      cases t
      · have hback := Lib.run_convert_whole (P := Tryd.prog) W 53 5 9 Tryd.underlying53 Tryd.underlying5 Tryd.underlying9 g 0 (bs (p.take m)) hrow.bytes cap
        rw [HQS.out] at hback
        have HR := Lib.hid hrow; clear hrow
        go_upto_region 6 with fail
        go_wp2
        go_ret2
        exact ⟨by rw [HV.out]; rfl, HB⟩
      · by_cases h0 : m = 0
        · have hno : ¬ 0 < m := by omega
          have hcr : crB p (m : Int) true = p.take m := by
            unfold crB
            rw [show decide ((0 : Int) < (m : Int)) = false from decide_eq_false (by omega)]; rfl
          have hback := Lib.run_convert_whole (P := Tryd.prog) W 53 5 9 Tryd.underlying53 Tryd.underlying5 Tryd.underlying9 g 0 (bs (p.take m)) hrow.bytes cap
          rw [HQS.out] at hback
          have HR := Lib.hid hrow; have HC := Lib.hid hcr; clear hrow hcr h0
          go_upto_region 6 with fail
          go_wp2
          go_ret2
          exact ⟨by rw [HV.out, HC.out]; rfl, HB⟩
        · have hm1 : m - 1 < (p.take m).length := by rw [HQL.out]; omega
          have cm := hrow.cell (m - 1) hm1
          have fm := hrow.free (m - 1) hm1
          have hx : (p.take m)[m - 1] = p.getD (m - 1) 0 := by
            rw [List.getElem_take, List.getD_eq_getElem?_getD, List.getElem?_eq_getElem (by simp at hm1; omega)]; rfl
          rw [hx] at cm
          have hcr : crB p (m : Int) true = (p.take m).set (m - 1) (255 - p.getD (m - 1) 0) := by
            unfold crB
            rw [show decide ((0 : Int) < (m : Int)) = true from decide_eq_true (by omega)]; rfl
          have hi := inv255 (p.getD (m - 1) 0)
          have hlt := (p.getD (m - 1) 0).toNat_lt
          generalize p.getD (m - 1) 0 = x at *
          have hrow2 := hrow.set_ (m - 1) hm1 (255 - x)
          have HI := Lib.hid hi; have HC := Lib.hid hcr; clear hcr
          have HR := Lib.hid hrow2; clear hrow hrow2 hi hx
          go_upto_region 6 with fail
          have hz : W.setCell ⟨g, m - 1, none⟩ (.int .u8 ((255 - x).toNat : Int)) = W.setCell ⟨g, m - 1, none⟩ (.int .u8 (255 - (x.toNat : Int))) := by rw [HI.out]
          have hrow2 := HR.out
          rw [hz] at hrow2
          have hg : w.heap.size ≤ g := by have := hq.size; omega
          have hBB := hB.far' (p := ⟨g, m - 1, none⟩) (by show w.heap.size ≠ g; omega) (.int .u8 (255 - (x.toNat : Int)))
          replace HB : Below w.heap.size w (W.setCell ⟨g, m - 1, none⟩ (.int .u8 (255 - (x.toNat : Int)))) := HB.setCell hg _
          clear hz HR hB q0 cm fm
          generalize W.setCell ⟨g, m - 1, none⟩ (.int .u8 (255 - (x.toNat : Int))) = W4 at *
          have q0 := (hBB.cell 0).trans (show _ = some (.string (bs d)) from rfl)
          have hback := Lib.run_convert_whole (P := Tryd.prog) W4 53 5 9 Tryd.underlying53 Tryd.underlying5 Tryd.underlying9 g 0 (bs ((p.take m).set (m - 1) (255 - x))) hrow2.bytes cap
          rw [bs_size, List.length_set, HQL.out] at hback
          have hqs' : (bs ((p.take m).set (m - 1) (255 - x))).size ≤ 1048576 := by rw [bs_size, List.length_set, HQL.out]; omega
          have HR := Lib.hid hrow2; clear hrow2
          go_wp2
          go_ret2
          exact ⟨by rw [HV.out, HC.out]; rfl, HB⟩
end Go.Proofs.YtpejnfhenpdobaaDoor
