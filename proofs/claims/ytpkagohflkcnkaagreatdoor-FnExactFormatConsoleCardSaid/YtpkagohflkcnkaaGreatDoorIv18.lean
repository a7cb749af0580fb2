/- The log, by the program: is it a log? -/
import Derived.Test.YtpkagohflkcnkaaGreatDoorIv17
import Derived.Test.YtpkagohflkcnkaaGreatDoorIv0
import Derived.Deep.Cut
import Derived.Laws.IdiomStrings
import Derived.Test.YtpkagohflkcnkaaGreatDoorIv3
namespace Go.Proofs.YtpkagohflkcnkaaGreatDoor
open Go.RowKit Go.G9
theorem endsL_last (l : L8) : (endsL l)[(rdAll l).length]? = some ((endL l : Nat) : Int) := by
  unfold endL endOf endsL
  rw [List.getLastD_eq_getLast?, List.getLast?_eq_getElem?]
  have e : (0 : Int) :: (rdAll l).map asEnd = (0 :: (rdAll l).map (·.2.2)).map (fun (x : Nat) => (x : Int)) := by
    simp [asEnd]
  rw [e, List.getElem?_map]
  have : (0 :: (rdAll l).map (·.2.2)).length - 1 = (rdAll l).length := by simp
  rw [this]
  have h : (0 :: (rdAll l).map (·.2.2))[(rdAll l).length]? = some ((0 :: (rdAll l).map (·.2.2))[(rdAll l).length]'(by simp)) := List.getElem?_eq_getElem _
  rw [h]; rfl
theorem recsL_len (l : L8) : (recsL l).length = (rdAll l).length := by simp [recsL]
theorem endsL_len (l : L8) : (endsL l).length = (rdAll l).length + 1 := by simp [endsL]
theorem endsL_mem (l : L8) (m : Nat) : (m : Int) ∈ endsL l ↔ m ∈ 0 :: (rdAll l).map (·.2.2) := by
  have e : endsL l = (0 :: (rdAll l).map (·.2.2)).map (fun (x : Nat) => (x : Int)) := by simp [endsL, asEnd]
  rw [e, List.mem_map]
  constructor
  · rintro ⟨x, hx, h⟩
    have : x = m := by omega
    subst this; exact hx
  · exact fun h => ⟨m, h, rfl⟩
/-- The program's test is the reference's. -/
theorem logS_eq (d p : L8) (n : Int) : logS d p n = (((endL (d ++ p) : Nat) : Int) == ((d.length : Int) + (p.length : Int)) && ((recsL (d ++ p)).length : Int) == n && decide ((d.length : Int) ∈ endsL (d ++ p))) := by
  have h1 := endL_pre d p
  have h2 := endL_le (d ++ p)
  have h3 : decide ((d.length : Int) ∈ endsL (d ++ p)) = (((endL d : Nat) : Int) == (d.length : Int)) := by
    rw [Bool.eq_iff_iff, decide_eq_true_iff, beq_iff_eq, endsL_mem, ← h1]
    omega
  unfold logS
  rw [h3]
  by_cases ht : d.length + p.length ≤ 30000
  · rw [decide_eq_true ht, Bool.true_and, Bool.and_assoc, Bool.and_assoc, Bool.and_comm (((endL d : Nat) : Int) == (d.length : Int))]
  · rw [decide_eq_false ht]
    have : (((endL (d ++ p) : Nat) : Int) == ((d.length : Int) + (p.length : Int))) = false := by
      rw [beq_eq_false_iff_ne]; omega
    rw [this]; rfl
set_option maxHeartbeats 4000000 in
set_option maxRecDepth 100000 in
theorem isValidLog_is (d p : L8) (n : Int) (ht : d.length + p.length ≤ 1048576) (v : Bool) (hv : logS d p n = v) (w : World) (hT : Tab w) : Calls Tryz.prog 18 #[.agg #[.string (bs d), .string (bs p), .int .i64 n]] w fun e w' => e = .returned (.bool v) ∧ Below w.heap.size w w' := by
  subst hv
  have hsd := bs_size d
  have hsp := bs_size p
  have s3 : (bs d).size + (bs p).size ≤ 1048576 := by omega
  have hv : logS d p n = (((endL (d ++ p) : Nat) : Int) == (((bs d).size : Int) + ((bs p).size : Int)) && ((recsL (d ++ p)).length : Int) == n && decide (((bs d).size : Int) ∈ endsL (d ++ p))) := by
    rw [logS_eq, hsd, hsp]
  have hrd : ∀ W, Tab W → Calls Tryz.prog 44 #[.string (bs d ++ bs p)] W fun e w' => ∃ A c A' c', e = .returned (.tuple #[.slice A (recsL (d ++ p)).length c, .slice A' (endsL (d ++ p)).length c']) ∧
    OwnV W.heap.size 117 2 LRec.cells w' (.slice A (recsL (d ++ p)).length c) (recsL (d ++ p)) ∧ OwnV W.heap.size 3 1 intC w' (.slice A' (endsL (d ++ p)).length c') (endsL (d ++ p)) ∧ Below W.heap.size W w' := fun W hW => by
    rw [bs_app]; exact readRecords_is (d ++ p) (by simp; omega) W hW
  have l1 := recsL_len (d ++ p)
  have l2 := endsL_len (d ++ p)
  have l3 := rdAll_len (d ++ p)
  have hlast := endsL_last (d ++ p)
  rw [← l1] at hlast
  have l4 : (endsL (d ++ p)).length = (recsL (d ++ p)).length + 1 := by omega
  have l5 : (recsL (d ++ p)).length ≤ 60 := by omega
  generalize hR : recsL (d ++ p) = R at *
  generalize hE : endsL (d ++ p) = E at *
  generalize hN : ((endL (d ++ p) : Nat) : Int) = N at *
  have HRD := Lib.hid hrd; have HV := Lib.hid hv; have HL := Lib.hid hlast; clear hrd hv hlast hsd hsp l1 l2 l3 hR hE hN
  have l6 : R.length < E.length := by omega
  have l7 : E.length ≤ 61 := by omega
  have hT1 := hT.below (bl1 w (.cells #[.string (bs d), .string (bs p), .int .i64 n] 45))
  have HT := Lib.hid hT1; clear hT1
  have hcase : ∀ b1 b2, (N == (((bs d).size : Int) + ((bs p).size : Int))) = b1 → ((R.length : Int) == n) = b2 → Calls Tryz.prog 18 #[.agg #[.string (bs d), .string (bs p), .int .i64 n]] w fun e w' => e = .returned (.bool (b1 && b2 && decide (((bs d).size : Int) ∈ E))) ∧ Below w.heap.size w w' := by
    intro b1 b2 h1 h2
    have h1n : (N != (((bs d).size : Int) + ((bs p).size : Int))) = !b1 := by rw [bne, h1]
    have h2n : ((R.length : Int) != n) = !b2 := by rw [bne, h2]
    rcases hb : b1 && b2 with _ | _
    · have HB12 := Lib.hid hb; clear hb
      cases b1
      all_goals cases b2
      case true.true => cases HB12.out
      all_goals simp only [Bool.not_true, Bool.not_false] at h1n h2n
      all_goals
        go_enter Tryz.func18, Tryz.ntmps18
        go_wp2_with fail
        refine (HRD.out _ HT.out).mono ?_
        rintro e w1 ⟨A1, c1, A2, c2, rfl, hO, hE, hb1⟩
        have hq1 : Below w.heap.size w w1 := bth (by repeat (first | exact Below.refl _ _ | refine Below.alloc ?_ (by first | exact Nat.le_refl _ | (simp <;> omega)) _ | refine Below.setCell ?_ (by first | exact Nat.le_refl _ | (simp <;> omega)) _)) hb1
        have HB : Below w.heap.size w w1 := hq1
        have hL : Blk w1 (w.heap.size) 45 #[.string (bs d), .string (bs p), .int .i64 n] := Blk.below (by repeat (first | exact Blk.new _ _ _ | exact Blk.new2 _ _ _ _ | exact Blk.new3 _ _ _ _ _ | exact Blk.new4 _ _ _ _ _ _ | refine Blk.alloc ?_ _)) hb1 (by simp <;> omega)
        have b0 := (hL.cell 0).trans (show _ = some (.string (bs d)) from rfl)
        have b1 := (hL.cell 1).trans (show _ = some (.string (bs p)) from rfl)
        have b2 := (hL.cell 2).trans (show _ = some (.int .i64 n) from rfl)
        obtain ⟨g2, off2, rfl, hlt2, hcx⟩ := hE.rds (hf := intC_len) (by omega)
        have f0 := hcx _ _ HL.out 0 _ rfl
        simp only [Nat.mul_one, Nat.add_zero] at f0
        have yhL := hL.lt
        go_wp2
        go_ret
        exact ⟨rfl, (bth HB (by repeat (first | exact Below.refl _ _ | refine Below.alloc ?_ (by first | exact Nat.le_refl _ | (simp <;> omega)) _ | refine Below.setCell ?_ (by first | exact Nat.le_refl _ | (simp <;> omega)) _)))⟩
    · obtain ⟨rfl, rfl⟩ : b1 = true ∧ b2 = true := by simpa using hb
      clear hb
      simp only [Bool.not_true] at h1n h2n
      go_enter Tryz.func18, Tryz.ntmps18
      go_wp2_with fail
      refine (HRD.out _ HT.out).mono ?_
      rintro e w1 ⟨A1, c1, A2, c2, rfl, hO, hE, hb1⟩
      have hq1 : Below w.heap.size w w1 := bth (by repeat (first | exact Below.refl _ _ | refine Below.alloc ?_ (by first | exact Nat.le_refl _ | (simp <;> omega)) _ | refine Below.setCell ?_ (by first | exact Nat.le_refl _ | (simp <;> omega)) _)) hb1
      have HB : Below w.heap.size w w1 := hq1
      have hL : Blk w1 (w.heap.size) 45 #[.string (bs d), .string (bs p), .int .i64 n] := Blk.below (by repeat (first | exact Blk.new _ _ _ | exact Blk.new2 _ _ _ _ | exact Blk.new3 _ _ _ _ _ | exact Blk.new4 _ _ _ _ _ _ | refine Blk.alloc ?_ _)) hb1 (by simp <;> omega)
      have b0 := (hL.cell 0).trans (show _ = some (.string (bs d)) from rfl)
      have b1 := (hL.cell 1).trans (show _ = some (.string (bs p)) from rfl)
      have b2 := (hL.cell 2).trans (show _ = some (.int .i64 n) from rfl)
      obtain ⟨g2, off2, rfl, hlt2, hcx⟩ := hE.rds (hf := intC_len) (by omega)
      have f0 := hcx _ _ HL.out 0 _ rfl
      simp only [Nat.mul_one, Nat.add_zero] at f0
      have yhL := hL.lt
      go_wp2
      go_loop [35] (fun i => ∃ k : Nat, k ≤ E.length ∧ i = .int .i64 k ∧ ∀ j, j < k → E[j]? ≠ some ((bs d).size : Int)) (fun i => E.length - (intOf i).toNat)
      case atStart => exact ⟨0, Nat.zero_le _, rfl, fun j hj => absurd hj (Nat.not_lt_zero _)⟩
      case round =>
        obtain ⟨k, hk, rfl, hno⟩ := hrel
        have HNO := Lib.hid hno; clear hno
        by_cases hlt : k < E.length
        · have hx : E[k]? = some E[k] := List.getElem?_eq_getElem hlt
          generalize E[k] = x at hx
          have f1 := hcx k x hx 0 _ rfl
          simp only [Nat.mul_one, Nat.add_zero] at f1
          have HX := Lib.hid hx; clear hx
          cases he : (x == ((bs d).size : Int))
          · have HE := Lib.hid he
            go_wp2
            go_round
            case rel =>
              refine ⟨k + 1, by omega, by go_num, fun j hj => ?_⟩
              rcases Nat.lt_or_ge j k with h | h
              · exact HNO.out j h
              · obtain rfl : j = k := by omega
                rw [HX.out]
                intro h2; injection h2 with h2
                exact beq_eq_false_iff_ne.1 HE.out h2
            case measure => simp [intOf]; omega
          · have HE := Lib.hid he
            go_wp2
            go_ret
            have hm : ((bs d).size : Int) ∈ E := List.mem_of_getElem? (by rw [HX.out, beq_iff_eq.1 HE.out])
            exact ⟨by rw [decide_eq_true hm]; rfl, (bth HB (by repeat (first | exact Below.refl _ _ | refine Below.alloc ?_ (by first | exact Nat.le_refl _ | (simp <;> omega)) _ | refine Below.setCell ?_ (by first | exact Nat.le_refl _ | (simp <;> omega)) _)))⟩
        · obtain rfl : k = E.length := by omega
          go_wp2
          go_ret
          have hm : ¬ ((bs d).size : Int) ∈ E := fun h => by
            obtain ⟨j, hj⟩ := List.getElem?_of_mem h
            exact HNO.out j (List.getElem?_eq_some_iff.1 hj).1 hj
          exact ⟨by rw [decide_eq_false hm]; rfl, (bth HB (by repeat (first | exact Below.refl _ _ | refine Below.alloc ?_ (by first | exact Nat.le_refl _ | (simp <;> omega)) _ | refine Below.setCell ?_ (by first | exact Nat.le_refl _ | (simp <;> omega)) _)))⟩
  have := hcase _ _ rfl rfl
  rw [HV.out]; exact this
end Go.Proofs.YtpkagohflkcnkaaGreatDoor
/- The log: SyncLog, RecoverLog, by both. -/
namespace Go.Proofs.YtpkagohflkcnkaaGreatDoor
open Go.RowKit Go.G9
def syncV (d p : L8) (n : Int) : Value := if logS d p n then .agg #[.string (bs d ++ bs p), .string ⟨#[]⟩, .int .i64 n] else .agg #[.string ⟨#[]⟩, .string ⟨#[]⟩, .int .i64 0]
end Go.Proofs.YtpkagohflkcnkaaGreatDoor
/- The log: RecoverLog and LogRecords, by both. -/
namespace Go.Proofs.YtpkagohflkcnkaaGreatDoor
open Go.RowKit Go.G9
def recL (l : L8) : L8 := if l.length ≤ 30000 then l.take (endL l) else []
def recN (l : L8) : Nat := if l.length ≤ 30000 then (recsL l).length else 0
def recE (l : L8) : Nat := if l.length ≤ 30000 then endL l else 0
def recV (l : L8) : Value := .tuple #[.agg #[.string (bs (recL l)), .string (bs []), .int .i64 (recN l : Nat)], .int .i64 (recE l : Nat), .bool (decide (l.length ≤ 30000))]
theorem recV_no {l : L8} (h : ¬ l.length ≤ 30000) : recV l = .tuple #[.agg #[.string ⟨#[]⟩, .string ⟨#[]⟩, .int .i64 0], .int .i64 0, .bool false] := by
  unfold recV recL recN recE
  rw [if_neg h, if_neg h, if_neg h, decide_eq_false h]; rfl
theorem recV_yes {l : L8} (h : l.length ≤ 30000) : recV l = .tuple #[.agg #[.string ((bs l).extract 0 (endL l)), .string ⟨#[]⟩, .int .i64 ((recsL l).length : Nat)], .int .i64 (endL l : Nat), .bool true] := by
  unfold recV recL recN recE
  rw [if_pos h, if_pos h, if_pos h, decide_eq_true h, bs_extract]
  rfl
def lrL (d p : L8) (n : Int) : List LRec := if logS d p n then recsL (d ++ p) else []
theorem lrL_len (d p : L8) (n : Int) : (lrL d p n).length ≤ 60 := by
  unfold lrL
  split
  · rw [recsL_len]; exact rdAll_len _
  · simp
end Go.Proofs.YtpkagohflkcnkaaGreatDoor
/- The log: EncodeRecord and AppendRecord, by both. -/
namespace Go.Proofs.YtpkagohflkcnkaaGreatDoor
open Go.RowKit Go.G9
def encOk (k : Int) (c r : L8) : Bool := inB k 0 59 && okL c r
def encV (k : Int) (c r : L8) : Value := .tuple #[.string (if encOk k c r then bs (lineL k c r ++ [10]) else ⟨#[]⟩), .bool (encOk k c r)]
/-- What an append answers. -/
def apOk (d p : L8) (n : Int) (c r : L8) : Bool := logS d p n && okL c r
def apP (d p : L8) (n : Int) (c r : L8) : L8 := if apOk d p n c r && !(n == 60) then p ++ (lineL n c r ++ [10]) else p
def apN (d p : L8) (n : Int) (c r : L8) : Int := if apOk d p n c r && !(n == 60) then n + 1 else n
def apC (d p : L8) (n : Int) (c r : L8) : Int := if apOk d p n c r then (if n == 60 then 2 else 0) else 1
def apV (d p : L8) (n : Int) (c r : L8) : Value := .tuple #[.agg #[.string (bs d), .string (bs (apP d p n c r)), .int .i64 (apN d p n c r)], .int .i64 (apC d p n c r)]
theorem logS_n {d p : L8} {n : Int} (h : logS d p n = true) : 0 ≤ n ∧ n ≤ 60 ∧ d.length + p.length ≤ 30000 := by
  unfold logS at h
  simp only [Bool.and_eq_true, decide_eq_true_eq, beq_iff_eq] at h
  have h1 := recsL_len (d ++ p)
  have h2 := rdAll_len (d ++ p)
  omega
end Go.Proofs.YtpkagohflkcnkaaGreatDoor
/- The log: CrashLog, by both. -/
namespace Go.G9
open Go.RowKit
theorem bytes_get (s : ByteArray) (c : Nat) (i : Nat) (h : i < s.size) : (bytesRow s c)[i]? = some (.int .u8 (s[i].toNat : Int)) := by
  unfold bytesRow
  rw [Array.getElem?_append_left (by simp; exact h)]
  simp
  exact ⟨s[i], Array.getElem?_eq_getElem h, rfl⟩
theorem bytes_size (s : ByteArray) (c : Nat) : s.size ≤ (bytesRow s c).size := by
  unfold bytesRow; simp
/-- '[]byte(s)': a new row that holds the bytes. -/
theorem conv_bytes {P : Program} (w : World) (src dst e : TypeId) (s : ByteArray) (hs : P.underlying src = some .string) (hd : P.underlying dst = some (.slice e)) (he : P.underlying e = some (.int .u8)) :
    ∃ (cap : Nat) (C : Array Value), s.size ≤ C.size ∧ (∀ i (h : i < s.size), C[i]? = some (.int .u8 (s[i].toNat : Int))) ∧
      (convert src dst (.string s)).run P w = .ok (.slice (some ⟨w.heap.size, 0, none⟩) s.size cap) (w.drew.alloc (.cells C e (C.size, C.size + 1))) :=
  ⟨_, _, bytes_size s _, fun i h => bytes_get s _ i h, run_bytes_of_string w src dst e s hs hd he⟩
end Go.G9
namespace Go.Proofs.YtpkagohflkcnkaaGreatDoor
open Go.RowKit Go.G9
/-- A row of bytes: its cells, none of them frozen. -/
structure BRow (w : World) (g : Nat) (l : L8) : Prop where
  lt : g < w.heap.size
  cell : ∀ i (h : i < l.length), w.cell? ⟨g, i, none⟩ = some (.int .u8 (l[i].toNat : Int))
  free : ∀ i, i < l.length → w.frozen? ⟨g, i, none⟩ = false
theorem BRow.new (w : World) (l : L8) (C : Array Value) (t : TypeId) (hs : (bs l).size ≤ C.size) (hC : ∀ i (h : i < (bs l).size), C[i]? = some (.int .u8 ((bs l)[i].toNat : Int))) : BRow (w.alloc (.cells C t (C.size, C.size + 1))) w.heap.size l := by
  have hz := bs_size l
  have hb : (w.alloc (.cells C t (C.size, C.size + 1))).heap[w.heap.size]? = some (.cells C t (C.size, C.size + 1)) := heap_alloc_new w _
  refine ⟨by simp, fun i h => ?_, fun i h => ?_⟩
  · rw [cell_of_row _ _ i C t _ hb, hC i (by omega), bs_get]
  · unfold World.frozen?
    simp only [hb]
    simp
    omega
theorem BRow.drew {w : World} {g : Nat} {l : L8} (h : BRow w g l) : BRow w.drew g l := ⟨h.lt, h.cell, h.free⟩
theorem BRow.bytes {w : World} {g : Nat} {l : L8} (h : BRow w g l) : Lib.Bytes w g 0 (bs l) := fun i hi => by
  have hz := bs_size l
  rw [Nat.zero_add, h.cell i (by omega), bs_get]
theorem BRow.set_ {w : World} {g : Nat} {l : L8} (h : BRow w g l) (j : Nat) (hj : j < l.length) (x : UInt8) : BRow (w.setCell ⟨g, j, none⟩ (.int .u8 (x.toNat : Int))) g (l.set j x) := by
  refine ⟨by have := h.lt; simpa [World.setCell] using this, fun i hi => ?_, fun i hi => ?_⟩
  · rw [List.length_set] at hi
    by_cases e : j = i
    · subst e
      rw [World.cell?_setCell_same (v := .int .u8 (x.toNat : Int)) (h := h.cell j hj)]
      simp
    · rw [World.cell?_setCell_other (h := by simp [e]), h.cell i hi, List.getElem_set_ne e]
  · rw [List.length_set] at hi
    rw [World.frozen?_setCell]
    exact h.free i hi
def crB (p : L8) (k : Int) (t : Bool) : L8 := if t && decide (0 < k) then (p.take k.toNat).set (k.toNat - 1) (255 - p.getD (k.toNat - 1) 0) else p.take k.toNat
def crOk (d p : L8) (n k : Int) : Bool := logS d p n && inB k 0 p.length
def crV (d p : L8) (n k : Int) (t : Bool) : Value := .tuple #[.string (if crOk d p n k then bs (d ++ crB p k t) else ⟨#[]⟩), .bool (crOk d p n k)]
theorem inv255 (x : UInt8) : ((255 - x).toNat : Int) = 255 - (x.toNat : Int) := by
  have := x.toNat_lt
  have h : x ≤ 255 := by rw [UInt8.le_iff_toNat_le]; show x.toNat ≤ 255; omega
  rw [UInt8.toNat_sub_of_le _ _ h]
  show (((255 - x.toNat : Nat)) : Int) = _
  omega
end Go.Proofs.YtpkagohflkcnkaaGreatDoor
/- The log's laws: what goes in and what comes out, sized, copied, compared, marked. -/
namespace Go.Proofs.YtpkagohflkcnkaaGreatDoor
open Go.RowKit Go.G9
structure LogT where
  dur : ByteArray
  pen : ByteArray
  cnt : Int
def LogT.cells (x : LogT) : List Value := [.string x.dur, .string x.pen, .int .i64 x.cnt]
theorem szLog_is (x : LogT) (hd : x.dur.size ≤ maxLen) (hp : x.pen.size ≤ maxLen) (l : Int) (h0 : 0 ≤ l) (h1 : l ≤ 1048576) (w : World) :
  Calls Tryz.prog 13 #[.agg #[.string x.dur, .string x.pen, .int .i64 x.cnt], .int .i64 l] w fun e w' => ∃ q : Int, e = .returned (.int .i64 q) ∧ -1 ≤ q ∧ q ≤ l ∧ (q < 0 ∨ x.dur.size + x.pen.size ≤ l) ∧ Below w.heap.size w w' := by
  unfold maxLen at hd hp
  go_enter Tryz.func13, Tryz.ntmps13
  go_wp2
  all_goals go_ret
  all_goals exact ⟨_, rfl, by omega, by omega, by omega, bl1 _ _⟩
theorem toLog_is (x : LogT) (_h : x.dur.size + x.pen.size ≤ 1048576) (w : World) : Calls Tryz.prog 16 #[.agg #[.string x.dur, .string x.pen, .int .i64 x.cnt]] w fun e w' => e = .returned (.agg #[.string x.dur, .string x.pen, .int .i64 x.cnt]) ∧ Below w.heap.size w w' := by
  go_enter Tryz.func16, Tryz.ntmps16
  go_wp2
  exact bodyPost_ret (v := .agg #[.string x.dur, .string x.pen, .int .i64 x.cnt]) (by simp [results, Tryz.results16, go_sem]) rfl ⟨rfl, bl3 _ _ _ _⟩
theorem eqLog_is (x : LogT) (w : World) : Calls Tryz.prog 20 #[.agg #[.string x.dur, .string x.pen, .int .i64 x.cnt], .agg #[.string x.dur, .string x.pen, .int .i64 x.cnt]] w fun e w' => e = .returned (.bool true) ∧ Below w.heap.size w w' := by
  go_enter Tryz.func20, Tryz.ntmps20
  go_wp2
  go_ret
  exact ⟨rfl, bl2 _ _ _⟩
/-- A log's parts as lists of bytes. -/
def LogT.d (x : LogT) : L8 := x.dur.data.toList
def LogT.p (x : LogT) : L8 := x.pen.data.toList
theorem LogT.len (x : LogT) (h : x.dur.size + x.pen.size ≤ 1048576) : x.d.length + x.p.length ≤ 1048576 := by
  unfold LogT.d LogT.p; rw [Array.length_toList, Array.length_toList]; exact h
theorem bs_d (x : LogT) : bs x.d = x.dur := bs_of _
theorem bs_p (x : LogT) : bs x.p = x.pen := bs_of _
def LRec.c (x : LRec) : L8 := x.cmd.data.toList
def LRec.r (x : LRec) : L8 := x.rep.data.toList
theorem bs_c (x : LRec) : bs x.c = x.cmd := bs_of _
theorem bs_r (x : LRec) : bs x.r = x.rep := bs_of _
theorem LRec.clen (x : LRec) (h : x.cmd.size ≤ 1048576) : x.c.length ≤ 1048576 := by unfold LRec.c; rw [Array.length_toList]; exact h
theorem LRec.rlen (x : LRec) (h : x.rep.size ≤ 1048576) : x.r.length ≤ 1048576 := by unfold LRec.r; rw [Array.length_toList]; exact h
theorem iIsValidLogR_is (x : LogT) (h : x.dur.size + x.pen.size ≤ 1048576) (v : Bool) (hv : logS x.d x.p x.cnt = v) (w : World) (hT : Tab w) : Calls Tryz.prog 18 #[.agg #[.string x.dur, .string x.pen, .int .i64 x.cnt]] w fun e w' => e = .returned (.bool v) ∧ Below w.heap.size w w' := by
  have := isValidLog_is x.d x.p x.cnt (x.len h) v hv w hT
  rwa [bs_d, bs_p] at this
end Go.Proofs.YtpkagohflkcnkaaGreatDoor
/- The log's functions over structs: what each answers, in the shape of the laws. -/
namespace Go.Proofs.YtpkagohflkcnkaaGreatDoor
open Go.RowKit Go.G9
def noLog : LogT := ⟨⟨#[]⟩, ⟨#[]⟩, 0⟩
def LogT.ok (x : LogT) : Bool := logS x.d x.p x.cnt
def syncT (x : LogT) : LogT := if x.ok then ⟨x.dur ++ x.pen, ⟨#[]⟩, x.cnt⟩ else noLog
def apT (x : LogT) (y : LRec) : LogT := ⟨x.dur, bs (apP x.d x.p x.cnt y.c y.r), apN x.d x.p x.cnt y.c y.r⟩
def apTC (x : LogT) (y : LRec) : Int := apC x.d x.p x.cnt y.c y.r
def recT (s : ByteArray) : LogT := ⟨bs (recL s.data.toList), ⟨#[]⟩, (recN s.data.toList : Nat)⟩
def recTE (s : ByteArray) : Int := (recE s.data.toList : Nat)
def recTB (s : ByteArray) : Bool := decide (s.data.toList.length ≤ 30000)
def lrT (x : LogT) : List LRec := lrL x.d x.p x.cnt
theorem lrT_len (x : LogT) : (lrT x).length ≤ 1048576 := Nat.le_trans (lrL_len _ _ _) (by omega)
def enT (k : Int) (y : LRec) : ByteArray := if encOk k y.c y.r then bs (lineL k y.c y.r ++ [10]) else ⟨#[]⟩
def enTB (k : Int) (y : LRec) : Bool := encOk k y.c y.r
def crT (x : LogT) (k : Int) (t : Bool) : ByteArray := if crOk x.d x.p x.cnt k then bs (x.d ++ crB x.p k t) else ⟨#[]⟩
def crTB (x : LogT) (k : Int) (_t : Bool) : Bool := crOk x.d x.p x.cnt k
theorem syncV_T (x : LogT) : syncV x.d x.p x.cnt = .agg #[.string (syncT x).dur, .string (syncT x).pen, .int .i64 (syncT x).cnt] := by
  unfold syncV syncT LogT.ok
  rw [bs_d, bs_p]
  cases logS x.d x.p x.cnt <;> rfl
theorem iIsValidLogT_is (x : LogT) (h : x.dur.size + x.pen.size ≤ 1048576) (w : World) (hT : Tab w) : Calls Tryz.prog 18 #[.agg #[.string x.dur, .string x.pen, .int .i64 x.cnt]] w fun e w' => e = .returned (.bool x.ok) ∧ Below w.heap.size w w' := iIsValidLogR_is x h _ rfl w hT
theorem l27LogT_is (x : LogT) (h : x.dur.size + x.pen.size ≤ 1048576) (w : World) : Calls Tryz.prog 32 #[.agg #[.string x.dur, .string x.pen, .int .i64 x.cnt]] w fun e w' => e = .returned (.bool x.ok) ∧ Below w.heap.size w w' := by
  have hl := x.len h
  have := l27Log_is x.d x.p x.cnt (by omega) (by omega) _ rfl w
  rwa [bs_d, bs_p] at this
end Go.Proofs.YtpkagohflkcnkaaGreatDoor
