/- The log, by the program: is it a log? -/
import Derived.Test.YtpejnfhenpdobaaDoorLogQ
namespace Go.Proofs.YtpejnfhenpdobaaDoor
open Go.RowKit Go.G9
theorem endsL_last (l : L8) : (endsL l)[(rdAll l).length]? = some ((endL l : Nat) : Int) := by
  unfold endL endOf endsL
  rw [List.getLastD_eq_getLast?, List.getLast?_eq_getElem?]
  have e : (0 : Int) :: (rdAll l).map asEnd = (0 :: (rdAll l).map (·.2.2)).map (fun (x : Nat) => (x : Int)) := by
    simp [asEnd]
  rw [e, List.getElem?_map]
  have : (0 :: (rdAll l).map (·.2.2)).length - 1 = (rdAll l).length := by simp
  rw [this]
  have h : (0 :: (rdAll l).map (·.2.2))[(rdAll l).length]? = some ((0 :: (rdAll l).map (·.2.2))[(rdAll l).length]'(by simp)) := List.getElem?_eq_getElem _
  rw [h]; rfl
theorem recsL_len (l : L8) : (recsL l).length = (rdAll l).length := by simp [recsL]
theorem endsL_len (l : L8) : (endsL l).length = (rdAll l).length + 1 := by simp [endsL]
theorem endsL_mem (l : L8) (m : Nat) : (m : Int) ∈ endsL l ↔ m ∈ 0 :: (rdAll l).map (·.2.2) := by
  have e : endsL l = (0 :: (rdAll l).map (·.2.2)).map (fun (x : Nat) => (x : Int)) := by simp [endsL, asEnd]
  rw [e, List.mem_map]
  constructor
  · rintro ⟨x, hx, h⟩
    have : x = m := by omega
    subst this; exact hx
  · exact fun h => ⟨m, h, rfl⟩
/-- The program's test is the reference's. -/
theorem logS_eq (d p : L8) (n : Int) : logS d p n = (((endL (d ++ p) : Nat) : Int) == ((d.length : Int) + (p.length : Int)) && ((recsL (d ++ p)).length : Int) == n && decide ((d.length : Int) ∈ endsL (d ++ p))) := by
  have h1 := endL_pre d p
  have h2 := endL_le (d ++ p)
  have h3 : decide ((d.length : Int) ∈ endsL (d ++ p)) = (((endL d : Nat) : Int) == (d.length : Int)) := by
    rw [Bool.eq_iff_iff, decide_eq_true_iff, beq_iff_eq, endsL_mem, ← h1]
    omega
  unfold logS
  rw [h3]
  by_cases ht : d.length + p.length ≤ 30000
  · rw [decide_eq_true ht, Bool.true_and, Bool.and_assoc, Bool.and_assoc, Bool.and_comm (((endL d : Nat) : Int) == (d.length : Int))]
  · rw [decide_eq_false ht]
    have : (((endL (d ++ p) : Nat) : Int) == ((d.length : Int) + (p.length : Int))) = false := by
      rw [beq_eq_false_iff_ne]; omega
    rw [this]; rfl
set_option maxHeartbeats 4000000 in
set_option maxRecDepth 100000 in
theorem isValidLog_is (d p : L8) (n : Int) (ht : d.length + p.length ≤ 1048576) (v : Bool) (hv : logS d p n = v) (w : World) (hT : Tab w) : Calls Tryd.prog 23 #[.agg #[.string (bs d), .string (bs p), .int .i64 n]] w fun e w' => e = .returned (.bool v) ∧ Below w.heap.size w w' := by
  subst hv
  have hsd := bs_size d
  have hsp := bs_size p
  have s3 : (bs d).size + (bs p).size ≤ 1048576 := by omega
  have hv : logS d p n = (((endL (d ++ p) : Nat) : Int) == (((bs d).size : Int) + ((bs p).size : Int)) && ((recsL (d ++ p)).length : Int) == n && decide (((bs d).size : Int) ∈ endsL (d ++ p))) := by
    rw [logS_eq, hsd, hsp]
  have hrd : ∀ W, Tab W → Calls Tryd.prog 48 #[.string (bs d ++ bs p)] W fun e w' => ∃ A c A' c', e = .returned (.tuple #[.slice A (recsL (d ++ p)).length c, .slice A' (endsL (d ++ p)).length c']) ∧
    OwnV W.heap.size 27 2 LRec.cells w' (.slice A (recsL (d ++ p)).length c) (recsL (d ++ p)) ∧ OwnV W.heap.size 3 1 intC w' (.slice A' (endsL (d ++ p)).length c') (endsL (d ++ p)) ∧ Below W.heap.size W w' := fun W hW => by
    rw [bs_app]; exact readRecords_is (d ++ p) (by simp; omega) W hW
  have l1 := recsL_len (d ++ p)
  have l2 := endsL_len (d ++ p)
  have l3 := rdAll_len (d ++ p)
  have hlast := endsL_last (d ++ p)
  rw [← l1] at hlast
  have l4 : (endsL (d ++ p)).length = (recsL (d ++ p)).length + 1 := by omega
  have l5 : (recsL (d ++ p)).length ≤ 60 := by omega
  generalize hR : recsL (d ++ p) = R at *
  generalize hE : endsL (d ++ p) = E at *
  generalize hN : ((endL (d ++ p) : Nat) : Int) = N at *
  have HRD := Lib.hid hrd; have HV := Lib.hid hv; have HL := Lib.hid hlast; clear hrd hv hlast hsd hsp l1 l2 l3 hR hE hN
  have l6 : R.length < E.length := by omega
  have l7 : E.length ≤ 61 := by omega
  have hT1 := hT.below (bl1 w (.cells #[.string (bs d), .string (bs p), .int .i64 n] 31))
  have HT := Lib.hid hT1; clear hT1
  have hcase : ∀ b1 b2, (N == (((bs d).size : Int) + ((bs p).size : Int))) = b1 → ((R.length : Int) == n) = b2 → Calls Tryd.prog 23 #[.agg #[.string (bs d), .string (bs p), .int .i64 n]] w fun e w' => e = .returned (.bool (b1 && b2 && decide (((bs d).size : Int) ∈ E))) ∧ Below w.heap.size w w' := by
    intro b1 b2 h1 h2
    have h1n : (N != (((bs d).size : Int) + ((bs p).size : Int))) = !b1 := by rw [bne, h1]
    have h2n : ((R.length : Int) != n) = !b2 := by rw [bne, h2]
    rcases hb : b1 && b2 with _ | _
    · have HB12 := Lib.hid hb; clear hb
      cases b1
      all_goals cases b2
      case true.true => cases HB12.out
      all_goals simp only [Bool.not_true, Bool.not_false] at h1n h2n
      all_goals
        go_enter Tryd.func23, Tryd.ntmps23
        go_wp2_with fail
        refine (HRD.out _ HT.out).mono ?_
        rintro e w1 ⟨A1, c1, A2, c2, rfl, hO, hE, hb1⟩
        have hq1 : Below w.heap.size w w1 := bth (by repeat (first | exact Below.refl _ _ | refine Below.alloc ?_ (by first | exact Nat.le_refl _ | (simp <;> omega)) _ | refine Below.setCell ?_ (by first | exact Nat.le_refl _ | (simp <;> omega)) _)) hb1
        have HB : Below w.heap.size w w1 := hq1
        have hL : Blk w1 (w.heap.size) 31 #[.string (bs d), .string (bs p), .int .i64 n] := Blk.below (by repeat (first | exact Blk.new _ _ _ | exact Blk.new2 _ _ _ _ | exact Blk.new3 _ _ _ _ _ | exact Blk.new4 _ _ _ _ _ _ | refine Blk.alloc ?_ _)) hb1 (by simp <;> omega)
        have b0 := (hL.cell 0).trans (show _ = some (.string (bs d)) from rfl)
        have b1 := (hL.cell 1).trans (show _ = some (.string (bs p)) from rfl)
        have b2 := (hL.cell 2).trans (show _ = some (.int .i64 n) from rfl)
        obtain ⟨g2, off2, rfl, hlt2, hcx⟩ := hE.rds (hf := intC_len) (by omega)
        have f0 := hcx _ _ HL.out 0 _ rfl
        simp only [Nat.mul_one, Nat.add_zero] at f0
        have yhL := hL.lt
        go_wp2
        go_ret
        exact ⟨rfl, (bth HB (by repeat (first | exact Below.refl _ _ | refine Below.alloc ?_ (by first | exact Nat.le_refl _ | (simp <;> omega)) _ | refine Below.setCell ?_ (by first | exact Nat.le_refl _ | (simp <;> omega)) _)))⟩
    · obtain ⟨rfl, rfl⟩ : b1 = true ∧ b2 = true := by simpa using hb
      clear hb
      simp only [Bool.not_true] at h1n h2n
      go_enter Tryd.func23, Tryd.ntmps23
      go_wp2_with fail
      refine (HRD.out _ HT.out).mono ?_
      rintro e w1 ⟨A1, c1, A2, c2, rfl, hO, hE, hb1⟩
      have hq1 : Below w.heap.size w w1 := bth (by repeat (first | exact Below.refl _ _ | refine Below.alloc ?_ (by first | exact Nat.le_refl _ | (simp <;> omega)) _ | refine Below.setCell ?_ (by first | exact Nat.le_refl _ | (simp <;> omega)) _)) hb1
      have HB : Below w.heap.size w w1 := hq1
      have hL : Blk w1 (w.heap.size) 31 #[.string (bs d), .string (bs p), .int .i64 n] := Blk.below (by repeat (first | exact Blk.new _ _ _ | exact Blk.new2 _ _ _ _ | exact Blk.new3 _ _ _ _ _ | exact Blk.new4 _ _ _ _ _ _ | refine Blk.alloc ?_ _)) hb1 (by simp <;> omega)
      have b0 := (hL.cell 0).trans (show _ = some (.string (bs d)) from rfl)
      have b1 := (hL.cell 1).trans (show _ = some (.string (bs p)) from rfl)
      have b2 := (hL.cell 2).trans (show _ = some (.int .i64 n) from rfl)
      obtain ⟨g2, off2, rfl, hlt2, hcx⟩ := hE.rds (hf := intC_len) (by omega)
      have f0 := hcx _ _ HL.out 0 _ rfl
      simp only [Nat.mul_one, Nat.add_zero] at f0
      have yhL := hL.lt
      go_wp2
      go_loop [35] (fun i => ∃ k : Nat, k ≤ E.length ∧ i = .int .i64 k ∧ ∀ j, j < k → E[j]? ≠ some ((bs d).size : Int)) (fun i => E.length - (intOf i).toNat)
      case atStart => exact ⟨0, Nat.zero_le _, rfl, fun j hj => absurd hj (Nat.not_lt_zero _)⟩
      case round =>
        obtain ⟨k, hk, rfl, hno⟩ := hrel
        have HNO := Lib.hid hno; clear hno
        by_cases hlt : k < E.length
        · have hx : E[k]? = some E[k] := List.getElem?_eq_getElem hlt
          generalize E[k] = x at hx
          have f1 := hcx k x hx 0 _ rfl
          simp only [Nat.mul_one, Nat.add_zero] at f1
          have HX := Lib.hid hx; clear hx
          cases he : (x == ((bs d).size : Int))
          · have HE := Lib.hid he
            go_wp2
            go_round
            case rel =>
              refine ⟨k + 1, by omega, by go_num, fun j hj => ?_⟩
              rcases Nat.lt_or_ge j k with h | h
              · exact HNO.out j h
              · obtain rfl : j = k := by omega
                rw [HX.out]
                intro h2; injection h2 with h2
                exact beq_eq_false_iff_ne.1 HE.out h2
            case measure => simp [intOf]; omega
          · have HE := Lib.hid he
            go_wp2
            go_ret
            have hm : ((bs d).size : Int) ∈ E := List.mem_of_getElem? (by rw [HX.out, beq_iff_eq.1 HE.out])
            exact ⟨by rw [decide_eq_true hm]; rfl, (bth HB (by repeat (first | exact Below.refl _ _ | refine Below.alloc ?_ (by first | exact Nat.le_refl _ | (simp <;> omega)) _ | refine Below.setCell ?_ (by first | exact Nat.le_refl _ | (simp <;> omega)) _)))⟩
        · obtain rfl : k = E.length := by omega
          go_wp2
          go_ret
          have hm : ¬ ((bs d).size : Int) ∈ E := fun h => by
            obtain ⟨j, hj⟩ := List.getElem?_of_mem h
            exact HNO.out j (List.getElem?_eq_some_iff.1 hj).1 hj
          exact ⟨by rw [decide_eq_false hm]; rfl, (bth HB (by repeat (first | exact Below.refl _ _ | refine Below.alloc ?_ (by first | exact Nat.le_refl _ | (simp <;> omega)) _ | refine Below.setCell ?_ (by first | exact Nat.le_refl _ | (simp <;> omega)) _)))⟩
  have := hcase _ _ rfl rfl
  rw [HV.out]; exact this
end Go.Proofs.YtpejnfhenpdobaaDoor
