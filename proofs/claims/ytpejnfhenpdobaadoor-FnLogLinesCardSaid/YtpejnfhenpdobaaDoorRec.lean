/- Records of the log: validity. -/
import Derived.Test.YtpejnfhenpdobaaDoorStr
import Derived.Test.YtpejnfhenpdobaaDoorOwn
import Derived.Lib.Bytealg
namespace Go.Proofs.YtpejnfhenpdobaaDoor
open Go.RowKit Go.G9
/-- Does a byte stand in a text? -/
def stB (s : ByteArray) (c : UInt8) : Bool := s.data.toList.any (· == c)
theorem indexByte_ge (c : UInt8) : ∀ l : List UInt8, -1 ≤ Lib.indexByte l c ∧ (decide (0 ≤ Lib.indexByte l c)) = l.any (· == c)
  | [] => by simp [Lib.indexByte]
  | b :: l => by
    have ih := indexByte_ge c l
    unfold Lib.indexByte
    by_cases h : b == c
    · simp [h]
    · by_cases h2 : Lib.indexByte l c = -1
      · have := ih.2; rw [h2] at this; simp [h, h2] at this ⊢; exact this
      · have h3 : 0 ≤ Lib.indexByte l c := by omega
        have := ih.2
        simp [h, h2, h3] at this ⊢
        refine ⟨by omega, ?_⟩
        simp [show (0 : Int) ≤ Lib.indexByte l c + 1 from by omega]
        exact this
def plainC (c : UInt8) : Bool := decide (32 ≤ c.toNat) && (decide (c.toNat ≤ 126) && !(c == 35))
def plainB (s : ByteArray) : Bool := s.data.toList.all plainC
theorem plain_take (s : ByteArray) (k : Nat) (h : k < s.size) : (s.data.toList.take (k+1)).all plainC = ((s.data.toList.take k).all plainC && plainC s[k]) := by
  rw [List.take_succ_eq_append_getElem (by simpa using h), List.all_append]; simp; rfl
theorem plain_not (s : ByteArray) (k : Nat) (h : k < s.size) (h1 : plainC s[k] = false) : plainB s = false := by
  have : plainB s = ((s.data.toList.take (k+1)).all plainC && (s.data.toList.drop (k+1)).all plainC) := by
    unfold plainB; rw [← List.all_append, List.take_append_drop]
  rw [this, plain_take s k h, h1]; simp
def recB (c r : ByteArray) : Bool := inB c.size 1 160 && (decide (r.size ≤ 200) && (plainB c && (plainB r && !stB c 64)))
set_option maxRecDepth 100000 in
theorem sIndex1_is (s : ByteArray) (c : UInt8) (w : World) : Calls Tryd.prog 77 #[.string s, .string ⟨#[c]⟩] w fun e w' => e = .returned (.int .i64 (Lib.indexByte s.data.toList c)) ∧ w' = w := by
  have hib : ∀ W, (callFunc 88 #[.string s, .int .u8 (((⟨#[c]⟩ : ByteArray)[0]'(Nat.zero_lt_one)).toNat : Int)]).run Tryd.prog W = .ok (.value (.int .i64 (Lib.indexByte s.data.toList c))) W := fun W => by
    rw [run_callFunc_indexByte Tryd.func88 (by kernel_rfl) (by kernel_rfl) (by kernel_rfl) (by kernel_rfl), Lib.run_indexByteString]
    simp [Result.andThen]; rfl
  by_cases h : ([c] == s.toList) = true
  · have HE := Lib.hid (beq_iff_eq.1 h)
    go_enter Tryd.func77, Tryd.ntmps77
    go_wp2
    go_ret
    have e : s.data.toList = [c] := (ByteArray.toList_eq s).symm.trans HE.out.symm
    exact ⟨by rw [e]; simp [Lib.indexByte], rfl⟩
  · have h' : ([c] == s.toList) = false := by simpa using h
    clear h
    go_enter Tryd.func77, Tryd.ntmps77
    go_wp2
    go_ret
    exact ⟨rfl, rfl⟩
set_option maxRecDepth 100000 in
theorem contains1_is (s : ByteArray) (c : UInt8) (v : Bool) (hv : stB s c = v) (w : World) : Calls Tryd.prog 57 #[.string s, .string ⟨#[c]⟩] w fun e w' => e = .returned (.bool v) ∧ w' = w := by
  subst hv
  have hg := (indexByte_ge c s.data.toList).2
  have HG := Lib.hid hg; clear hg
  go_enter Tryd.func57, Tryd.ntmps57
  go_wp2_with (first | (go_at_call 77; refine (sIndex1_is s c _).mono ?_; rintro e w' ⟨rfl, rfl⟩) | go_in)
  go_ret
  exact ⟨ret_bool HG.out, rfl⟩
theorem isPlain_is (s : ByteArray) (hs : s.size ≤ maxLen) (v : Bool) (hv : plainB s = v) (w : World) : Calls Tryd.prog 56 #[.string s] w fun e w' => e = .returned (.bool v) ∧ w' = w := by
  subst hv
  unfold maxLen at hs
  go_enter Tryd.func56, Tryd.ntmps56
  go_wp2
  go_loop [3] (fun i => ∃ k : Nat, k ≤ s.size ∧ i = .int .i64 k ∧ (s.data.toList.take k).all plainC = true) (fun i => s.size - (intOf i).toNat)
  case atStart => exact ⟨0, Nat.zero_le _, rfl, rfl⟩
  case round =>
    obtain ⟨k, hk, rfl, hl⟩ := hrel
    have HL := Lib.hid hl; clear hl
    by_cases hlt : k < s.size
    · by_cases h1 : s[k].toNat < 32
      · go_wp2
        go_ret
        exact ⟨ret_bool (plain_not s k hlt (by simp [plainC]; omega)).symm, rfl⟩
      · by_cases h2 : 126 < s[k].toNat
        · go_wp2
          go_ret
          exact ⟨ret_bool (plain_not s k hlt (by simp [plainC]; omega)).symm, rfl⟩
        · by_cases h3 : s[k].toNat = 35
          · have h3' : (((s[k].toNat : Nat) : Int) == 35) = true := by rw [h3]; rfl
            have H3 := Lib.hid h3; clear h3
            go_wp2
            go_ret
            exact ⟨ret_bool (plain_not s k hlt (by have := H3.out; simp [plainC, ← UInt8.toNat_inj, this])).symm, rfl⟩
          · have h3' : (((s[k].toNat : Nat) : Int) == 35) = false := beq_eq_false_iff_ne.2 (by omega)
            go_wp2
            go_round
            case rel => exact ⟨k + 1, by omega, by go_num, by rw [plain_take s k hlt, HL.out]; simp [plainC, ← UInt8.toNat_inj]; omega⟩
            case measure => simp [intOf]; omega
    · obtain rfl : k = s.size := by omega
      go_wp2
      go_ret
      have := HL.out
      rw [List.take_of_length_le (by simp)] at this
      exact ⟨ret_bool this.symm, rfl⟩
theorem l27Plain_is (s : ByteArray) (m : Int) (hs : s.size ≤ maxLen) (v : Bool) (hv : (plainB s && decide (s.size ≤ m)) = v) (w : World) : Calls Tryd.prog 61 #[.string s, .int .i64 m] w fun e w' => e = .returned (.bool v) ∧ w' = w := by
  subst hv
  unfold maxLen at hs
  go_enter Tryd.func61, Tryd.ntmps61
  go_wp2
  go_loop [5] (fun i => ∃ k : Nat, k ≤ s.size ∧ i = .int .i64 k ∧ (s.data.toList.take k).all plainC = true) (fun i => s.size - (intOf i).toNat)
  case atStart => exact ⟨0, Nat.zero_le _, rfl, rfl⟩
  case round =>
    obtain ⟨k, hk, rfl, hl⟩ := hrel
    have HL := Lib.hid hl; clear hl
    by_cases hlt : k < s.size
    · have h256 : s[k].toNat < 256 := UInt8.toNat_lt _
      cases h1 : inB (s[k].toNat : Int) 32 126
      · go_wp2_with (go_at_call 42; refine (l1In_is _ _ _ _ h1 _).mono ?_; rintro e w' ⟨rfl, rfl⟩)
        go_ret
        exact ⟨ret_bool (by rw [plain_not s k hlt (by simp [plainC, inB] at h1 ⊢; omega)]; rfl), rfl⟩
      · have h1' := inB_iff.1 h1
        by_cases h3 : s[k].toNat = 35
        · have h3' : (((s[k].toNat : Nat) : Int) == 35) = true := by rw [h3]; rfl
          have H3 := Lib.hid h3; clear h3
          go_wp2_with (go_at_call 42; refine (l1In_is _ _ _ _ h1 _).mono ?_; rintro e w' ⟨rfl, rfl⟩)
          go_ret
          exact ⟨ret_bool (by rw [plain_not s k hlt (by have := H3.out; simp [plainC, ← UInt8.toNat_inj, this])]; rfl), rfl⟩
        · have h3' : (((s[k].toNat : Nat) : Int) == 35) = false := beq_eq_false_iff_ne.2 (by omega)
          go_wp2_with (go_at_call 42; refine (l1In_is _ _ _ _ h1 _).mono ?_; rintro e w' ⟨rfl, rfl⟩)
          go_round
          case rel => exact ⟨k + 1, by omega, by go_num, by rw [plain_take s k hlt, HL.out]; simp [plainC, ← UInt8.toNat_inj]; omega⟩
          case measure => simp [intOf]; omega
    · obtain rfl : k = s.size := by omega
      go_wp2
      go_ret
      have := HL.out
      rw [List.take_of_length_le (by simp)] at this
      exact ⟨ret_bool (by rw [show plainB s = true from this]; simp), rfl⟩
theorem l1Stands_is (s : ByteArray) (c : UInt8) (hs : s.size ≤ maxLen) (v : Bool) (hv : stB s c = v) (w : World) : Calls Tryd.prog 62 #[.string s, .int .u8 (c.toNat : Int)] w fun e w' => e = .returned (.bool v) ∧ w' = w := by
  subst hv
  unfold maxLen at hs
  go_enter Tryd.func62, Tryd.ntmps62
  go_wp2
  go_loop [5] (fun i => ∃ k : Nat, k ≤ s.size ∧ i = .int .i64 k ∧ (s.data.toList.take k).any (· == c) = false) (fun i => s.size - (intOf i).toNat)
  case atStart => exact ⟨0, Nat.zero_le _, rfl, rfl⟩
  case round =>
    obtain ⟨k, hk, rfl, hl⟩ := hrel
    have HL := Lib.hid hl; clear hl
    by_cases hlt : k < s.size
    · by_cases h3 : s[k] = c
      · have h3' : ((s[k].toNat : Int) == (c.toNat : Int)) = true := by rw [h3]; simp
        have H3 := Lib.hid h3; clear h3
        go_wp2
        go_ret
        exact ⟨ret_bool (Eq.symm (List.any_eq_true.2 ⟨s[k], by exact List.getElem_mem (l := s.data.toList) (by simpa using hlt), by simp [H3.out]⟩)), rfl⟩
      · have h3' : ((s[k].toNat : Int) == (c.toNat : Int)) = false := beq_eq_false_iff_ne.2 (fun h => h3 (UInt8.toNat_inj.1 (by omega)))
        go_wp2
        go_round
        case rel => exact ⟨k + 1, by omega, by go_num, by rw [List.take_succ_eq_append_getElem (by simpa using hlt), List.any_append, HL.out]; simp; exact h3⟩
        case measure => simp [intOf]; omega
    · obtain rfl : k = s.size := by omega
      go_wp2
      go_ret
      have := HL.out
      rw [List.take_of_length_le (by simp)] at this
      exact ⟨ret_bool this.symm, rfl⟩
theorem isValidRecord_is (c r : ByteArray) (hc : c.size ≤ 1048576) (hr : r.size ≤ 1048576) (v : Bool) (hv : recB c r = v) (w : World) : Calls Tryd.prog 37 #[.agg #[.string c, .string r]] w fun e w' => e = .returned (.bool v) ∧ Below w.heap.size w w' := by
  subst hv
  have hc' : c.size ≤ maxLen := by unfold maxLen; omega
  have hr' : r.size ≤ maxLen := by unfold maxLen; omega
  cases h1 : inB (c.size : Int) 1 160
  · go_enter Tryd.func37, Tryd.ntmps37
    go_wp2_with (go_at_call 45; refine (inside_is _ _ _ _ h1 _).mono ?_; rintro e w' ⟨rfl, rfl⟩)
    go_ret
    exact ⟨ret_bool (by simp [recB, h1]), bl1 _ _⟩
  by_cases h2 : r.size ≤ 200
  · cases h3 : plainB c
    · go_enter Tryd.func37, Tryd.ntmps37
      go_wp2_with (first | (go_at_call 45; refine (inside_is _ _ _ _ h1 _).mono ?_; rintro e w' ⟨rfl, rfl⟩) | (go_at_call 56; refine (isPlain_is c hc' _ h3 _).mono ?_; rintro e w' ⟨rfl, rfl⟩))
      go_ret
      exact ⟨ret_bool (by simp [recB, h3]), bl1 _ _⟩
    cases h4 : plainB r
    · go_enter Tryd.func37, Tryd.ntmps37
      go_wp2_with fail
      refine (inside_is _ _ _ _ h1 _).mono ?_
      rintro e w' ⟨rfl, rfl⟩
      go_wp2_with fail
      refine (isPlain_is c hc' _ h3 _).mono ?_
      rintro e w' ⟨rfl, rfl⟩
      go_wp2_with fail
      refine (isPlain_is r hr' _ h4 _).mono ?_
      rintro e w' ⟨rfl, rfl⟩
      go_wp2
      go_ret
      exact ⟨ret_bool (by simp [recB, h4]), bl1 _ _⟩
    · go_enter Tryd.func37, Tryd.ntmps37
      go_wp2_with fail
      refine (inside_is _ _ _ _ h1 _).mono ?_
      rintro e w' ⟨rfl, rfl⟩
      go_wp2_with fail
      refine (isPlain_is c hc' _ h3 _).mono ?_
      rintro e w' ⟨rfl, rfl⟩
      go_wp2_with fail
      refine (isPlain_is r hr' _ h4 _).mono ?_
      rintro e w' ⟨rfl, rfl⟩
      go_wp2_with fail
      refine (contains1_is c 64 _ rfl _).mono ?_
      rintro e w' ⟨rfl, rfl⟩
      go_wp2
      go_ret
      exact ⟨ret_bool (by simp [recB, h1, h2, h3, h4]), bl1 _ _⟩
  · go_enter Tryd.func37, Tryd.ntmps37
    go_wp2_with (go_at_call 45; refine (inside_is _ _ _ _ h1 _).mono ?_; rintro e w' ⟨rfl, rfl⟩)
    go_ret
    exact ⟨ret_bool (by simp [recB, h2]), bl1 _ _⟩
theorem l27Good_is (c r : ByteArray) (hc : c.size ≤ 1048576) (hr : r.size ≤ 1048576) (v : Bool) (hv : recB c r = v) (w : World) : Calls Tryd.prog 43 #[.agg #[.string c, .string r]] w fun e w' => e = .returned (.bool v) ∧ Below w.heap.size w w' := by
  subst hv
  have hc' : c.size ≤ maxLen := by unfold maxLen; omega
  have hr' : r.size ≤ maxLen := by unfold maxLen; omega
  by_cases h0 : c.size = 0
  · have h0' : c.toList.isEmpty = true := by rw [ByteArray.toList_eq]; exact List.isEmpty_iff.2 (List.length_eq_zero_iff.1 (by rw [Array.length_toList]; exact h0))
    have h0'' : c.toList = [] := by simpa using h0'
    have H0 := Lib.hid h0; clear h0
    go_enter Tryd.func43, Tryd.ntmps43
    go_wp2
    go_ret
    exact ⟨ret_bool (by simp [recB, inB, H0.out]), bl1 _ _⟩
  · have h0' : c.toList.isEmpty = false := by rw [ByteArray.toList_eq]; cases h : c.data.toList with
      | nil => exfalso; apply h0; have := congrArg List.length h; rw [Array.length_toList] at this; exact this
      | cons _ _ => rfl
    have h0'' : (!c.toList.isEmpty) = true := by rw [h0']; rfl
    cases h3 : plainB c && decide ((c.size : Int) ≤ 160)
    · go_enter Tryd.func43, Tryd.ntmps43
      go_wp2_with (go_at_call 61; refine (l27Plain_is c 160 hc' _ h3 _).mono ?_; rintro e w' ⟨rfl, rfl⟩)
      go_ret
      exact ⟨ret_bool (by simp only [Bool.and_eq_false_iff, decide_eq_false_iff_not] at h3; rcases h3 with h3 | h3 <;> simp [recB, inB, h3] <;> omega), bl1 _ _⟩
    cases h4 : stB c 64
    · go_enter Tryd.func43, Tryd.ntmps43
      go_wp2_with fail
      refine (l27Plain_is c 160 hc' _ h3 _).mono ?_
      rintro e w' ⟨rfl, rfl⟩
      go_wp2_with fail
      refine (l1Stands_is c 64 hc' _ h4 _).mono ?_
      rintro e w' ⟨rfl, rfl⟩
      go_wp2_with fail
      refine (l27Plain_is r 200 hr' _ rfl _).mono ?_
      rintro e w' ⟨rfl, rfl⟩
      go_wp2
      go_ret
      simp only [Bool.and_eq_true, decide_eq_true_eq] at h3
      have e1 : inB (c.size : Int) 1 160 = true := inB_iff.2 (by omega)
      exact ⟨ret_bool (by cases hp : plainB r <;> simp [recB, e1, h3.1, h4, hp] <;> omega), bl1 _ _⟩
    · go_enter Tryd.func43, Tryd.ntmps43
      go_wp2_with fail
      refine (l27Plain_is c 160 hc' _ h3 _).mono ?_
      rintro e w' ⟨rfl, rfl⟩
      go_wp2_with fail
      refine (l1Stands_is c 64 hc' _ h4 _).mono ?_
      rintro e w' ⟨rfl, rfl⟩
      go_wp2
      go_ret
      exact ⟨ret_bool (by simp [recB, h4]), bl1 _ _⟩
theorem sIsValidRecord_is (c r : ByteArray) (hc : c.size ≤ 1048576) (hr : r.size ≤ 1048576) (v : Bool) (hv : recB c r = v) (w : World) : Calls Tryd.prog 38 #[.agg #[.string c, .string r]] w fun e w' => e = .returned (.bool v) ∧ Below w.heap.size w w' := by
  subst hv
  go_enter Tryd.func38, Tryd.ntmps38
  go_wp2_with fail
  refine (l27Good_is c r hc hr _ rfl _).mono ?_
  rintro e w' ⟨rfl, hb⟩
  go_wp2
  go_ret
  exact ⟨rfl, bth (bl1 _ _) hb⟩
theorem toLogRecord_is (c r : ByteArray) (w : World) : Calls Tryd.prog 15 #[.agg #[.string c, .string r]] w fun e w' => e = .returned (.agg #[.string c, .string r]) ∧ Below w.heap.size w w' := by
  go_enter Tryd.func15, Tryd.ntmps15
  go_wp2
  exact bodyPost_ret (v := .agg #[.string c, .string r]) (by simp [results, Tryd.results15, go_sem]) rfl ⟨rfl, bl3 _ _ _ _⟩
theorem szLogRecord_is (c r : ByteArray) (hc : c.size ≤ maxLen) (hr : r.size ≤ maxLen) (l : Int) (h0 : 0 ≤ l) (h1 : l ≤ 1048576) (w : World) :
  Calls Tryd.prog 13 #[.agg #[.string c, .string r], .int .i64 l] w fun e w' => ∃ q : Int, e = .returned (.int .i64 q) ∧ -1 ≤ q ∧ q ≤ l ∧ (q < 0 ∨ c.size + r.size ≤ l) ∧ Below w.heap.size w w' := by
  unfold maxLen at hc hr
  go_enter Tryd.func13, Tryd.ntmps13
  go_wp2
  all_goals go_ret
  all_goals exact ⟨_, rfl, by omega, by omega, by omega, bl1 _ _⟩
end Go.Proofs.YtpejnfhenpdobaaDoor
