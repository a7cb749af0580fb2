/- The reading of a number: plain law, and the reference's own function. -/
import Derived.Test.YtbnncgahepcfnaaGreatDoorNo3
import Derived.Test.YtbnncgahepcfnaaGreatDoorNo0
import Derived.Deep.Cut
import Derived.Test.YtbnncgahepcfnaaGreatDoorNo4
import Derived.WalkSmall
namespace Go.G9
open Go.RowKit
def digB (c : UInt8) : Bool := decide (48 ≤ c.toNat) && decide (c.toNat ≤ 57)
def dval : List UInt8 → Nat → Nat
  | [], a => a
  | c :: l, a => dval l (10 * a + (c.toNat - 48))
theorem dval_app : ∀ (l m : List UInt8) (a : Nat), dval (l ++ m) a = dval m (dval l a)
  | [], _, _ => rfl
  | c :: l, m, a => by simp only [List.cons_append, dval]; exact dval_app l m _
theorem dval_lt : ∀ (l : List UInt8) (a : Nat), (∀ c ∈ l, digB c = true) → dval l a < (a + 1) * 10 ^ l.length
  | [], a, _ => by simp [dval]
  | c :: l, a, h => by
    have hc := h c (by simp)
    simp only [digB, Bool.and_eq_true, decide_eq_true_eq] at hc
    have ih := dval_lt l (10 * a + (c.toNat - 48)) (fun x hx => h x (by simp [hx]))
    have h2 : (10 * a + (c.toNat - 48) + 1) * 10 ^ l.length ≤ ((a + 1) * 10) * 10 ^ l.length := Nat.mul_le_mul_right _ (by omega)
    have h3 : ((a + 1) * 10) * 10 ^ l.length = (a + 1) * 10 ^ (l.length + 1) := by rw [Nat.pow_succ, Nat.mul_assoc, Nat.mul_comm 10]
    simp only [dval, List.length_cons]
    omega
theorem dec_spec (u : Nat) : dval (Lib.decDigits u) 0 = u ∧ (∀ c ∈ Lib.decDigits u, digB c = true) ∧ Lib.decDigits u ≠ [] := by
  rw [Lib.decDigits]
  have one : ∀ d, d < 10 → (UInt8.ofNat (48 + d)).toNat = 48 + d := fun d hd => by
    rw [UInt8.toNat_ofNat']; omega
  split
  · rename_i h
    refine ⟨by simp only [dval]; rw [one u h]; omega, fun c hc => ?_, by simp⟩
    simp only [List.mem_singleton] at hc
    subst hc
    simp only [digB, one u h, Bool.and_eq_true, decide_eq_true_eq]; omega
  · rename_i h
    obtain ⟨h1, h2, h3⟩ := dec_spec (u / 10)
    have hd : u % 10 < 10 := Nat.mod_lt _ (by omega)
    refine ⟨by rw [dval_app, h1]; simp only [dval]; rw [one _ hd]; omega, fun c hc => ?_, by simp⟩
    simp only [List.mem_append, List.mem_singleton] at hc
    rcases hc with hc | hc
    · exact h2 c hc
    · subst hc
      simp only [digB, one _ hd, Bool.and_eq_true, decide_eq_true_eq]; omega
termination_by u
decreasing_by omega
def sgnL : List UInt8 → Bool
  | c :: _ :: _ => c == 45
  | _ => false
def rdTl (l : List UInt8) : List UInt8 := if sgnL l then l.tail else l
def rdN (l : List UInt8) : Int := if sgnL l then -(dval (rdTl l) 0 : Int) else (dval (rdTl l) 0 : Int)
def rdOk (s : ByteArray) : Bool := decide (1 ≤ (rdTl s.data.toList).length) && (decide ((rdTl s.data.toList).length ≤ 6) && ((rdTl s.data.toList).all digB && decide (numS (rdN s.data.toList) = s)))
def rdOut (s : ByteArray) : Value := if rdOk s then .tuple #[.int .i64 (rdN s.data.toList), .bool true] else .tuple #[.int .i64 0, .bool false]
theorem rdOut_form (s : ByteArray) : ∃ a b, rdOut s = .tuple #[.int .i64 a, .bool b] := by unfold rdOut; split <;> exact ⟨_, _, rfl⟩
theorem rdN_bd {s : ByteArray} (h6 : (rdTl s.data.toList).length ≤ 6) (hd : (rdTl s.data.toList).all digB = true) : -999999 ≤ rdN s.data.toList ∧ rdN s.data.toList ≤ 999999 := by
  have h := dval_lt (rdTl s.data.toList) 0 (fun c hc => List.all_eq_true.1 hd c hc)
  have h2 : 10 ^ (rdTl s.data.toList).length ≤ 10 ^ 6 := Nat.pow_le_pow_right (by omega) h6
  unfold rdN; split <;> omega
/-- A number's own text reads as that number. -/
theorem rd_numS (v : Int) (h0 : -999999 ≤ v) (h1 : v ≤ 999999) : rdOk (numS v) = true ∧ rdN (numS v).data.toList = v := by
  have hl : (numS v).data.toList = Lib.itoa v := rfl
  have key : rdTl (Lib.itoa v) = Lib.decDigits v.natAbs ∧ sgnL (Lib.itoa v) = decide (v < 0) := by
    unfold Lib.itoa
    split
    · rename_i h
      obtain ⟨_, _, h3⟩ := dec_spec v.natAbs
      obtain ⟨c, l, hcl⟩ := List.exists_cons_of_ne_nil h3
      rw [hcl]
      exact ⟨by simp [rdTl, sgnL], by simp [sgnL, h]⟩
    · rename_i h
      have hv : v.toNat = v.natAbs := by omega
      rw [hv]
      obtain ⟨_, h2, h3⟩ := dec_spec v.natAbs
      obtain ⟨c, l, hcl⟩ := List.exists_cons_of_ne_nil h3
      have hc := h2 c (by rw [hcl]; simp)
      simp only [digB, Bool.and_eq_true, decide_eq_true_eq] at hc
      have hs : sgnL (c :: l) = false := by
        cases l with
        | nil => rfl
        | cons d l =>
          show (c == 45) = false
          rw [beq_eq_false_iff_ne]
          intro e; subst e; simp at hc
      rw [hcl]
      exact ⟨by simp [rdTl, hs], by rw [hs]; exact (decide_eq_false h).symm⟩
  obtain ⟨k1, k2⟩ := key
  obtain ⟨d1, d2, d3⟩ := dec_spec v.natAbs
  have hn : rdN (Lib.itoa v) = v := by
    rw [rdN, k1, k2, d1]
    by_cases h : v < 0
    · rw [decide_eq_true h]; simp; omega
    · rw [decide_eq_false h]; simp; omega
  refine ⟨?_, by rw [hl]; exact hn⟩
  have e6 := nDigits_le 5 v.natAbs (by omega)
  have e1 : 1 ≤ (Lib.decDigits v.natAbs).length := List.length_pos_iff.2 d3
  rw [rdOk, hl, k1, hn, decide_eq_true e1, decide_eq_true e6, List.all_eq_true.2 d2]
  simp
theorem rd_yes {s : ByteArray} (h : rdOk s = true) : s = numS (rdN s.data.toList) ∧ -999999 ≤ rdN s.data.toList ∧ rdN s.data.toList ≤ 999999 := by
  simp only [rdOk, Bool.and_eq_true, decide_eq_true_eq] at h
  exact ⟨h.2.2.2.symm, rdN_bd h.2.1 h.2.2.1⟩
theorem rd_no {s : ByteArray} (h : rdOk s = false) (v : Int) (h0 : -999999 ≤ v) (h1 : v ≤ 999999) : s ≠ numS v := fun e => by
  rw [e, (rd_numS v h0 h1).1] at h; cases h
theorem strEq_no {a b : ByteArray} (h : a ≠ b) : (a.toList == b.toList) = false := beq_eq_false_iff_ne.2 (by rw [ByteArray.toList_eq, ByteArray.toList_eq]; exact fun e => h (ba_ext e))
theorem take_succ_at (t : ByteArray) {k : Nat} (hk : k < t.size) : t.data.toList.take (k + 1) = t.data.toList.take k ++ [t[k]] := by
  have h : k < t.data.toList.length := by simpa using hk
  rw [List.take_succ_eq_append_getElem h]
  congr 1
theorem dval_take (t : ByteArray) {k : Nat} (hk : k < t.size) : dval (t.data.toList.take (k + 1)) 0 = 10 * dval (t.data.toList.take k) 0 + (t[k].toNat - 48) := by
  rw [take_succ_at t hk, dval_app]; rfl
end Go.G9
namespace Go.Proofs.YtbnncgahepcfnaaGreatDoor
open Go.RowKit Go.G9
theorem list_tail1 (s : ByteArray) : (s.extract 1 s.size).data.toList = s.data.toList.drop 1 := by
  rw [ByteArray.data_extract, Array.toList_extract]
  simp
  rw [List.take_of_length_le (by simp)]
theorem sgnL_at (s : ByteArray) (h : 1 < s.size) : sgnL s.data.toList = (s[0] == 45) := by
  obtain ⟨⟨l⟩⟩ := s
  match l with
  | [] => simp [ByteArray.size] at h
  | [c] => simp [ByteArray.size] at h
  | c :: d :: l => rfl
theorem sgnL_short (s : ByteArray) (h : ¬ 1 < s.size) : sgnL s.data.toList = false := by
  obtain ⟨⟨l⟩⟩ := s
  match l with
  | [] => rfl
  | [c] => rfl
  | c :: d :: l => simp [ByteArray.size] at h
set_option maxHeartbeats 4000000 in
set_option maxRecDepth 100000 in
theorem l1Read_is (s : ByteArray) (hs : s.size ≤ maxLen) (w : World) : Calls Tryz.prog 66 #[.string s] w fun e w' => e = .returned (rdOut s) ∧ Below w.heap.size w w' := by
  unfold maxLen at hs
  by_cases h1 : 1 < s.size
  case neg =>
    have hsg := sgnL_short s h1
    have HS := Lib.hid hsg
    have HT : Hid (rdTl s.data.toList = s.data.toList) := Lib.hid (by rw [rdTl, hsg]; rfl)
    clear hsg
    go_enter Tryz.func66, Tryz.ntmps66
    go_upto_region 4 with fail
    have hlen : (rdTl s.data.toList).length = s.size := by rw [HT.out]; simp
    have HLEN := Lib.hid hlen; clear hlen
    by_cases hr : 1 ≤ s.size ∧ s.size ≤ 6
    case neg =>
      have hin : inB (s.size : Int) 1 6 = false := by
        cases hc : inB (s.size : Int) 1 6 with
        | false => rfl
        | true => simp only [inB, Bool.and_eq_true, decide_eq_true_eq] at hc; omega
      have HIN := Lib.hid hin; clear hin
      go_wp2_with fail
      refine (l1In_is _ 1 6 _ HIN.out _).mono ?_
      rintro e w0 ⟨rfl, h0⟩
      rw [h0]
      clear h0 w0
      go_wp2
      go_ret2
      have hno : rdOk s = false := by
        cases hc : rdOk s with
        | false => rfl
        | true => simp only [rdOk, HLEN.out, Bool.and_eq_true, decide_eq_true_eq] at hc; omega
      exact ⟨by rw [rdOut, hno]; rfl, Below.refl _ _⟩
    obtain ⟨hr1, hr6⟩ := hr
    have hin : inB (s.size : Int) 1 6 = true := by simp only [inB, Bool.and_eq_true, decide_eq_true_eq]; omega
    have HIN := Lib.hid hin; clear hin
    go_wp2_with fail
    refine (l1In_is _ 1 6 _ HIN.out _).mono ?_
    rintro e w0 ⟨rfl, h0⟩
    rw [h0]
    clear h0 w0
    go_wp2
    go_loop [5, 6] (fun n i => ∃ k : Nat, k ≤ s.size ∧ i = .int .i64 k ∧ n = .int .i64 (dval (s.data.toList.take k) 0 : Nat) ∧ (∀ c ∈ s.data.toList.take k, digB c = true)) (fun _ i => s.size - (intOf i).toNat)
    case atStart => exact ⟨0, Nat.zero_le _, rfl, rfl, by simp⟩
    case round =>
      obtain ⟨k, hk, rfl, rfl, hd⟩ := hrel
      have hb := dval_lt (s.data.toList.take k) 0 hd
      have hb2 : 10 ^ (s.data.toList.take k).length ≤ 10 ^ 6 := Nat.pow_le_pow_right (by omega) (by rw [List.length_take]; omega)
      have hb3 : dval (s.data.toList.take k) 0 < 1000000 := by omega
      clear hb hb2
      have HD := Lib.hid hd; clear hd
      by_cases hlt : k < s.size
      · have hbk : s[k].toNat < 256 := s[k].toNat_lt
        by_cases h1 : s[k].toNat < 48
        case pos =>
          go_wp2
          go_ret2
          have hno : rdOk s = false := by
            cases hc : rdOk s with
            | false => rfl
            | true =>
              simp only [rdOk, HT.out, Bool.and_eq_true, decide_eq_true_eq, List.all_eq_true] at hc
              have hx := hc.2.2.1 s[k] (List.mem_of_mem_take (i := k + 1) (by rw [take_succ_at s hlt]; simp))
              simp only [digB, Bool.and_eq_true, decide_eq_true_eq] at hx; omega
          exact ⟨by rw [rdOut, hno]; rfl, Below.refl _ _⟩
        by_cases h2 : 57 < s[k].toNat
        case pos =>
          go_wp2
          go_ret2
          have hno : rdOk s = false := by
            cases hc : rdOk s with
            | false => rfl
            | true =>
              simp only [rdOk, HT.out, Bool.and_eq_true, decide_eq_true_eq, List.all_eq_true] at hc
              have hx := hc.2.2.1 s[k] (List.mem_of_mem_take (i := k + 1) (by rw [take_succ_at s hlt]; simp))
              simp only [digB, Bool.and_eq_true, decide_eq_true_eq] at hx; omega
          exact ⟨by rw [rdOut, hno]; rfl, Below.refl _ _⟩
        have hnew : ∀ c ∈ s.data.toList.take (k + 1), digB c = true := fun c hc => by
          rw [take_succ_at s hlt] at hc
          simp only [List.mem_append, List.mem_singleton] at hc
          rcases hc with hc | hc
          · exact HD.out c hc
          · subst hc; simp only [digB, Bool.and_eq_true, decide_eq_true_eq]; omega
        have hval := dval_take s hlt
        have HN := Lib.hid hnew; have HVL := Lib.hid hval; clear hnew hval
        go_wp2
        go_round
        case rel => exact ⟨k + 1, by omega, by go_num, by rw [HVL.out]; (try rfl); congr 1; omega, HN.out⟩
        case measure => simp [intOf]; omega
      · obtain rfl : k = s.size := by omega
        have hall : (rdTl s.data.toList).all digB = true := by
          rw [HT.out, List.all_eq_true]
          have h := HD.out
          rwa [List.take_of_length_le (by simp)] at h
        have hn : rdN s.data.toList = (dval (s.data.toList.take s.size) 0 : Nat) := by
          rw [rdN, HS.out, HT.out, List.take_of_length_le (by simp)]; rfl
        have hbd := rdN_bd (s := s) (by rw [HLEN.out]; exact hr6) hall
        rw [hn] at hbd
        have HALL := Lib.hid hall; have HNV := Lib.hid hn; clear hall hn
        by_cases he : numS ((dval (s.data.toList.take s.size) 0 : Nat)) = s
        · have hcmp : ((numS ((dval (s.data.toList.take s.size) 0 : Nat))).toList == s.toList) = true := beq_iff_eq.2 (by rw [he])
          have HE := Lib.hid he; clear he
          go_wp2_with fail
          refine (l1Num_is _ (by omega) (by omega) _).mono ?_
          rintro e w1 ⟨rfl, hb1⟩
          go_wp2
          go_ret2
          have hyes : rdOk s = true := by simp only [rdOk, HLEN.out, HALL.out, HNV.out, HE.out]; simp; omega
          exact ⟨by rw [rdOut, hyes, HNV.out]; rfl, hb1⟩
        · have hcmp : ((numS ((dval (s.data.toList.take s.size) 0 : Nat))).toList == s.toList) = false := strEq_no he
          have HE := Lib.hid he; clear he
          go_wp2_with fail
          refine (l1Num_is _ (by omega) (by omega) _).mono ?_
          rintro e w1 ⟨rfl, hb1⟩
          go_wp2
          go_ret2
          have hno : rdOk s = false := by
            cases hc : rdOk s with
            | false => rfl
            | true =>
              simp only [rdOk, Bool.and_eq_true, decide_eq_true_eq, HNV.out] at hc
              exact absurd hc.2.2.2 HE.out
          exact ⟨by rw [rdOut, hno]; rfl, hb1⟩
  have hs0 : s[0].toNat < 256 := s[0].toNat_lt
  by_cases h2 : s[0] = 45
  case neg =>
    have hsg : sgnL s.data.toList = false := by rw [sgnL_at s h1]; exact beq_eq_false_iff_ne.2 h2
    have HS := Lib.hid hsg
    have HT : Hid (rdTl s.data.toList = s.data.toList) := Lib.hid (by rw [rdTl, hsg]; rfl)
    have hc0 : ((s[0].toNat : Int) == 45) = false := by
      rw [beq_eq_false_iff_ne]; intro e
      exact h2 (UInt8.toNat_inj.1 (by have : (45 : UInt8).toNat = 45 := rfl; omega))
    clear hsg
    go_enter Tryz.func66, Tryz.ntmps66
    go_upto_region 4 with fail
    clear hc0
    have hlen : (rdTl s.data.toList).length = s.size := by rw [HT.out]; simp
    have HLEN := Lib.hid hlen; clear hlen
    by_cases hr : 1 ≤ s.size ∧ s.size ≤ 6
    case neg =>
      have hin : inB (s.size : Int) 1 6 = false := by
        cases hc : inB (s.size : Int) 1 6 with
        | false => rfl
        | true => simp only [inB, Bool.and_eq_true, decide_eq_true_eq] at hc; omega
      have HIN := Lib.hid hin; clear hin
      go_wp2_with fail
      refine (l1In_is _ 1 6 _ HIN.out _).mono ?_
      rintro e w0 ⟨rfl, h0⟩
      rw [h0]
      clear h0 w0
      go_wp2
      go_ret2
      have hno : rdOk s = false := by
        cases hc : rdOk s with
        | false => rfl
        | true => simp only [rdOk, HLEN.out, Bool.and_eq_true, decide_eq_true_eq] at hc; omega
      exact ⟨by rw [rdOut, hno]; rfl, Below.refl _ _⟩
    obtain ⟨hr1, hr6⟩ := hr
    have hin : inB (s.size : Int) 1 6 = true := by simp only [inB, Bool.and_eq_true, decide_eq_true_eq]; omega
    have HIN := Lib.hid hin; clear hin
    go_wp2_with fail
    refine (l1In_is _ 1 6 _ HIN.out _).mono ?_
    rintro e w0 ⟨rfl, h0⟩
    rw [h0]
    clear h0 w0
    go_wp2
    go_loop [5, 6] (fun n i => ∃ k : Nat, k ≤ s.size ∧ i = .int .i64 k ∧ n = .int .i64 (dval (s.data.toList.take k) 0 : Nat) ∧ (∀ c ∈ s.data.toList.take k, digB c = true)) (fun _ i => s.size - (intOf i).toNat)
    case atStart => exact ⟨0, Nat.zero_le _, rfl, rfl, by simp⟩
    case round =>
      obtain ⟨k, hk, rfl, rfl, hd⟩ := hrel
      have hb := dval_lt (s.data.toList.take k) 0 hd
      have hb2 : 10 ^ (s.data.toList.take k).length ≤ 10 ^ 6 := Nat.pow_le_pow_right (by omega) (by rw [List.length_take]; omega)
      have hb3 : dval (s.data.toList.take k) 0 < 1000000 := by omega
      clear hb hb2
      have HD := Lib.hid hd; clear hd
      by_cases hlt : k < s.size
      · have hbk : s[k].toNat < 256 := s[k].toNat_lt
        by_cases h1 : s[k].toNat < 48
        case pos =>
          go_wp2
          go_ret2
          have hno : rdOk s = false := by
            cases hc : rdOk s with
            | false => rfl
            | true =>
              simp only [rdOk, HT.out, Bool.and_eq_true, decide_eq_true_eq, List.all_eq_true] at hc
              have hx := hc.2.2.1 s[k] (List.mem_of_mem_take (i := k + 1) (by rw [take_succ_at s hlt]; simp))
              simp only [digB, Bool.and_eq_true, decide_eq_true_eq] at hx; omega
          exact ⟨by rw [rdOut, hno]; rfl, Below.refl _ _⟩
        by_cases h2 : 57 < s[k].toNat
        case pos =>
          go_wp2
          go_ret2
          have hno : rdOk s = false := by
            cases hc : rdOk s with
            | false => rfl
            | true =>
              simp only [rdOk, HT.out, Bool.and_eq_true, decide_eq_true_eq, List.all_eq_true] at hc
              have hx := hc.2.2.1 s[k] (List.mem_of_mem_take (i := k + 1) (by rw [take_succ_at s hlt]; simp))
              simp only [digB, Bool.and_eq_true, decide_eq_true_eq] at hx; omega
          exact ⟨by rw [rdOut, hno]; rfl, Below.refl _ _⟩
        have hnew : ∀ c ∈ s.data.toList.take (k + 1), digB c = true := fun c hc => by
          rw [take_succ_at s hlt] at hc
          simp only [List.mem_append, List.mem_singleton] at hc
          rcases hc with hc | hc
          · exact HD.out c hc
          · subst hc; simp only [digB, Bool.and_eq_true, decide_eq_true_eq]; omega
        have hval := dval_take s hlt
        have HN := Lib.hid hnew; have HVL := Lib.hid hval; clear hnew hval
        go_wp2
        go_round
        case rel => exact ⟨k + 1, by omega, by go_num, by rw [HVL.out]; (try rfl); congr 1; omega, HN.out⟩
        case measure => simp [intOf]; omega
      · obtain rfl : k = s.size := by omega
        have hall : (rdTl s.data.toList).all digB = true := by
          rw [HT.out, List.all_eq_true]
          have h := HD.out
          rwa [List.take_of_length_le (by simp)] at h
        have hn : rdN s.data.toList = (dval (s.data.toList.take s.size) 0 : Nat) := by
          rw [rdN, HS.out, HT.out, List.take_of_length_le (by simp)]; rfl
        have hbd := rdN_bd (s := s) (by rw [HLEN.out]; exact hr6) hall
        rw [hn] at hbd
        have HALL := Lib.hid hall; have HNV := Lib.hid hn; clear hall hn
        by_cases he : numS ((dval (s.data.toList.take s.size) 0 : Nat)) = s
        · have hcmp : ((numS ((dval (s.data.toList.take s.size) 0 : Nat))).toList == s.toList) = true := beq_iff_eq.2 (by rw [he])
          have HE := Lib.hid he; clear he
          go_wp2_with fail
          refine (l1Num_is _ (by omega) (by omega) _).mono ?_
          rintro e w1 ⟨rfl, hb1⟩
          go_wp2
          go_ret2
          have hyes : rdOk s = true := by simp only [rdOk, HLEN.out, HALL.out, HNV.out, HE.out]; simp; omega
          exact ⟨by rw [rdOut, hyes, HNV.out]; rfl, hb1⟩
        · have hcmp : ((numS ((dval (s.data.toList.take s.size) 0 : Nat))).toList == s.toList) = false := strEq_no he
          have HE := Lib.hid he; clear he
          go_wp2_with fail
          refine (l1Num_is _ (by omega) (by omega) _).mono ?_
          rintro e w1 ⟨rfl, hb1⟩
          go_wp2
          go_ret2
          have hno : rdOk s = false := by
            cases hc : rdOk s with
            | false => rfl
            | true =>
              simp only [rdOk, Bool.and_eq_true, decide_eq_true_eq, HNV.out] at hc
              exact absurd hc.2.2.2 HE.out
          exact ⟨by rw [rdOut, hno]; rfl, hb1⟩
  have hsg : sgnL s.data.toList = true := by rw [sgnL_at s h1]; exact beq_iff_eq.2 h2
  have HS := Lib.hid hsg
  have hc0 : ((s[0].toNat : Int) == 45) = true := by rw [h2]; rfl
  go_enter Tryz.func66, Tryz.ntmps66
  go_upto_region 4 with fail
  clear hc0
  obtain ⟨t, ht⟩ : ∃ t, t = s.extract 1 s.size := ⟨_, rfl⟩
  rw [← ht]
  have HT : Hid (rdTl s.data.toList = t.data.toList) := Lib.hid (by rw [rdTl, hsg, ht, list_tail1]; simp)
  have hts : t.size + 1 = s.size := by rw [ht, ByteArray.size_extract]; omega
  clear hsg ht
  have hlen : (rdTl s.data.toList).length = t.size := by rw [HT.out]; simp
  have HLEN := Lib.hid hlen; clear hlen
  by_cases hr : 1 ≤ t.size ∧ t.size ≤ 6
  case neg =>
    have hin : inB (t.size : Int) 1 6 = false := by
      cases hc : inB (t.size : Int) 1 6 with
      | false => rfl
      | true => simp only [inB, Bool.and_eq_true, decide_eq_true_eq] at hc; omega
    have HIN := Lib.hid hin; clear hin
    go_wp2_with fail
    refine (l1In_is _ 1 6 _ HIN.out _).mono ?_
    rintro e w0 ⟨rfl, h0⟩
    rw [h0]
    clear h0 w0
    go_wp2
    go_ret2
    have hno : rdOk s = false := by
      cases hc : rdOk s with
      | false => rfl
      | true => simp only [rdOk, HLEN.out, Bool.and_eq_true, decide_eq_true_eq] at hc; omega
    exact ⟨by rw [rdOut, hno]; rfl, Below.refl _ _⟩
  obtain ⟨hr1, hr6⟩ := hr
  have hin : inB (t.size : Int) 1 6 = true := by simp only [inB, Bool.and_eq_true, decide_eq_true_eq]; omega
  have HIN := Lib.hid hin; clear hin
  go_wp2_with fail
  refine (l1In_is _ 1 6 _ HIN.out _).mono ?_
  rintro e w0 ⟨rfl, h0⟩
  rw [h0]
  clear h0 w0
  go_wp2
  go_loop [5, 6] (fun n i => ∃ k : Nat, k ≤ t.size ∧ i = .int .i64 k ∧ n = .int .i64 (dval (t.data.toList.take k) 0 : Nat) ∧ (∀ c ∈ t.data.toList.take k, digB c = true)) (fun _ i => t.size - (intOf i).toNat)
  case atStart => exact ⟨0, Nat.zero_le _, rfl, rfl, by simp⟩
  case round =>
    obtain ⟨k, hk, rfl, rfl, hd⟩ := hrel
    have hb := dval_lt (t.data.toList.take k) 0 hd
    have hb2 : 10 ^ (t.data.toList.take k).length ≤ 10 ^ 6 := Nat.pow_le_pow_right (by omega) (by rw [List.length_take]; omega)
    have hb3 : dval (t.data.toList.take k) 0 < 1000000 := by omega
    clear hb hb2
    have HD := Lib.hid hd; clear hd
    by_cases hlt : k < t.size
    · have hbk : t[k].toNat < 256 := t[k].toNat_lt
      by_cases h1 : t[k].toNat < 48
      case pos =>
        go_wp2
        go_ret2
        have hno : rdOk s = false := by
          cases hc : rdOk s with
          | false => rfl
          | true =>
            simp only [rdOk, HT.out, Bool.and_eq_true, decide_eq_true_eq, List.all_eq_true] at hc
            have hx := hc.2.2.1 t[k] (List.mem_of_mem_take (i := k + 1) (by rw [take_succ_at t hlt]; simp))
            simp only [digB, Bool.and_eq_true, decide_eq_true_eq] at hx; omega
        exact ⟨by rw [rdOut, hno]; rfl, Below.refl _ _⟩
      by_cases h2 : 57 < t[k].toNat
      case pos =>
        go_wp2
        go_ret2
        have hno : rdOk s = false := by
          cases hc : rdOk s with
          | false => rfl
          | true =>
            simp only [rdOk, HT.out, Bool.and_eq_true, decide_eq_true_eq, List.all_eq_true] at hc
            have hx := hc.2.2.1 t[k] (List.mem_of_mem_take (i := k + 1) (by rw [take_succ_at t hlt]; simp))
            simp only [digB, Bool.and_eq_true, decide_eq_true_eq] at hx; omega
        exact ⟨by rw [rdOut, hno]; rfl, Below.refl _ _⟩
      have hnew : ∀ c ∈ t.data.toList.take (k + 1), digB c = true := fun c hc => by
        rw [take_succ_at t hlt] at hc
        simp only [List.mem_append, List.mem_singleton] at hc
        rcases hc with hc | hc
        · exact HD.out c hc
        · subst hc; simp only [digB, Bool.and_eq_true, decide_eq_true_eq]; omega
      have hval := dval_take t hlt
      have HN := Lib.hid hnew; have HVL := Lib.hid hval; clear hnew hval
      go_wp2
      go_round
      case rel => exact ⟨k + 1, by omega, by go_num, by rw [HVL.out]; (try rfl); congr 1; omega, HN.out⟩
      case measure => simp [intOf]; omega
    · obtain rfl : k = t.size := by omega
      have hall : (rdTl s.data.toList).all digB = true := by
        rw [HT.out, List.all_eq_true]
        have h := HD.out
        rwa [List.take_of_length_le (by simp)] at h
      have hn : rdN s.data.toList = -(dval (t.data.toList.take t.size) 0 : Nat) := by
        rw [rdN, HS.out, HT.out, List.take_of_length_le (by simp)]; rfl
      have hbd := rdN_bd (s := s) (by rw [HLEN.out]; exact hr6) hall
      rw [hn] at hbd
      have HALL := Lib.hid hall; have HNV := Lib.hid hn; clear hall hn
      by_cases he : numS (-(dval (t.data.toList.take t.size) 0 : Nat)) = s
      · have hcmp : ((numS (-(dval (t.data.toList.take t.size) 0 : Nat))).toList == s.toList) = true := beq_iff_eq.2 (by rw [he])
        have HE := Lib.hid he; clear he
        go_wp2_with fail
        refine (l1Num_is _ (by omega) (by omega) _).mono ?_
        rintro e w1 ⟨rfl, hb1⟩
        go_wp2
        go_ret2
        have hyes : rdOk s = true := by simp only [rdOk, HLEN.out, HALL.out, HNV.out, HE.out]; simp; omega
        exact ⟨by rw [rdOut, hyes, HNV.out]; rfl, hb1⟩
      · have hcmp : ((numS (-(dval (t.data.toList.take t.size) 0 : Nat))).toList == s.toList) = false := strEq_no he
        have HE := Lib.hid he; clear he
        go_wp2_with fail
        refine (l1Num_is _ (by omega) (by omega) _).mono ?_
        rintro e w1 ⟨rfl, hb1⟩
        go_wp2
        go_ret2
        have hno : rdOk s = false := by
          cases hc : rdOk s with
          | false => rfl
          | true =>
            simp only [rdOk, Bool.and_eq_true, decide_eq_true_eq, HNV.out] at hc
            exact absurd hc.2.2.2 HE.out
        exact ⟨by rw [rdOut, hno]; rfl, hb1⟩
end Go.Proofs.YtbnncgahepcfnaaGreatDoor
/- The text of a number, by Go's library: the table that it reads, carried from world to world. -/
namespace Go.Proofs.YtbnncgahepcfnaaGreatDoor
open Go.RowKit Go.G9
theorem gPow : Tryz.prog.globalNamed "internal/strconv.uint64pow10" = some 6 := by kernel_rfl
/-- The library's table of powers of ten stands. -/
def Tab (w : World) : Prop := 6 < w.heap.size ∧ Lib.TabIs Tryz.prog w "internal/strconv.uint64pow10" .u64 Lib.pow10Tab
theorem Tab.below {w w' : World} (h : Tab w) (hb : Below w.heap.size w w') : Tab w' := ⟨Nat.lt_of_lt_of_le h.1 hb.size, var?_below hb gPow h.1 h.2⟩
theorem itoa_is (n : Int) (h0 : -1000000000 < n) (h1 : n < 1000000000) (w : World) (hT : Tab w) : Calls Tryz.prog 99 #[.int .i64 n] w fun e w' => e = .returned (.string (numS n)) ∧ Below w.heap.size w w' := by
  refine (Tryz.strconv_Itoa n (by omega) (by omega) w hT.2).mono ?_
  rintro e w' ⟨rfl, k, os, rfl⟩
  exact ⟨rfl, rfl, rfl, rfl, by simp [Sort.grow], fun i hi => (show (w.heap ++ os)[i]? = w.heap[i]? from Array.getElem?_append_left hi)⟩
end Go.Proofs.YtbnncgahepcfnaaGreatDoor
