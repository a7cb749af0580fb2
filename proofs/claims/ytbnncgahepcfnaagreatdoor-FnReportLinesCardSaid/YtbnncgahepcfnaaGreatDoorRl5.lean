/- The reading of a number: plain law, and the reference's own function. -/
import Derived.Test.YtbnncgahepcfnaaGreatDoorRl3
import Derived.Test.YtbnncgahepcfnaaGreatDoorRl0
import Derived.Deep.Cut
import Derived.Test.YtbnncgahepcfnaaGreatDoorRl4
import Derived.WalkSmall
import Derived.Lib.AtoiTie
import Derived.Lib.AtoiAllCases
namespace Go.G9
open Go.RowKit
def digB (c : UInt8) : Bool := decide (48 ≤ c.toNat) && decide (c.toNat ≤ 57)
def dval : List UInt8 → Nat → Nat
  | [], a => a
  | c :: l, a => dval l (10 * a + (c.toNat - 48))
theorem dval_app : ∀ (l m : List UInt8) (a : Nat), dval (l ++ m) a = dval m (dval l a)
  | [], _, _ => rfl
  | c :: l, m, a => by simp only [List.cons_append, dval]; exact dval_app l m _
theorem dval_lt : ∀ (l : List UInt8) (a : Nat), (∀ c ∈ l, digB c = true) → dval l a < (a + 1) * 10 ^ l.length
  | [], a, _ => by simp [dval]
  | c :: l, a, h => by
    have hc := h c (by simp)
    simp only [digB, Bool.and_eq_true, decide_eq_true_eq] at hc
    have ih := dval_lt l (10 * a + (c.toNat - 48)) (fun x hx => h x (by simp [hx]))
    have h2 : (10 * a + (c.toNat - 48) + 1) * 10 ^ l.length ≤ ((a + 1) * 10) * 10 ^ l.length := Nat.mul_le_mul_right _ (by omega)
    have h3 : ((a + 1) * 10) * 10 ^ l.length = (a + 1) * 10 ^ (l.length + 1) := by rw [Nat.pow_succ, Nat.mul_assoc, Nat.mul_comm 10]
    simp only [dval, List.length_cons]
    omega
theorem dec_spec (u : Nat) : dval (Lib.decDigits u) 0 = u ∧ (∀ c ∈ Lib.decDigits u, digB c = true) ∧ Lib.decDigits u ≠ [] := by
  rw [Lib.decDigits]
  have one : ∀ d, d < 10 → (UInt8.ofNat (48 + d)).toNat = 48 + d := fun d hd => by
    rw [UInt8.toNat_ofNat']; omega
  split
  · rename_i h
    refine ⟨by simp only [dval]; rw [one u h]; omega, fun c hc => ?_, by simp⟩
    simp only [List.mem_singleton] at hc
    subst hc
    simp only [digB, one u h, Bool.and_eq_true, decide_eq_true_eq]; omega
  · rename_i h
    obtain ⟨h1, h2, h3⟩ := dec_spec (u / 10)
    have hd : u % 10 < 10 := Nat.mod_lt _ (by omega)
    refine ⟨by rw [dval_app, h1]; simp only [dval]; rw [one _ hd]; omega, fun c hc => ?_, by simp⟩
    simp only [List.mem_append, List.mem_singleton] at hc
    rcases hc with hc | hc
    · exact h2 c hc
    · subst hc
      simp only [digB, one _ hd, Bool.and_eq_true, decide_eq_true_eq]; omega
termination_by u
decreasing_by omega
def sgnL : List UInt8 → Bool
  | c :: _ :: _ => c == 45
  | _ => false
def rdTl (l : List UInt8) : List UInt8 := if sgnL l then l.tail else l
def rdN (l : List UInt8) : Int := if sgnL l then -(dval (rdTl l) 0 : Int) else (dval (rdTl l) 0 : Int)
def rdOk (s : ByteArray) : Bool := decide (1 ≤ (rdTl s.data.toList).length) && (decide ((rdTl s.data.toList).length ≤ 6) && ((rdTl s.data.toList).all digB && decide (numS (rdN s.data.toList) = s)))
def rdOut (s : ByteArray) : Value := if rdOk s then .tuple #[.int .i64 (rdN s.data.toList), .bool true] else .tuple #[.int .i64 0, .bool false]
theorem rdOut_form (s : ByteArray) : ∃ a b, rdOut s = .tuple #[.int .i64 a, .bool b] := by unfold rdOut; split <;> exact ⟨_, _, rfl⟩
theorem rdN_bd {s : ByteArray} (h6 : (rdTl s.data.toList).length ≤ 6) (hd : (rdTl s.data.toList).all digB = true) : -999999 ≤ rdN s.data.toList ∧ rdN s.data.toList ≤ 999999 := by
  have h := dval_lt (rdTl s.data.toList) 0 (fun c hc => List.all_eq_true.1 hd c hc)
  have h2 : 10 ^ (rdTl s.data.toList).length ≤ 10 ^ 6 := Nat.pow_le_pow_right (by omega) h6
  unfold rdN; split <;> omega
/-- A number's own text reads as that number. -/
theorem rd_numS (v : Int) (h0 : -999999 ≤ v) (h1 : v ≤ 999999) : rdOk (numS v) = true ∧ rdN (numS v).data.toList = v := by
  have hl : (numS v).data.toList = Lib.itoa v := rfl
  have key : rdTl (Lib.itoa v) = Lib.decDigits v.natAbs ∧ sgnL (Lib.itoa v) = decide (v < 0) := by
    unfold Lib.itoa
    split
    · rename_i h
      obtain ⟨_, _, h3⟩ := dec_spec v.natAbs
      obtain ⟨c, l, hcl⟩ := List.exists_cons_of_ne_nil h3
      rw [hcl]
      exact ⟨by simp [rdTl, sgnL], by simp [sgnL, h]⟩
    · rename_i h
      have hv : v.toNat = v.natAbs := by omega
      rw [hv]
      obtain ⟨_, h2, h3⟩ := dec_spec v.natAbs
      obtain ⟨c, l, hcl⟩ := List.exists_cons_of_ne_nil h3
      have hc := h2 c (by rw [hcl]; simp)
      simp only [digB, Bool.and_eq_true, decide_eq_true_eq] at hc
      have hs : sgnL (c :: l) = false := by
        cases l with
        | nil => rfl
        | cons d l =>
          show (c == 45) = false
          rw [beq_eq_false_iff_ne]
          intro e; subst e; simp at hc
      rw [hcl]
      exact ⟨by simp [rdTl, hs], by rw [hs]; exact (decide_eq_false h).symm⟩
  obtain ⟨k1, k2⟩ := key
  obtain ⟨d1, d2, d3⟩ := dec_spec v.natAbs
  have hn : rdN (Lib.itoa v) = v := by
    rw [rdN, k1, k2, d1]
    by_cases h : v < 0
    · rw [decide_eq_true h]; simp; omega
    · rw [decide_eq_false h]; simp; omega
  refine ⟨?_, by rw [hl]; exact hn⟩
  have e6 := nDigits_le 5 v.natAbs (by omega)
  have e1 : 1 ≤ (Lib.decDigits v.natAbs).length := List.length_pos_iff.2 d3
  rw [rdOk, hl, k1, hn, decide_eq_true e1, decide_eq_true e6, List.all_eq_true.2 d2]
  simp
theorem rd_yes {s : ByteArray} (h : rdOk s = true) : s = numS (rdN s.data.toList) ∧ -999999 ≤ rdN s.data.toList ∧ rdN s.data.toList ≤ 999999 := by
  simp only [rdOk, Bool.and_eq_true, decide_eq_true_eq] at h
  exact ⟨h.2.2.2.symm, rdN_bd h.2.1 h.2.2.1⟩
theorem rd_no {s : ByteArray} (h : rdOk s = false) (v : Int) (h0 : -999999 ≤ v) (h1 : v ≤ 999999) : s ≠ numS v := fun e => by
  rw [e, (rd_numS v h0 h1).1] at h; cases h
theorem strEq_no {a b : ByteArray} (h : a ≠ b) : (a.toList == b.toList) = false := beq_eq_false_iff_ne.2 (by rw [ByteArray.toList_eq, ByteArray.toList_eq]; exact fun e => h (ba_ext e))
theorem take_succ_at (t : ByteArray) {k : Nat} (hk : k < t.size) : t.data.toList.take (k + 1) = t.data.toList.take k ++ [t[k]] := by
  have h : k < t.data.toList.length := by simpa using hk
  rw [List.take_succ_eq_append_getElem h]
  congr 1
theorem dval_take (t : ByteArray) {k : Nat} (hk : k < t.size) : dval (t.data.toList.take (k + 1)) 0 = 10 * dval (t.data.toList.take k) 0 + (t[k].toNat - 48) := by
  rw [take_succ_at t hk, dval_app]; rfl
end Go.G9
namespace Go.Proofs.YtbnncgahepcfnaaGreatDoor
open Go.RowKit Go.G9
theorem list_tail1 (s : ByteArray) : (s.extract 1 s.size).data.toList = s.data.toList.drop 1 := by
  rw [ByteArray.data_extract, Array.toList_extract]
  simp
  rw [List.take_of_length_le (by simp)]
theorem sgnL_at (s : ByteArray) (h : 1 < s.size) : sgnL s.data.toList = (s[0] == 45) := by
  obtain ⟨⟨l⟩⟩ := s
  match l with
  | [] => simp [ByteArray.size] at h
  | [c] => simp [ByteArray.size] at h
  | c :: d :: l => rfl
theorem sgnL_short (s : ByteArray) (h : ¬ 1 < s.size) : sgnL s.data.toList = false := by
  obtain ⟨⟨l⟩⟩ := s
  match l with
  | [] => rfl
  | [c] => rfl
  | c :: d :: l => simp [ByteArray.size] at h
set_option maxHeartbeats 4000000 in
set_option maxRecDepth 100000 in
theorem l1Read_is (s : ByteArray) (hs : s.size ≤ maxLen) (w : World) : Calls Tryz.prog 66 #[.string s] w fun e w' => e = .returned (rdOut s) ∧ Below w.heap.size w w' := by
  unfold maxLen at hs
  by_cases h1 : 1 < s.size
  case neg =>
    have hsg := sgnL_short s h1
    have HS := Lib.hid hsg
    have HT : Hid (rdTl s.data.toList = s.data.toList) := Lib.hid (by rw [rdTl, hsg]; rfl)
    clear hsg
    go_enter Tryz.func66, Tryz.ntmps66
    go_upto_region 4 with fail
    have hlen : (rdTl s.data.toList).length = s.size := by rw [HT.out]; simp
    have HLEN := Lib.hid hlen; clear hlen
    by_cases hr : 1 ≤ s.size ∧ s.size ≤ 6
    case neg =>
      have hin : inB (s.size : Int) 1 6 = false := by
        cases hc : inB (s.size : Int) 1 6 with
        | false => rfl
        | true => simp only [inB, Bool.and_eq_true, decide_eq_true_eq] at hc; omega
      have HIN := Lib.hid hin; clear hin
      go_wp2_with fail
      refine (l1In_is _ 1 6 _ HIN.out _).mono ?_
      rintro e w0 ⟨rfl, h0⟩
      rw [h0]
      clear h0 w0
      go_wp2
      go_ret2
      have hno : rdOk s = false := by
        cases hc : rdOk s with
        | false => rfl
        | true => simp only [rdOk, HLEN.out, Bool.and_eq_true, decide_eq_true_eq] at hc; omega
      exact ⟨by rw [rdOut, hno]; rfl, Below.refl _ _⟩
    obtain ⟨hr1, hr6⟩ := hr
    have hin : inB (s.size : Int) 1 6 = true := by simp only [inB, Bool.and_eq_true, decide_eq_true_eq]; omega
    have HIN := Lib.hid hin; clear hin
    go_wp2_with fail
    refine (l1In_is _ 1 6 _ HIN.out _).mono ?_
    rintro e w0 ⟨rfl, h0⟩
    rw [h0]
    clear h0 w0
    go_wp2
    go_loop [5, 6] (fun n i => ∃ k : Nat, k ≤ s.size ∧ i = .int .i64 k ∧ n = .int .i64 (dval (s.data.toList.take k) 0 : Nat) ∧ (∀ c ∈ s.data.toList.take k, digB c = true)) (fun _ i => s.size - (intOf i).toNat)
    case atStart => exact ⟨0, Nat.zero_le _, rfl, rfl, by simp⟩
    case round =>
      obtain ⟨k, hk, rfl, rfl, hd⟩ := hrel
      have hb := dval_lt (s.data.toList.take k) 0 hd
      have hb2 : 10 ^ (s.data.toList.take k).length ≤ 10 ^ 6 := Nat.pow_le_pow_right (by omega) (by rw [List.length_take]; omega)
      have hb3 : dval (s.data.toList.take k) 0 < 1000000 := by omega
      clear hb hb2
      have HD := Lib.hid hd; clear hd
      by_cases hlt : k < s.size
      · have hbk : s[k].toNat < 256 := s[k].toNat_lt
        by_cases h1 : s[k].toNat < 48
        case pos =>
          go_wp2
          go_ret2
          have hno : rdOk s = false := by
            cases hc : rdOk s with
            | false => rfl
            | true =>
              simp only [rdOk, HT.out, Bool.and_eq_true, decide_eq_true_eq, List.all_eq_true] at hc
              have hx := hc.2.2.1 s[k] (List.mem_of_mem_take (i := k + 1) (by rw [take_succ_at s hlt]; simp))
              simp only [digB, Bool.and_eq_true, decide_eq_true_eq] at hx; omega
          exact ⟨by rw [rdOut, hno]; rfl, Below.refl _ _⟩
        by_cases h2 : 57 < s[k].toNat
        case pos =>
          go_wp2
          go_ret2
          have hno : rdOk s = false := by
            cases hc : rdOk s with
            | false => rfl
            | true =>
              simp only [rdOk, HT.out, Bool.and_eq_true, decide_eq_true_eq, List.all_eq_true] at hc
              have hx := hc.2.2.1 s[k] (List.mem_of_mem_take (i := k + 1) (by rw [take_succ_at s hlt]; simp))
              simp only [digB, Bool.and_eq_true, decide_eq_true_eq] at hx; omega
          exact ⟨by rw [rdOut, hno]; rfl, Below.refl _ _⟩
        have hnew : ∀ c ∈ s.data.toList.take (k + 1), digB c = true := fun c hc => by
          rw [take_succ_at s hlt] at hc
          simp only [List.mem_append, List.mem_singleton] at hc
          rcases hc with hc | hc
          · exact HD.out c hc
          · subst hc; simp only [digB, Bool.and_eq_true, decide_eq_true_eq]; omega
        have hval := dval_take s hlt
        have HN := Lib.hid hnew; have HVL := Lib.hid hval; clear hnew hval
        go_wp2
        go_round
        case rel => exact ⟨k + 1, by omega, by go_num, by rw [HVL.out]; (try rfl); congr 1; omega, HN.out⟩
        case measure => simp [intOf]; omega
      · obtain rfl : k = s.size := by omega
        have hall : (rdTl s.data.toList).all digB = true := by
          rw [HT.out, List.all_eq_true]
          have h := HD.out
          rwa [List.take_of_length_le (by simp)] at h
        have hn : rdN s.data.toList = (dval (s.data.toList.take s.size) 0 : Nat) := by
          rw [rdN, HS.out, HT.out, List.take_of_length_le (by simp)]; rfl
        have hbd := rdN_bd (s := s) (by rw [HLEN.out]; exact hr6) hall
        rw [hn] at hbd
        have HALL := Lib.hid hall; have HNV := Lib.hid hn; clear hall hn
        by_cases he : numS ((dval (s.data.toList.take s.size) 0 : Nat)) = s
        · have hcmp : ((numS ((dval (s.data.toList.take s.size) 0 : Nat))).toList == s.toList) = true := beq_iff_eq.2 (by rw [he])
          have HE := Lib.hid he; clear he
          go_wp2_with fail
          refine (l1Num_is _ (by omega) (by omega) _).mono ?_
          rintro e w1 ⟨rfl, hb1⟩
          go_wp2
          go_ret2
          have hyes : rdOk s = true := by simp only [rdOk, HLEN.out, HALL.out, HNV.out, HE.out]; simp; omega
          exact ⟨by rw [rdOut, hyes, HNV.out]; rfl, hb1⟩
        · have hcmp : ((numS ((dval (s.data.toList.take s.size) 0 : Nat))).toList == s.toList) = false := strEq_no he
          have HE := Lib.hid he; clear he
          go_wp2_with fail
          refine (l1Num_is _ (by omega) (by omega) _).mono ?_
          rintro e w1 ⟨rfl, hb1⟩
          go_wp2
          go_ret2
          have hno : rdOk s = false := by
            cases hc : rdOk s with
            | false => rfl
            | true =>
              simp only [rdOk, Bool.and_eq_true, decide_eq_true_eq, HNV.out] at hc
              exact absurd hc.2.2.2 HE.out
          exact ⟨by rw [rdOut, hno]; rfl, hb1⟩
  have hs0 : s[0].toNat < 256 := s[0].toNat_lt
  by_cases h2 : s[0] = 45
  case neg =>
    have hsg : sgnL s.data.toList = false := by rw [sgnL_at s h1]; exact beq_eq_false_iff_ne.2 h2
    have HS := Lib.hid hsg
    have HT : Hid (rdTl s.data.toList = s.data.toList) := Lib.hid (by rw [rdTl, hsg]; rfl)
    have hc0 : ((s[0].toNat : Int) == 45) = false := by
      rw [beq_eq_false_iff_ne]; intro e
      exact h2 (UInt8.toNat_inj.1 (by have : (45 : UInt8).toNat = 45 := rfl; omega))
    clear hsg
    go_enter Tryz.func66, Tryz.ntmps66
    go_upto_region 4 with fail
    clear hc0
    have hlen : (rdTl s.data.toList).length = s.size := by rw [HT.out]; simp
    have HLEN := Lib.hid hlen; clear hlen
    by_cases hr : 1 ≤ s.size ∧ s.size ≤ 6
    case neg =>
      have hin : inB (s.size : Int) 1 6 = false := by
        cases hc : inB (s.size : Int) 1 6 with
        | false => rfl
        | true => simp only [inB, Bool.and_eq_true, decide_eq_true_eq] at hc; omega
      have HIN := Lib.hid hin; clear hin
      go_wp2_with fail
      refine (l1In_is _ 1 6 _ HIN.out _).mono ?_
      rintro e w0 ⟨rfl, h0⟩
      rw [h0]
      clear h0 w0
      go_wp2
      go_ret2
      have hno : rdOk s = false := by
        cases hc : rdOk s with
        | false => rfl
        | true => simp only [rdOk, HLEN.out, Bool.and_eq_true, decide_eq_true_eq] at hc; omega
      exact ⟨by rw [rdOut, hno]; rfl, Below.refl _ _⟩
    obtain ⟨hr1, hr6⟩ := hr
    have hin : inB (s.size : Int) 1 6 = true := by simp only [inB, Bool.and_eq_true, decide_eq_true_eq]; omega
    have HIN := Lib.hid hin; clear hin
    go_wp2_with fail
    refine (l1In_is _ 1 6 _ HIN.out _).mono ?_
    rintro e w0 ⟨rfl, h0⟩
    rw [h0]
    clear h0 w0
    go_wp2
    go_loop [5, 6] (fun n i => ∃ k : Nat, k ≤ s.size ∧ i = .int .i64 k ∧ n = .int .i64 (dval (s.data.toList.take k) 0 : Nat) ∧ (∀ c ∈ s.data.toList.take k, digB c = true)) (fun _ i => s.size - (intOf i).toNat)
    case atStart => exact ⟨0, Nat.zero_le _, rfl, rfl, by simp⟩
    case round =>
      obtain ⟨k, hk, rfl, rfl, hd⟩ := hrel
      have hb := dval_lt (s.data.toList.take k) 0 hd
      have hb2 : 10 ^ (s.data.toList.take k).length ≤ 10 ^ 6 := Nat.pow_le_pow_right (by omega) (by rw [List.length_take]; omega)
      have hb3 : dval (s.data.toList.take k) 0 < 1000000 := by omega
      clear hb hb2
      have HD := Lib.hid hd; clear hd
      by_cases hlt : k < s.size
      · have hbk : s[k].toNat < 256 := s[k].toNat_lt
        by_cases h1 : s[k].toNat < 48
        case pos =>
          go_wp2
          go_ret2
          have hno : rdOk s = false := by
            cases hc : rdOk s with
            | false => rfl
            | true =>
              simp only [rdOk, HT.out, Bool.and_eq_true, decide_eq_true_eq, List.all_eq_true] at hc
              have hx := hc.2.2.1 s[k] (List.mem_of_mem_take (i := k + 1) (by rw [take_succ_at s hlt]; simp))
              simp only [digB, Bool.and_eq_true, decide_eq_true_eq] at hx; omega
          exact ⟨by rw [rdOut, hno]; rfl, Below.refl _ _⟩
        by_cases h2 : 57 < s[k].toNat
        case pos =>
          go_wp2
          go_ret2
          have hno : rdOk s = false := by
            cases hc : rdOk s with
            | false => rfl
            | true =>
              simp only [rdOk, HT.out, Bool.and_eq_true, decide_eq_true_eq, List.all_eq_true] at hc
              have hx := hc.2.2.1 s[k] (List.mem_of_mem_take (i := k + 1) (by rw [take_succ_at s hlt]; simp))
              simp only [digB, Bool.and_eq_true, decide_eq_true_eq] at hx; omega
          exact ⟨by rw [rdOut, hno]; rfl, Below.refl _ _⟩
        have hnew : ∀ c ∈ s.data.toList.take (k + 1), digB c = true := fun c hc => by
          rw [take_succ_at s hlt] at hc
          simp only [List.mem_append, List.mem_singleton] at hc
          rcases hc with hc | hc
          · exact HD.out c hc
          · subst hc; simp only [digB, Bool.and_eq_true, decide_eq_true_eq]; omega
        have hval := dval_take s hlt
        have HN := Lib.hid hnew; have HVL := Lib.hid hval; clear hnew hval
        go_wp2
        go_round
        case rel => exact ⟨k + 1, by omega, by go_num, by rw [HVL.out]; (try rfl); congr 1; omega, HN.out⟩
        case measure => simp [intOf]; omega
      · obtain rfl : k = s.size := by omega
        have hall : (rdTl s.data.toList).all digB = true := by
          rw [HT.out, List.all_eq_true]
          have h := HD.out
          rwa [List.take_of_length_le (by simp)] at h
        have hn : rdN s.data.toList = (dval (s.data.toList.take s.size) 0 : Nat) := by
          rw [rdN, HS.out, HT.out, List.take_of_length_le (by simp)]; rfl
        have hbd := rdN_bd (s := s) (by rw [HLEN.out]; exact hr6) hall
        rw [hn] at hbd
        have HALL := Lib.hid hall; have HNV := Lib.hid hn; clear hall hn
        by_cases he : numS ((dval (s.data.toList.take s.size) 0 : Nat)) = s
        · have hcmp : ((numS ((dval (s.data.toList.take s.size) 0 : Nat))).toList == s.toList) = true := beq_iff_eq.2 (by rw [he])
          have HE := Lib.hid he; clear he
          go_wp2_with fail
          refine (l1Num_is _ (by omega) (by omega) _).mono ?_
          rintro e w1 ⟨rfl, hb1⟩
          go_wp2
          go_ret2
          have hyes : rdOk s = true := by simp only [rdOk, HLEN.out, HALL.out, HNV.out, HE.out]; simp; omega
          exact ⟨by rw [rdOut, hyes, HNV.out]; rfl, hb1⟩
        · have hcmp : ((numS ((dval (s.data.toList.take s.size) 0 : Nat))).toList == s.toList) = false := strEq_no he
          have HE := Lib.hid he; clear he
          go_wp2_with fail
          refine (l1Num_is _ (by omega) (by omega) _).mono ?_
          rintro e w1 ⟨rfl, hb1⟩
          go_wp2
          go_ret2
          have hno : rdOk s = false := by
            cases hc : rdOk s with
            | false => rfl
            | true =>
              simp only [rdOk, Bool.and_eq_true, decide_eq_true_eq, HNV.out] at hc
              exact absurd hc.2.2.2 HE.out
          exact ⟨by rw [rdOut, hno]; rfl, hb1⟩
  have hsg : sgnL s.data.toList = true := by rw [sgnL_at s h1]; exact beq_iff_eq.2 h2
  have HS := Lib.hid hsg
  have hc0 : ((s[0].toNat : Int) == 45) = true := by rw [h2]; rfl
  go_enter Tryz.func66, Tryz.ntmps66
  go_upto_region 4 with fail
  clear hc0
  obtain ⟨t, ht⟩ : ∃ t, t = s.extract 1 s.size := ⟨_, rfl⟩
  rw [← ht]
  have HT : Hid (rdTl s.data.toList = t.data.toList) := Lib.hid (by rw [rdTl, hsg, ht, list_tail1]; simp)
  have hts : t.size + 1 = s.size := by rw [ht, ByteArray.size_extract]; omega
  clear hsg ht
  have hlen : (rdTl s.data.toList).length = t.size := by rw [HT.out]; simp
  have HLEN := Lib.hid hlen; clear hlen
  by_cases hr : 1 ≤ t.size ∧ t.size ≤ 6
  case neg =>
    have hin : inB (t.size : Int) 1 6 = false := by
      cases hc : inB (t.size : Int) 1 6 with
      | false => rfl
      | true => simp only [inB, Bool.and_eq_true, decide_eq_true_eq] at hc; omega
    have HIN := Lib.hid hin; clear hin
    go_wp2_with fail
    refine (l1In_is _ 1 6 _ HIN.out _).mono ?_
    rintro e w0 ⟨rfl, h0⟩
    rw [h0]
    clear h0 w0
    go_wp2
    go_ret2
    have hno : rdOk s = false := by
      cases hc : rdOk s with
      | false => rfl
      | true => simp only [rdOk, HLEN.out, Bool.and_eq_true, decide_eq_true_eq] at hc; omega
    exact ⟨by rw [rdOut, hno]; rfl, Below.refl _ _⟩
  obtain ⟨hr1, hr6⟩ := hr
  have hin : inB (t.size : Int) 1 6 = true := by simp only [inB, Bool.and_eq_true, decide_eq_true_eq]; omega
  have HIN := Lib.hid hin; clear hin
  go_wp2_with fail
  refine (l1In_is _ 1 6 _ HIN.out _).mono ?_
  rintro e w0 ⟨rfl, h0⟩
  rw [h0]
  clear h0 w0
  go_wp2
  go_loop [5, 6] (fun n i => ∃ k : Nat, k ≤ t.size ∧ i = .int .i64 k ∧ n = .int .i64 (dval (t.data.toList.take k) 0 : Nat) ∧ (∀ c ∈ t.data.toList.take k, digB c = true)) (fun _ i => t.size - (intOf i).toNat)
  case atStart => exact ⟨0, Nat.zero_le _, rfl, rfl, by simp⟩
  case round =>
    obtain ⟨k, hk, rfl, rfl, hd⟩ := hrel
    have hb := dval_lt (t.data.toList.take k) 0 hd
    have hb2 : 10 ^ (t.data.toList.take k).length ≤ 10 ^ 6 := Nat.pow_le_pow_right (by omega) (by rw [List.length_take]; omega)
    have hb3 : dval (t.data.toList.take k) 0 < 1000000 := by omega
    clear hb hb2
    have HD := Lib.hid hd; clear hd
    by_cases hlt : k < t.size
    · have hbk : t[k].toNat < 256 := t[k].toNat_lt
      by_cases h1 : t[k].toNat < 48
      case pos =>
        go_wp2
        go_ret2
        have hno : rdOk s = false := by
          cases hc : rdOk s with
          | false => rfl
          | true =>
            simp only [rdOk, HT.out, Bool.and_eq_true, decide_eq_true_eq, List.all_eq_true] at hc
            have hx := hc.2.2.1 t[k] (List.mem_of_mem_take (i := k + 1) (by rw [take_succ_at t hlt]; simp))
            simp only [digB, Bool.and_eq_true, decide_eq_true_eq] at hx; omega
        exact ⟨by rw [rdOut, hno]; rfl, Below.refl _ _⟩
      by_cases h2 : 57 < t[k].toNat
      case pos =>
        go_wp2
        go_ret2
        have hno : rdOk s = false := by
          cases hc : rdOk s with
          | false => rfl
          | true =>
            simp only [rdOk, HT.out, Bool.and_eq_true, decide_eq_true_eq, List.all_eq_true] at hc
            have hx := hc.2.2.1 t[k] (List.mem_of_mem_take (i := k + 1) (by rw [take_succ_at t hlt]; simp))
            simp only [digB, Bool.and_eq_true, decide_eq_true_eq] at hx; omega
        exact ⟨by rw [rdOut, hno]; rfl, Below.refl _ _⟩
      have hnew : ∀ c ∈ t.data.toList.take (k + 1), digB c = true := fun c hc => by
        rw [take_succ_at t hlt] at hc
        simp only [List.mem_append, List.mem_singleton] at hc
        rcases hc with hc | hc
        · exact HD.out c hc
        · subst hc; simp only [digB, Bool.and_eq_true, decide_eq_true_eq]; omega
      have hval := dval_take t hlt
      have HN := Lib.hid hnew; have HVL := Lib.hid hval; clear hnew hval
      go_wp2
      go_round
      case rel => exact ⟨k + 1, by omega, by go_num, by rw [HVL.out]; (try rfl); congr 1; omega, HN.out⟩
      case measure => simp [intOf]; omega
    · obtain rfl : k = t.size := by omega
      have hall : (rdTl s.data.toList).all digB = true := by
        rw [HT.out, List.all_eq_true]
        have h := HD.out
        rwa [List.take_of_length_le (by simp)] at h
      have hn : rdN s.data.toList = -(dval (t.data.toList.take t.size) 0 : Nat) := by
        rw [rdN, HS.out, HT.out, List.take_of_length_le (by simp)]; rfl
      have hbd := rdN_bd (s := s) (by rw [HLEN.out]; exact hr6) hall
      rw [hn] at hbd
      have HALL := Lib.hid hall; have HNV := Lib.hid hn; clear hall hn
      by_cases he : numS (-(dval (t.data.toList.take t.size) 0 : Nat)) = s
      · have hcmp : ((numS (-(dval (t.data.toList.take t.size) 0 : Nat))).toList == s.toList) = true := beq_iff_eq.2 (by rw [he])
        have HE := Lib.hid he; clear he
        go_wp2_with fail
        refine (l1Num_is _ (by omega) (by omega) _).mono ?_
        rintro e w1 ⟨rfl, hb1⟩
        go_wp2
        go_ret2
        have hyes : rdOk s = true := by simp only [rdOk, HLEN.out, HALL.out, HNV.out, HE.out]; simp; omega
        exact ⟨by rw [rdOut, hyes, HNV.out]; rfl, hb1⟩
      · have hcmp : ((numS (-(dval (t.data.toList.take t.size) 0 : Nat))).toList == s.toList) = false := strEq_no he
        have HE := Lib.hid he; clear he
        go_wp2_with fail
        refine (l1Num_is _ (by omega) (by omega) _).mono ?_
        rintro e w1 ⟨rfl, hb1⟩
        go_wp2
        go_ret2
        have hno : rdOk s = false := by
          cases hc : rdOk s with
          | false => rfl
          | true =>
            simp only [rdOk, Bool.and_eq_true, decide_eq_true_eq, HNV.out] at hc
            exact absurd hc.2.2.2 HE.out
        exact ⟨by rw [rdOut, hno]; rfl, hb1⟩
end Go.Proofs.YtbnncgahepcfnaaGreatDoor
/- The text of a number, by Go's library: the table that it reads, carried from world to world. -/
namespace Go.Proofs.YtbnncgahepcfnaaGreatDoor
open Go.RowKit Go.G9
theorem gPow : Tryz.prog.globalNamed "internal/strconv.uint64pow10" = some 6 := by kernel_rfl
/-- The library's table of powers of ten stands. -/
def Tab (w : World) : Prop := 6 < w.heap.size ∧ Lib.TabIs Tryz.prog w "internal/strconv.uint64pow10" .u64 Lib.pow10Tab
theorem Tab.below {w w' : World} (h : Tab w) (hb : Below w.heap.size w w') : Tab w' := ⟨Nat.lt_of_lt_of_le h.1 hb.size, var?_below hb gPow h.1 h.2⟩
theorem itoa_is (n : Int) (h0 : -1000000000 < n) (h1 : n < 1000000000) (w : World) (hT : Tab w) : Calls Tryz.prog 99 #[.int .i64 n] w fun e w' => e = .returned (.string (numS n)) ∧ Below w.heap.size w w' := by
  refine (Tryz.strconv_Itoa n (by omega) (by omega) w hT.2).mono ?_
  rintro e w' ⟨rfl, k, os, rfl⟩
  exact ⟨rfl, rfl, rfl, rfl, by simp [Sort.grow], fun i hi => (show (w.heap ++ os)[i]? = w.heap[i]? from Array.getElem?_append_left hi)⟩
end Go.Proofs.YtbnncgahepcfnaaGreatDoor
/- The reading of a number: the program's own function. -/
namespace Go.G9
open Go.RowKit
theorem parse_dig : ∀ (l : List UInt8) (a : Nat), (∀ c ∈ l, digB c = true) → (a + 1) * 10 ^ l.length ≤ 10000000 → Lib.parseUint10 a l = .ok (dval l a)
  | [], a, _, _ => rfl
  | c :: l, a, h, hb => by
    have hc := h c (by simp)
    simp only [digB, Bool.and_eq_true, decide_eq_true_eq] at hc
    have hp : 1 ≤ 10 ^ l.length := Nat.pow_pos (by omega)
    have h3 : (a + 1) * 10 ^ (l.length + 1) = (a + 1) * 10 * 10 ^ l.length := by rw [Nat.pow_succ, Nat.mul_assoc, Nat.mul_comm 10]
    simp only [List.length_cons] at hb
    rw [h3] at hb
    have h4 : (a * 10 + (c.toNat - 48) + 1) * 10 ^ l.length ≤ (a + 1) * 10 * 10 ^ l.length := Nat.mul_le_mul_right _ (by omega)
    have h5 : (a + 1) * 10 * 1 ≤ (a + 1) * 10 * 10 ^ l.length := Nat.mul_le_mul_left _ hp
    have ih := parse_dig l (a * 10 + (c.toNat - 48)) (fun x hx => h x (by simp [hx])) (by omega)
    rw [Lib.parseUint10, if_pos hc, if_neg (by omega), if_neg (by omega), ih]
    simp only [dval, Nat.mul_comm 10 a]
theorem atoi_numS (v : Int) (h0 : -999999 ≤ v) (h1 : v ≤ 999999) : Lib.atoiAll (numS v).data.toList = .ok v := by
  show Lib.atoiAll (Lib.itoa v) = .ok v
  have hl : ∀ u, u < 1000000 → Lib.parseMag (Lib.decDigits u) = .ok u := fun u hu => by
    obtain ⟨d1, d2, d3⟩ := dec_spec u
    have e6 := nDigits_le 5 u (by omega)
    have hp : 10 ^ (Lib.decDigits u).length ≤ 10 ^ 6 := Nat.pow_le_pow_right (by omega) e6
    rw [Lib.parseMag, if_neg d3, parse_dig _ 0 d2 (by omega), d1]
  unfold Lib.itoa
  split
  · rename_i h
    rw [Lib.atoiAll_minus, hl _ (by omega)]
    simp only [Lib.signed]
    rw [if_neg (by omega)]
    congr 1; omega
  · rename_i h
    obtain ⟨_, d2, d3⟩ := dec_spec v.toNat
    have hh := hl v.toNat (by omega)
    obtain ⟨c, l, hcl⟩ := List.exists_cons_of_ne_nil d3
    have hc := d2 c (by rw [hcl]; simp)
    simp only [digB, Bool.and_eq_true, decide_eq_true_eq] at hc
    rw [hcl] at hh ⊢
    rw [Lib.atoiAll_plain c l (by omega) (by omega), hh]
    simp only [Lib.signless]
    rw [if_neg (by omega)]
    congr 1; omega
theorem rd_atoi {s : ByteArray} (h : rdOk s = true) : Lib.atoiAll s.data.toList = .ok (rdN s.data.toList) := by
  obtain ⟨e, b1, b2⟩ := rd_yes h
  have h2 := atoi_numS (rdN s.data.toList) b1 b2
  rw [← e] at h2; exact h2
theorem rd_size {s : ByteArray} (h : rdOk s = true) : s.size ≤ 7 := by
  simp only [rdOk, Bool.and_eq_true, decide_eq_true_eq] at h
  have h6 := h.2.1
  have : s.data.toList.length = s.size := by simp
  unfold rdTl at h6
  split at h6
  · rw [List.length_tail] at h6; omega
  · omega
end Go.G9
namespace Go.Proofs.YtbnncgahepcfnaaGreatDoor
open Go.RowKit Go.G9
theorem gSyn : Tryz.prog.globalNamed "strconv.ErrSyntax" = some 2 := by kernel_rfl
/-- The library's sentinel of a syntax error stands. -/
def Esy (w : World) : Prop := 2 < w.heap.size ∧ ∃ tp p, w.var? Tryz.prog "strconv.ErrSyntax" = some #[.iface tp p]
theorem Esy.below {w w' : World} (h : Esy w) (hb : Below w.heap.size w w') : Esy w' := by
  obtain ⟨h1, tp, p, h2⟩ := h
  exact ⟨Nat.lt_of_lt_of_le h1 hb.size, tp, p, var?_below hb gSyn h1 h2⟩
set_option maxHeartbeats 2000000 in
set_option maxRecDepth 100000 in
theorem iParseInt_is (s : ByteArray) (hs : s.size ≤ maxLen) (w : World) (HT : Tab w) (HE : Esy w) : Calls Tryz.prog 64 #[.string s] w fun e w' => e = .returned (rdOut s) ∧ Below w.heap.size w w' := by
  unfold maxLen at hs
  have no : ∀ {w' : World}, rdOk s = false → Below w.heap.size w w' → (Ending.returned (.tuple #[.int .i64 0, .bool false]) = Ending.returned (rdOut s) ∧ Below w.heap.size w w') := fun h hb => ⟨by rw [rdOut, h]; rfl, hb⟩
  by_cases h7 : s.size ≤ 7
  case neg =>
    have hno : rdOk s = false := Bool.eq_false_iff.2 fun h => h7 (rd_size h)
    go_enter Tryz.func64, Tryz.ntmps64
    go_wp2
    go_ret2
    exact no hno (Below.refl _ _)
  cases ha : Lib.atoiAll s.data.toList
  rotate_left
  · have hno : rdOk s = false := Bool.eq_false_iff.2 fun h => by rw [rd_atoi h] at ha; cases ha
    obtain ⟨_, tp, p, hvar⟩ := HE
    have HA := Lib.hid (fun W (h : W.var? Tryz.prog "strconv.ErrSyntax" = some #[.iface tp p]) => Tryz.strconv_Atoi_syntax_var s (by omega) ha tp p W h)
    clear ha
    go_enter Tryz.func64, Tryz.ntmps64
    go_wp2_with fail
    refine (HA.out _ hvar).mono ?_
    rintro e w1 ⟨N, rfl, _, _, hb1⟩
    go_wp2
    go_ret2
    exact no hno hb1
  · exfalso
    rw [Lib.atoiAll_short _ (by simp; omega)] at ha
    cases hx : Lib.atoi s.data.toList <;> rw [hx] at ha <;> cases ha
  · rename_i v
    obtain ⟨b0, b1⟩ := Lib.atoiAll_bounds ha
    have HA := Lib.hid (fun W => Tryz.strconv_Atoi_ok s (by omega) v ha W)
    cases hin : inB v (-999999) 999999
    · have hno : rdOk s = false := Bool.eq_false_iff.2 fun h => by
        have e := rd_atoi h
        rw [ha] at e
        obtain ⟨_, c0, c1⟩ := rd_yes h
        injection e with e
        rw [← e] at c0 c1
        have : inB v (-999999) 999999 = true := by simp only [inB, Bool.and_eq_true, decide_eq_true_eq]; omega
        rw [this] at hin; cases hin
      have HIN := Lib.hid hin; clear hin ha
      go_enter Tryz.func64, Tryz.ntmps64
      go_wp2_with fail
      refine (HA.out _).mono ?_
      rintro e w1 ⟨rfl, hw1⟩
      have hb1 : Below w.heap.size w w1 := by
        rcases hw1 with rfl | ⟨t, rfl⟩
        · exact Below.refl _ _
        · exact Lib.bytesWorld_below _ _ _
      clear hw1
      go_wp2_with fail
      refine (inside_is v (-999999) 999999 _ HIN.out _).mono ?_
      rintro e w0 ⟨rfl, h0⟩
      rw [h0]
      clear h0 w0
      go_wp2
      go_ret2
      exact no hno hb1
    have hv2 : -999999 ≤ v ∧ v ≤ 999999 := by simp only [inB, Bool.and_eq_true, decide_eq_true_eq] at hin; omega
    have HIN := Lib.hid hin; clear hin
    by_cases he : numS v = s
    · have hcmp : ((numS v).toList == s.toList) = true := beq_iff_eq.2 (by rw [he])
      have hyes := rd_numS v hv2.1 hv2.2
      rw [he] at hyes
      have HY := Lib.hid hyes; clear hyes ha he
      go_enter Tryz.func64, Tryz.ntmps64
      go_wp2_with fail
      refine (HA.out _).mono ?_
      rintro e w1 ⟨rfl, hw1⟩
      have hb1 : Below w.heap.size w w1 := by
        rcases hw1 with rfl | ⟨t, rfl⟩
        · exact Below.refl _ _
        · exact Lib.bytesWorld_below _ _ _
      clear hw1
      go_wp2_with fail
      refine (inside_is v (-999999) 999999 _ HIN.out _).mono ?_
      rintro e w0 ⟨rfl, h0⟩
      rw [h0]
      clear h0 w0
      go_wp2_with fail
      refine (itoa_is v (by omega) (by omega) _ (HT.below hb1)).mono ?_
      rintro e w2 ⟨rfl, hb2⟩
      go_wp2
      go_ret2
      exact ⟨by rw [rdOut, HY.out.1, HY.out.2]; rfl, bth hb1 hb2⟩
    · have hcmp : ((numS v).toList == s.toList) = false := strEq_no he
      have hno : rdOk s = false := Bool.eq_false_iff.2 fun h => by
        have e := rd_atoi h
        rw [ha] at e
        injection e with e
        have := (rd_yes h).1
        rw [← e] at this
        exact he this.symm
      clear ha he
      go_enter Tryz.func64, Tryz.ntmps64
      go_wp2_with fail
      refine (HA.out _).mono ?_
      rintro e w1 ⟨rfl, hw1⟩
      have hb1 : Below w.heap.size w w1 := by
        rcases hw1 with rfl | ⟨t, rfl⟩
        · exact Below.refl _ _
        · exact Lib.bytesWorld_below _ _ _
      clear hw1
      go_wp2_with fail
      refine (inside_is v (-999999) 999999 _ HIN.out _).mono ?_
      rintro e w0 ⟨rfl, h0⟩
      rw [h0]
      clear h0 w0
      go_wp2_with fail
      refine (itoa_is v (by omega) (by omega) _ (HT.below hb1)).mono ?_
      rintro e w2 ⟨rfl, hb2⟩
      go_wp2
      go_ret2
      exact no hno (bth hb1 hb2)
end Go.Proofs.YtbnncgahepcfnaaGreatDoor
/- The index of the first element that a test takes; a call of a function value. -/
namespace Go.G9
open Go.RowKit
def atB {T : Type} (p : T → Bool) (xs : List T) (i : Nat) : Bool := match xs[i]? with | some x => p x | none => false
/-- The index of the first element that p takes, -1 if there is none. -/
def idxB {T : Type} (p : T → Bool) (xs : List T) : Int := match xs.findIdx? p with | some i => i | none => -1
theorem idxB_none {T : Type} {p : T → Bool} {xs : List T} (h : allTo (fun i => !atB p xs i) xs.length = true) : idxB p xs = -1 := by
  have : xs.findIdx? p = none := by
    rw [List.findIdx?_eq_none_iff]
    intro x hx
    obtain ⟨i, hi⟩ := List.getElem?_of_mem hx
    have := allTo_iff.1 h i (List.getElem?_eq_some_iff.1 hi).1
    simpa [atB, hi] using this
  simp [idxB, this]
theorem idxB_found {T : Type} {p : T → Bool} {xs : List T} {k : Nat} (hk : k < xs.length) (h : allTo (fun i => !atB p xs i) k = true) (hp : atB p xs k = true) : idxB p xs = k := by
  have : xs.findIdx? p = some k := by
    rw [List.findIdx?_eq_some_iff_getElem]
    refine ⟨hk, ?_, fun j hj => ?_⟩
    · simpa [atB, List.getElem?_eq_getElem hk] using hp
    · have := allTo_iff.1 h j hj
      simpa [atB, List.getElem?_eq_getElem (show j < xs.length by omega)] using this
  simp [idxB, this]
theorem idxB_ge {T : Type} (p : T → Bool) (xs : List T) : (decide (0 ≤ idxB p xs)) = xs.any p := by
  unfold idxB
  cases h : xs.findIdx? p with
  | none => simp at h; simpa using fun x hx => by simpa using h x hx
  | some i =>
    rw [List.findIdx?_eq_some_iff_getElem] at h
    obtain ⟨hi, hp, _⟩ := h
    have : xs.any p = true := List.any_eq_true.2 ⟨_, List.getElem_mem hi, hp⟩
    rw [this]; simp
theorem idxB_lt {T : Type} (p : T → Bool) (xs : List T) : -1 ≤ idxB p xs ∧ idxB p xs < xs.length := by
  unfold idxB
  cases h : xs.findIdx? p with
  | none => simp; omega
  | some i =>
    rw [List.findIdx?_eq_some_iff_getElem] at h
    obtain ⟨hi, _⟩ := h
    simp; omega
theorem run_enter {P : Program} {f : FuncId} {fn : Func} (hf : P.funcs[f]? = some fn) (hname : (fn.name == "runtime.NumGoroutine") = false) (hb : fn.body.isNone = false) (args : Array Value) (W : World) :
    (callFunc f args).run P W = .ok (.enter f args) W := by
  have h1 : fn.name ≠ "runtime.NumGoroutine" := by simpa using hname
  have h2 : fn.body ≠ none := by intro h; rw [h] at hb; simp at hb
  simp [callFunc, hf, h1, h2]
/-- The cells of an int, of a string. -/
def intC (x : Int) : List Value := [.int .i64 x]
structure Str where
  s : ByteArray
  ok : s.size ≤ maxLen
def Str.cells (x : Str) : List Value := [.string x.s]
end Go.G9
