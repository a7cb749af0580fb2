/- The reading of a number: the program's own function. -/
import Derived.Test.YtbnncgahepcfnaaDoorPrs
import Derived.Test.YtbnncgahepcfnaaDoorItoa
import Derived.Lib.AtoiTie
import Derived.Lib.AtoiAllCases
import Derived.Deep.Cut
namespace Go.G9
open Go.RowKit
theorem parse_dig : ∀ (l : List UInt8) (a : Nat), (∀ c ∈ l, digB c = true) → (a + 1) * 10 ^ l.length ≤ 10000000 → Lib.parseUint10 a l = .ok (dval l a)
  | [], a, _, _ => rfl
  | c :: l, a, h, hb => by
    have hc := h c (by simp)
    simp only [digB, Bool.and_eq_true, decide_eq_true_eq] at hc
    have hp : 1 ≤ 10 ^ l.length := Nat.pow_pos (by omega)
    have h3 : (a + 1) * 10 ^ (l.length + 1) = (a + 1) * 10 * 10 ^ l.length := by rw [Nat.pow_succ, Nat.mul_assoc, Nat.mul_comm 10]
    simp only [List.length_cons] at hb
    rw [h3] at hb
    have h4 : (a * 10 + (c.toNat - 48) + 1) * 10 ^ l.length ≤ (a + 1) * 10 * 10 ^ l.length := Nat.mul_le_mul_right _ (by omega)
    have h5 : (a + 1) * 10 * 1 ≤ (a + 1) * 10 * 10 ^ l.length := Nat.mul_le_mul_left _ hp
    have ih := parse_dig l (a * 10 + (c.toNat - 48)) (fun x hx => h x (by simp [hx])) (by omega)
    rw [Lib.parseUint10, if_pos hc, if_neg (by omega), if_neg (by omega), ih]
    simp only [dval, Nat.mul_comm 10 a]
theorem atoi_numS (v : Int) (h0 : -999999 ≤ v) (h1 : v ≤ 999999) : Lib.atoiAll (numS v).data.toList = .ok v := by
  show Lib.atoiAll (Lib.itoa v) = .ok v
  have hl : ∀ u, u < 1000000 → Lib.parseMag (Lib.decDigits u) = .ok u := fun u hu => by
    obtain ⟨d1, d2, d3⟩ := dec_spec u
    have e6 := nDigits_le 5 u (by omega)
    have hp : 10 ^ (Lib.decDigits u).length ≤ 10 ^ 6 := Nat.pow_le_pow_right (by omega) e6
    rw [Lib.parseMag, if_neg d3, parse_dig _ 0 d2 (by omega), d1]
  unfold Lib.itoa
  split
  · rename_i h
    rw [Lib.atoiAll_minus, hl _ (by omega)]
    simp only [Lib.signed]
    rw [if_neg (by omega)]
    congr 1; omega
  · rename_i h
    obtain ⟨_, d2, d3⟩ := dec_spec v.toNat
    have hh := hl v.toNat (by omega)
    obtain ⟨c, l, hcl⟩ := List.exists_cons_of_ne_nil d3
    have hc := d2 c (by rw [hcl]; simp)
    simp only [digB, Bool.and_eq_true, decide_eq_true_eq] at hc
    rw [hcl] at hh ⊢
    rw [Lib.atoiAll_plain c l (by omega) (by omega), hh]
    simp only [Lib.signless]
    rw [if_neg (by omega)]
    congr 1; omega
theorem rd_atoi {s : ByteArray} (h : rdOk s = true) : Lib.atoiAll s.data.toList = .ok (rdN s.data.toList) := by
  obtain ⟨e, b1, b2⟩ := rd_yes h
  have h2 := atoi_numS (rdN s.data.toList) b1 b2
  rw [← e] at h2; exact h2
theorem rd_size {s : ByteArray} (h : rdOk s = true) : s.size ≤ 7 := by
  simp only [rdOk, Bool.and_eq_true, decide_eq_true_eq] at h
  have h6 := h.2.1
  have : s.data.toList.length = s.size := by simp
  unfold rdTl at h6
  split at h6
  · rw [List.length_tail] at h6; omega
  · omega
end Go.G9
namespace Go.Proofs.YtbnncgahepcfnaaDoor
open Go.RowKit Go.G9
theorem gSyn : Tryd.prog.globalNamed "strconv.ErrSyntax" = some 3 := by kernel_rfl
/-- The library's sentinel of a syntax error stands. -/
def Esy (w : World) : Prop := 3 < w.heap.size ∧ ∃ tp p, w.var? Tryd.prog "strconv.ErrSyntax" = some #[.iface tp p]
theorem Esy.below {w w' : World} (h : Esy w) (hb : Below w.heap.size w w') : Esy w' := by
  obtain ⟨h1, tp, p, h2⟩ := h
  exact ⟨Nat.lt_of_lt_of_le h1 hb.size, tp, p, var?_below hb gSyn h1 h2⟩
set_option maxHeartbeats 2000000 in
set_option maxRecDepth 100000 in
theorem iParseInt_is (s : ByteArray) (hs : s.size ≤ maxLen) (w : World) (HT : Tab w) (HE : Esy w) : Calls Tryd.prog 71 #[.string s] w fun e w' => e = .returned (rdOut s) ∧ Below w.heap.size w w' := by
  unfold maxLen at hs
  have no : ∀ {w' : World}, rdOk s = false → Below w.heap.size w w' → (Ending.returned (.tuple #[.int .i64 0, .bool false]) = Ending.returned (rdOut s) ∧ Below w.heap.size w w') := fun h hb => ⟨by rw [rdOut, h]; rfl, hb⟩
  by_cases h7 : s.size ≤ 7
  case neg =>
    have hno : rdOk s = false := Bool.eq_false_iff.2 fun h => h7 (rd_size h)
    go_enter Tryd.func71, Tryd.ntmps71
    go_wp2
    go_ret2
    exact no hno (Below.refl _ _)
  cases ha : Lib.atoiAll s.data.toList
  rotate_left
  · have hno : rdOk s = false := Bool.eq_false_iff.2 fun h => by rw [rd_atoi h] at ha; cases ha
    obtain ⟨_, tp, p, hvar⟩ := HE
    have HA := Lib.hid (fun W (h : W.var? Tryd.prog "strconv.ErrSyntax" = some #[.iface tp p]) => Tryd.strconv_Atoi_syntax_var s (by omega) ha tp p W h)
    clear ha
    go_enter Tryd.func71, Tryd.ntmps71
    go_wp2_with fail
    refine (HA.out _ hvar).mono ?_
    rintro e w1 ⟨N, rfl, _, _, hb1⟩
    go_wp2
    go_ret2
    exact no hno hb1
  · exfalso
    rw [Lib.atoiAll_short _ (by simp; omega)] at ha
    cases hx : Lib.atoi s.data.toList <;> rw [hx] at ha <;> cases ha
  · rename_i v
    obtain ⟨b0, b1⟩ := Lib.atoiAll_bounds ha
    have HA := Lib.hid (fun W => Tryd.strconv_Atoi_ok s (by omega) v ha W)
    cases hin : inB v (-999999) 999999
    · have hno : rdOk s = false := Bool.eq_false_iff.2 fun h => by
        have e := rd_atoi h
        rw [ha] at e
        obtain ⟨_, c0, c1⟩ := rd_yes h
        injection e with e
        rw [← e] at c0 c1
        have : inB v (-999999) 999999 = true := by simp only [inB, Bool.and_eq_true, decide_eq_true_eq]; omega
        rw [this] at hin; cases hin
      have HIN := Lib.hid hin; clear hin ha
      go_enter Tryd.func71, Tryd.ntmps71
      go_wp2_with fail
      refine (HA.out _).mono ?_
      rintro e w1 ⟨rfl, hw1⟩
      have hb1 : Below w.heap.size w w1 := by
        rcases hw1 with rfl | ⟨t, rfl⟩
        · exact Below.refl _ _
        · exact Lib.bytesWorld_below _ _ _
      clear hw1
      go_wp2_with fail
      refine (inside_is v (-999999) 999999 _ HIN.out _).mono ?_
      rintro e w0 ⟨rfl, h0⟩
      rw [h0]
      clear h0 w0
      go_wp2
      go_ret2
      exact no hno hb1
    have hv2 : -999999 ≤ v ∧ v ≤ 999999 := by simp only [inB, Bool.and_eq_true, decide_eq_true_eq] at hin; omega
    have HIN := Lib.hid hin; clear hin
    by_cases he : numS v = s
    · have hcmp : ((numS v).toList == s.toList) = true := beq_iff_eq.2 (by rw [he])
      have hyes := rd_numS v hv2.1 hv2.2
      rw [he] at hyes
      have HY := Lib.hid hyes; clear hyes ha he
      go_enter Tryd.func71, Tryd.ntmps71
      go_wp2_with fail
      refine (HA.out _).mono ?_
      rintro e w1 ⟨rfl, hw1⟩
      have hb1 : Below w.heap.size w w1 := by
        rcases hw1 with rfl | ⟨t, rfl⟩
        · exact Below.refl _ _
        · exact Lib.bytesWorld_below _ _ _
      clear hw1
      go_wp2_with fail
      refine (inside_is v (-999999) 999999 _ HIN.out _).mono ?_
      rintro e w0 ⟨rfl, h0⟩
      rw [h0]
      clear h0 w0
      go_wp2_with fail
      refine (itoa_is v (by omega) (by omega) _ (HT.below hb1)).mono ?_
      rintro e w2 ⟨rfl, hb2⟩
      go_wp2
      go_ret2
      exact ⟨by rw [rdOut, HY.out.1, HY.out.2]; rfl, bth hb1 hb2⟩
    · have hcmp : ((numS v).toList == s.toList) = false := strEq_no he
      have hno : rdOk s = false := Bool.eq_false_iff.2 fun h => by
        have e := rd_atoi h
        rw [ha] at e
        injection e with e
        have := (rd_yes h).1
        rw [← e] at this
        exact he this.symm
      clear ha he
      go_enter Tryd.func71, Tryd.ntmps71
      go_wp2_with fail
      refine (HA.out _).mono ?_
      rintro e w1 ⟨rfl, hw1⟩
      have hb1 : Below w.heap.size w w1 := by
        rcases hw1 with rfl | ⟨t, rfl⟩
        · exact Below.refl _ _
        · exact Lib.bytesWorld_below _ _ _
      clear hw1
      go_wp2_with fail
      refine (inside_is v (-999999) 999999 _ HIN.out _).mono ?_
      rintro e w0 ⟨rfl, h0⟩
      rw [h0]
      clear h0 w0
      go_wp2_with fail
      refine (itoa_is v (by omega) (by omega) _ (HT.below hb1)).mono ?_
      rintro e w2 ⟨rfl, hb2⟩
      go_wp2
      go_ret2
      exact no hno (bth hb1 hb2)
end Go.Proofs.YtbnncgahepcfnaaDoor
