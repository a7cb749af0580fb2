/- The log, by the reference: sums, seals, lines, splits. -/
import Derived.Test.YtpejnfhenpdobaaDoorLog2
namespace Go.Proofs.YtpejnfhenpdobaaDoor
open Go.RowKit Go.G9
set_option maxRecDepth 100000 in
theorem l1Sum_is (l : L8) (hl : l.length ≤ 1073741824) (w : World) : Calls Tryd.prog 73 #[.string (bs l)] w fun e w' => e = .returned (.int .i64 (sumL l : Nat)) ∧ w' = w := by
  have hs := bs_size l
  have hs1 : (bs l).size ≤ 1073741824 := by omega
  have HS := Lib.hid hs; clear hs
  go_enter Tryd.func73, Tryd.ntmps73
  go_wp2
  go_loop [3, 4] (fun h i => ∃ (k : Nat) (q : Int), k ≤ (bs l).size ∧ i = .int .i64 k ∧ h = .int .i64 q ∧ q = (sumL (l.take k) : Nat)) (fun _ i => (bs l).size - (intOf i).toNat)
  case atStart => exact ⟨0, 7, Nat.zero_le _, rfl, rfl, rfl⟩
  case round =>
    obtain ⟨k, q, hk, rfl, rfl, hq⟩ := hrel
    have hq2 := sumL_lt (l.take k)
    have hq3 : 0 ≤ q := by omega
    have hq4 : q < 999979 := by omega
    have HQ := Lib.hid hq; clear hq hq2
    by_cases hlt : k < (bs l).size
    · have hb : (bs l)[k].toNat < 256 := (bs l)[k].toNat_lt
      have hc : ((bs l)[k].toNat : Int) < 256 := by omega
      have hst : ((41 * q + ((bs l)[k].toNat : Int) + 1) % 999979 : Int) = (sumL (l.take (k + 1)) : Nat) := by
        rw [sum_take l k (by rw [← HS.out]; exact hlt), HQ.out, bs_get]
        omega
      have HT := Lib.hid hst; clear hst
      go_wp2
      go_round
      case rel => exact ⟨k + 1, _, by omega, by go_num, rfl, HT.out⟩
      case measure => simp [intOf]; omega
    · obtain rfl : k = (bs l).size := by omega
      go_wp2
      go_ret
      have := HQ.out
      rw [HS.out, List.take_length] at this
      exact ⟨ret_int this, rfl⟩
theorem l1Seal_is (l : L8) (hl : l.length ≤ 1073741824) (w : World) : Calls Tryd.prog 63 #[.string (bs l)] w fun e w' => e = .returned (.string (bs (sealL l))) ∧ Below w.heap.size w w' := by
  have hs1 : (bs l).size ≤ 1073741824 := by rw [bs_size]; exact hl
  have hq := sumL_lt l
  have hm := numS_size (sumL l : Nat) (by omega)
  have hcat : (bs l ++ ⟨#[35]⟩) ++ numS (sumL l : Nat) = bs (sealL l) := by
    rw [numS_bs, show (⟨#[35]⟩ : ByteArray) = bs [35] from rfl, bs_app, bs_app]; simp [sealL]
  have HC := Lib.hid hcat; clear hcat
  go_enter Tryd.func63, Tryd.ntmps63
  go_wp2_with fail
  refine (l1Sum_is l hl _).mono ?_
  rintro e w' ⟨rfl, hw'⟩
  have hw2 := hw'.symm
  subst hw2
  go_wp2_with fail
  refine (l1Num_is (sumL l : Nat) (by omega) (by omega) _).mono ?_
  rintro e w1 ⟨rfl, hb1⟩
  have hq1 : Below w.heap.size w w1 := bth (by repeat (first | exact Below.refl _ _ | refine Below.alloc ?_ (by first | exact Nat.le_refl _ | (simp <;> omega)) _ | refine Below.setCell ?_ (by first | exact Nat.le_refl _ | (simp <;> omega)) _)) hb1
  have HB : Below w.heap.size w w1 := hq1
  go_wp2
  go_ret
  exact ⟨by rw [← HC.out]; rfl, (bth HB (by repeat (first | exact Below.refl _ _ | refine Below.alloc ?_ (by first | exact Nat.le_refl _ | (simp <;> omega)) _ | refine Below.setCell ?_ (by first | exact Nat.le_refl _ | (simp <;> omega)) _)))⟩
set_option maxHeartbeats 1000000 in
set_option maxRecDepth 100000 in
theorem l27Line_is (k : Int) (hk : 0 ≤ k) (hk2 : k < 100) (c r : L8) (h : okL c r = true) (w : World) : Calls Tryd.prog 44 #[.int .i64 k, .agg #[.string (bs c), .string (bs r)]] w fun e w' => e = .returned (.string (bs (lineL k c r ++ [10]))) ∧ Below w.heap.size w w' := by
  obtain ⟨c1, c2, c3, _⟩ := okL_parts h
  have hbl := bodyL_len hk hk2 h
  have e1 : numS k ++ ⟨#[32]⟩ ++ bs c ++ ⟨#[64]⟩ ++ bs r = bs (bodyL k c r) := by
    rw [numS_bs, show (⟨#[32]⟩ : ByteArray) = bs [32] from rfl, show (⟨#[64]⟩ : ByteArray) = bs [64] from rfl, bs_app, bs_app, bs_app, bs_app]; simp [bodyL]
  have hA : ∀ W, Calls Tryd.prog 63 #[.string (numS k ++ ⟨#[32]⟩ ++ bs c ++ ⟨#[64]⟩ ++ bs r)] W fun e w' => e = .returned (.string (bs (lineL k c r))) ∧ Below W.heap.size W w' := fun W => by
    rw [e1]; exact l1Seal_is _ (by omega) W
  have hl := lineL_len hk hk2 h
  have s1 : (bs c).size ≤ 160 := by rw [bs_size]; exact c2
  have s2 : (bs r).size ≤ 200 := by rw [bs_size]; exact c3
  have s3 : (bs (lineL k c r)).size ≤ 371 := by rw [bs_size]; exact hl
  have s4 := numS_size k (by omega)
  have hcat : bs (lineL k c r) ++ ⟨#[10]⟩ = bs (lineL k c r ++ [10]) := bs_app _ _
  have HA := Lib.hid hA; have HC := Lib.hid hcat; clear hA hcat e1 hbl h
  have b0 := boxed w #[.string (bs c), .string (bs r)] 27 0 (.string (bs c)) rfl
  have b1 := boxed w #[.string (bs c), .string (bs r)] 27 1 (.string (bs r)) rfl
  go_enter Tryd.func44, Tryd.ntmps44
  go_wp2
  refine wp_region_kin (by kernel_rfl) (by kernel_rfl) ?_
  repeat (go_big_quiet_step ((first
    | (go_at_call 64; exact Kin.call _ (by first | exact Nat.le_refl _ | omega) (l1Num_is _ (by omega) (by omega) _))
    | (go_at_call 63; exact Kin.call _ (by first | exact Nat.le_refl _ | omega) (HA.out _)))))
  refine wpQuiet_nil ?_
  intro K
  go_wp2
  go_ret
  exact ⟨by rw [← HC.out]; rfl, bth (bl1 _ _) K.below⟩
/-- What the split of a text hands back: the first part, and whether there is a second. -/
structure Splits (c : UInt8) (l : L8) (ys : List ByteArray) : Prop where
  ne : ys.length ≠ 0
  first : ys[0]? = some (bs (bef c l))
  two : (2 ≤ ys.length) ↔ hasC c l = true
  len : ys.length ≤ l.length + 1
def strC (s : ByteArray) : List Value := [.string s]
theorem strC_len (y : ByteArray) : (strC y).length = 1 := rfl
theorem strC_one (y : ByteArray) (u : Value) (h : u ∈ strC y) : u.oneCell' = true := by simp [strC] at h; subst h; rfl
theorem info_string : (Tryd.prog.info? 9).map (fun i => (i.zero, i.size, i.bytes)) = some (some (.string ⟨#[]⟩), 1, 16) := by kernel_rfl
theorem bef_take {c : UInt8} {l : L8} {k : Nat} (h : hasC c (l.take k) = false) (hk : k < l.length) (hc : l[k] = c) : bef c l = l.take k ∧ hasC c l = true := by
  have hn := hasC_not.1 h
  have e : l = l.take k ++ c :: l.drop (k + 1) := by
    rw [← hc]; simp
  refine ⟨?_, ?_⟩
  · conv => lhs; rw [e]
    exact bef_app hn
  · rw [hasC_mem]; rw [← hc]; exact List.getElem_mem hk
theorem hasC_take_succ {c : UInt8} {l : L8} {k : Nat} (hk : k < l.length) (h : hasC c (l.take k) = false) (hc : l[k] ≠ c) : hasC c (l.take (k + 1)) = false := by
  rw [hasC_not] at *
  rw [List.take_succ_eq_append_getElem hk]
  simp only [List.mem_append, List.mem_singleton, not_or]
  exact ⟨h, fun e => hc e.symm⟩
set_option maxHeartbeats 2000000 in
set_option maxRecDepth 100000 in
theorem l1Split_is (l : L8) (c : UInt8) (hl : l.length ≤ 1048576) (w : World) : Calls Tryd.prog 67 #[.string (bs l), .int .u8 (c.toNat : Int)] w fun e w' => ∃ A n ys, e = .returned (.slice A ys.length n) ∧ OwnV w.heap.size 9 1 strC w' (.slice A ys.length n) ys ∧ Splits c l ys ∧ Below w.heap.size w w' := by
  obtain ⟨i0, hi, hz0, hz1, hz2⟩ := info_parts info_string
  have hsz := bs_size l
  have hs1 : (bs l).size ≤ 1048576 := by omega
  have HS := Lib.hid hsz; clear hsz
  have hR0 := OwnV.built (B := w.heap.size) (f := strC) w ([] : List ByteArray) 9 (Nat.le_refl _) (by simp) strC_len
  simp only [List.flatMap_nil] at hR0
  have HR0 := Lib.hid hR0; clear hR0
  have hcl : c.toNat < 256 := c.toNat_lt
  have hcl2 : (c.toNat : Int) < 256 := by omega
  go_enter Tryd.func67, Tryd.ntmps67
  go_wp2
  go_loopw [5, 6, 7] (fun v5 v6 v7 wr => ∃ (xs : List ByteArray) (a k : Nat), k ≤ (bs l).size ∧ a ≤ k ∧ v6 = .int .i64 a ∧ v7 = .int .i64 k ∧ xs.length ≤ k ∧ (xs.length = 0 → a = 0 ∧ hasC c (l.take k) = false) ∧ (xs.length ≠ 0 → xs[0]? = some (bs (bef c l)) ∧ hasC c l = true) ∧
      OwnV w.heap.size 9 1 strC wr v5 xs ∧ Below w.heap.size w wr) (fun _ _ v7 _ => 1048577 - (intOf v7).toNat)
  case atStart =>
    exact ⟨[], 0, 0, Nat.zero_le _, Nat.le_refl _, rfl, rfl, Nat.le_refl _, fun _ => ⟨rfl, by simp [hasC]⟩, fun h => absurd rfl h, HR0.out, bl1 _ _⟩
  case round =>
    obtain ⟨xs, a, k, hk, ha, rfl, rfl, hxl, hx0, hx1, hO, hb⟩ := hrel
    obtain ⟨A5, c5, rfl, hc5, _, _⟩ := hO.form strC_len
    have z0 := hb.size
    have lO := Lib.hid hO.lt
    have H0 := Lib.hid hx0; have H1 := Lib.hid hx1; have HO := Lib.hid hO; clear hx0 hx1 hO
    by_cases hlt : k < (bs l).size
    · have hbk : (bs l)[k].toNat < 256 := (bs l)[k].toNat_lt
      by_cases hc : (bs l)[k] = c
      · have hc2 : (((bs l)[k].toNat : Int) == (c.toNat : Int)) = true := by rw [hc]; exact beq_iff_eq.2 rfl
        have hex : (bs l).extract a k = bs ((l.drop a).take (k - a)) := bs_extract l a k
        have hnew : (xs ++ [(bs l).extract a k])[0]? = some (bs (bef c l)) ∧ hasC c l = true := by
          rcases Nat.eq_zero_or_pos xs.length with h | h
          · obtain ⟨rfl, h2⟩ := H0.out h
            obtain rfl : xs = [] := List.eq_nil_of_length_eq_zero h
            have hb2 := bef_take h2 (by rw [← HS.out]; exact hlt) (by rw [← bs_get l k hlt]; exact hc)
            refine ⟨?_, hb2.2⟩
            rw [hex, hb2.1]; simp
          · have := H1.out (by omega)
            refine ⟨?_, this.2⟩
            rw [List.getElem?_append_left h]; exact this.1
        have HN := Lib.hid hnew; clear hnew hex hc
        have hone : Rds 1 strC (wr.alloc (.cells #[.string ((bs l).extract a k)] 9)) (some ⟨wr.heap.size, 0, none⟩) [(bs l).extract a k] := Rds.one (sz := 1) (f := strC) _ _
        have HONE := Lib.hid hone; clear hone
        have HO1 := Lib.hid (HO.out.alloc (.cells #[.string ((bs l).extract a k)] 9))
        go_wp2_with (at_builtin; refine wpList_app1 rfl _ _ 86 rfl w.heap.size 9 i0 _ 1 16 Tryd.underlying86 hi hz0 hz1 hz2 rfl (by decide) strC strC_len strC_one (.slice A5 xs.length c5) xs rfl HO1.out ⟨wr.heap.size, 0, none⟩ 1 ((bs l).extract a k) rfl HONE.out (by unfold maxLen; omega) (by omega) (by simp; omega) ?_; intro v4 w4 hO4 hg4 ha4)
        have z4 := hg4.size
        have hB4 : Below w.heap.size w w4 := (hb.alloc (by omega) _).grown hg4 (by simp; omega) (fun q hq => (lO.out q hq).1)
        go_roundw
        case rel =>
          refine ⟨xs ++ [(bs l).extract a k], k + 1, k + 1, by omega, Nat.le_refl _, by go_num, by go_num, by simp; omega, fun h => ?_, fun _ => HN.out, hO4, hB4⟩
          simp at h
        case measure => simp [intOf]; omega
      · have hc2 : (((bs l)[k].toNat : Int) == (c.toNat : Int)) = false := by
          rw [beq_eq_false_iff_ne]
          intro e
          exact hc (UInt8.toNat_inj.1 (by omega))
        have hnew : xs.length = 0 → a = 0 ∧ hasC c (l.take (k + 1)) = false := fun h =>
          ⟨(H0.out h).1, hasC_take_succ (by rw [← HS.out]; exact hlt) (H0.out h).2 (by rw [← bs_get l k hlt]; exact hc)⟩
        have HN := Lib.hid hnew; clear hnew hc
        go_wp2
        go_roundw
        case rel => exact ⟨xs, a, k + 1, by omega, by omega, rfl, by go_num, by omega, HN.out, H1.out, HO.out, hb⟩
        case measure => simp [intOf]; omega
    · obtain rfl : k = (bs l).size := by omega
      have hex : (bs l).extract a (bs l).size = bs (l.drop a) := by rw [bs_extract, bs_size, List.take_of_length_le (by simp)]
      have hfin : Splits c l (xs ++ [(bs l).extract a (bs l).size]) := by
        rw [hex]
        rcases Nat.eq_zero_or_pos xs.length with h | h
        · obtain ⟨rfl, h2⟩ := H0.out h
          obtain rfl : xs = [] := List.eq_nil_of_length_eq_zero h
          rw [HS.out, List.take_length] at h2
          refine ⟨by simp, ?_, by simp [h2], by simp⟩
          rw [bef_none (hasC_not.1 h2)]; simp
        · have := H1.out (by omega)
          refine ⟨by simp, ?_, ?_, ?_⟩
          · rw [List.getElem?_append_left h]; exact this.1
          · rw [this.2]; simp; omega
          · have := HS.out; simp; omega
      have HF := Lib.hid hfin; clear hfin hex
      have hone : Rds 1 strC (wr.alloc (.cells #[.string ((bs l).extract a (bs l).size)] 9)) (some ⟨wr.heap.size, 0, none⟩) [(bs l).extract a (bs l).size] := Rds.one (sz := 1) (f := strC) _ _
      have HONE := Lib.hid hone; clear hone
      have HO1 := Lib.hid (HO.out.alloc (.cells #[.string ((bs l).extract a (bs l).size)] 9))
      go_wp2_with (at_builtin; refine wpList_app1 rfl _ _ 86 rfl w.heap.size 9 i0 _ 1 16 Tryd.underlying86 hi hz0 hz1 hz2 rfl (by decide) strC strC_len strC_one (.slice A5 xs.length c5) xs rfl HO1.out ⟨wr.heap.size, 0, none⟩ 1 ((bs l).extract a (bs l).size) rfl HONE.out (by unfold maxLen; omega) (by omega) (by simp; omega) ?_; intro v4 w4 hO4 hg4 ha4)
      have z4 := hg4.size
      have hB4 : Below w.heap.size w w4 := (hb.alloc (by omega) _).grown hg4 (by simp; omega) (fun q hq => (lO.out q hq).1)
      obtain ⟨A6, c6, rfl, _, _, _⟩ := hO4.form strC_len
      go_ret
      exact ⟨A6, c6, xs ++ [(bs l).extract a (bs l).size], rfl, hO4, HF.out, hB4⟩
end Go.Proofs.YtpejnfhenpdobaaDoor
