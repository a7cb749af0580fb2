/- The log, by the program: all records of a text. -/
import Derived.Test.YtpkagohflkcnkaaGreatDoorIv15
import Derived.Test.YtpkagohflkcnkaaGreatDoorIv3
import Derived.Deep.Cut
import Derived.Test.YtpkagohflkcnkaaGreatDoorIv0
namespace Go.Proofs.YtpkagohflkcnkaaGreatDoor
open Go.RowKit Go.G9
structure LRec where
  cmd : ByteArray
  rep : ByteArray
def LRec.cells (x : LRec) : List Value := [.string x.cmd, .string x.rep]
theorem LRec.cells_len (y : LRec) : y.cells.length = 2 := rfl
theorem LRec.cells_one (y : LRec) (u : Value) (h : u ∈ y.cells) : u.oneCell' = true := by simp [LRec.cells] at h; rcases h with rfl | rfl <;> rfl
def asRec (x : L8 × L8 × Nat) : LRec := ⟨bs x.1, bs x.2.1⟩
def asEnd (x : L8 × L8 × Nat) : Int := (x.2.2 : Nat)
def recsL (l : L8) : List LRec := (rdAll l).map asRec
def endsL (l : L8) : List Int := 0 :: (rdAll l).map asEnd
theorem heap_size2 (w : World) (a b : Obj) : ((w.alloc a).alloc b).heap.size = w.heap.size + 2 := by simp
theorem rdGo_len : ∀ (f k : Nat) (l : L8) (a : Nat), k ≤ 60 → (rdGo f k l a).length + k ≤ 60
  | 0, k, _, _, h => by simpa [rdGo] using h
  | f + 1, k, l, a, h => by
    unfold rdGo
    cases hx : rd1 l k with
    | none => simpa using h
    | some x =>
      obtain ⟨c, r, n⟩ := x
      have hk := (rd1_some hx).1
      have := rdGo_len f (k + 1) (l.drop n) (a + n) (by omega)
      simp; omega
theorem rdAll_len (l : L8) : (rdAll l).length ≤ 60 := rdGo_len 61 0 l 0 (by omega)
theorem info_LRec : (Tryz.prog.info? 117).map (fun i => (i.zero, i.size, i.bytes)) = some (some (.agg #[.string ⟨#[]⟩, .string ⟨#[]⟩]), 2, 32) := by kernel_rfl
set_option maxHeartbeats 4000000 in
set_option maxRecDepth 100000 in
theorem readRecords_is (l : L8) (hl : l.length ≤ 1048576) (w : World) (hT : Tab w) : Calls Tryz.prog 44 #[.string (bs l)] w fun e w' => ∃ A c A' c', e = .returned (.tuple #[.slice A (recsL l).length c, .slice A' (endsL l).length c']) ∧
    OwnV w.heap.size 117 2 LRec.cells w' (.slice A (recsL l).length c) (recsL l) ∧ OwnV w.heap.size 3 1 intC w' (.slice A' (endsL l).length c') (endsL l) ∧ Below w.heap.size w w' := by
  obtain ⟨i0, hi, hz0, hz1, hz2⟩ := info_parts info_LRec
  obtain ⟨i1, hi', hy0, hy1, hy2⟩ := info_parts info_int
  have hsz := bs_size l
  have hs1 : (bs l).size ≤ 1048576 := by omega
  have HS := Lib.hid hsz; clear hsz
  have hR0 := OwnV.built (B := w.heap.size) (f := LRec.cells) w ([] : List LRec) 117 (Nat.le_refl _) (by simp) LRec.cells_len
  have hE0 := OwnV.built (B := w.heap.size) (f := intC) (w.alloc (.cells #[] 117)) ([0] : List Int) 3 (by simp) (by simp [maxLen]) intC_len
  simp only [List.flatMap_cons, List.flatMap_nil, intC, List.append_nil] at hE0
  have HR0 := Lib.hid (hR0.alloc (.cells #[.int .i64 0] 3)); have HE0 := Lib.hid hE0; clear hR0 hE0
  go_enter Tryz.func44, Tryz.ntmps44
  go_wp2
  go_loopw [4, 5, 6] (fun v4 v5 v6 wr => ∃ (xs : List (L8 × L8 × Nat)) (a : Nat), rdAll l = xs ++ rdGo (61 - xs.length) xs.length (l.drop a) a ∧ xs.length ≤ 60 ∧ a ≤ (bs l).size ∧ v6 = .int .i64 a ∧
      OwnV w.heap.size 117 2 LRec.cells wr v4 (xs.map asRec) ∧ OwnV w.heap.size 3 1 intC wr v5 (0 :: xs.map asEnd) ∧ Ne2 v4 v5 ∧ Below w.heap.size w wr) (fun _ _ v6 _ => 1048577 - (intOf v6).toNat)
  case atStart =>
    refine ⟨[], 0, ?_, by simp, Nat.zero_le _, rfl, by simpa using HR0.out, by simpa using HE0.out, ?_, bl2 _ _ _⟩
    · rfl
    · intro k h1 h2
      simp [Value.ownBlock] at h1 h2
      omega
  case round =>
    obtain ⟨xs, a, hall, hxs, ha, rfl, hO, hE, hne, hb⟩ := hrel
    obtain ⟨A4, c4, rfl, hc4, _, _⟩ := hO.form LRec.cells_len
    obtain ⟨A5, c5, rfl, hc5, _, _⟩ := hE.form intC_len
    simp only [List.length_map, List.length_cons] at hO hE hne hc4 hc5 ⊢
    have hla : a ≤ l.length := by rw [← HS.out]; exact ha
    have hx : (bs l).extract a (bs l).size = bs (l.drop a) := by rw [bs_extract, bs_size, List.take_of_length_le (by simp)]
    have hf : ∃ f, 61 - xs.length = f + 1 ∧ f = 61 - (xs.length + 1) := ⟨60 - xs.length, by omega, by omega⟩
    obtain ⟨f, hf1, hf2⟩ := hf
    have hT' := hT.below hb
    have z0 := hb.size
    have lO := Lib.hid hO.lt; have lE := Lib.hid hE.lt
    cases hr : rd1 (l.drop a) xs.length with
    | none =>
      have hq : Calls Tryz.prog 74 #[.string ((bs l).extract a (bs l).size), .int .i64 xs.length] wr fun e w' => e = .returned (.tuple #[.agg #[.string (bs []), .string (bs [])], .int .i64 0, .bool false]) ∧ Below wr.heap.size wr w' := by
        rw [hx]; exact readRecord_is (l.drop a) (by simp; omega) xs.length hxs _ (by rw [rdOut, hr]) wr hT'
      have hdone : rdAll l = xs := by rw [hall, hf1, rdGo, hr]; simp
      have HQ := Lib.hid hq; have HD := Lib.hid hdone; have HO := Lib.hid hO; have HE := Lib.hid hE
      clear hq hdone hall hx hr hO hE hf1 hf2
      go_wp2_with fail
      refine HQ.out.mono ?_
      rintro e w1 ⟨rfl, hb1⟩
      go_wp2
      go_ret2
      have e1 : recsL l = xs.map asRec := by rw [recsL, HD.out]
      have e2 : endsL l = 0 :: xs.map asEnd := by rw [endsL, HD.out]
      rw [e1, e2]
      simp only [List.length_map, List.length_cons]
      exact ⟨A4, c4, A5, c5, rfl, (HO.out.later hb1).alloc _, (HE.out.later hb1).alloc _, (bth hb hb1).alloc (by have := hb1.size; omega) _⟩
    | some x =>
      obtain ⟨c, r, n⟩ := x
      have hn := rd1_len hr
      simp only [List.length_drop] at hn
      have hq : Calls Tryz.prog 74 #[.string ((bs l).extract a (bs l).size), .int .i64 xs.length] wr fun e w' => e = .returned (.tuple #[.agg #[.string (bs c), .string (bs r)], .int .i64 n, .bool true]) ∧ Below wr.heap.size wr w' := by
        rw [hx]; exact readRecord_is (l.drop a) (by simp; omega) xs.length hxs _ (by rw [rdOut, hr]) wr hT'
      have hk := (rd1_some hr).1
      have hnext : rdAll l = (xs ++ [(c, r, a + n)]) ++ rdGo (61 - (xs ++ [(c, r, a + n)]).length) (xs ++ [(c, r, a + n)]).length (l.drop (a + n)) (a + n) := by
        rw [hall, hf1, rdGo, hr]
        simp [hf2, List.drop_drop]
      have HQ := Lib.hid hq; have HN := Lib.hid hnext; have HO := Lib.hid hO; have HE := Lib.hid hE
      clear hq hnext hall hx hr hO hE hf1 hf2
      go_wp2_with fail
      refine HQ.out.mono ?_
      rintro e w1 ⟨rfl, hb1⟩
      have z1 := hb1.size
      have hO1 := Lib.hid (((HO.out.later hb1).alloc (.cells #[.string (bs c), .string (bs r)] 117)).alloc (.cells #[.string (bs c), .string (bs r)] 117))
      have hE1 := Lib.hid (((HE.out.later hb1).alloc (.cells #[.string (bs c), .string (bs r)] 117)).alloc (.cells #[.string (bs c), .string (bs r)] 117))
      have hone : Rds 2 LRec.cells ((w1.alloc (.cells #[.string (bs c), .string (bs r)] 117)).alloc (.cells #[.string (bs c), .string (bs r)] 117)) (some ⟨w1.heap.size + 1, 0, none⟩) [asRec (c, r, a + n)] := by
        have h := Rds.one (sz := 2) (f := LRec.cells) (w := w1.alloc (.cells #[.string (bs c), .string (bs r)] 117)) (asRec (c, r, a + n)) 117
        rw [show (w1.alloc (.cells #[.string (bs c), .string (bs r)] 117)).heap.size = w1.heap.size + 1 from by simp] at h
        exact h
      have HONE := Lib.hid hone; clear hone
      go_upto_region 7 with (at_builtin; refine wpList_app1 rfl _ _ 84 rfl w.heap.size 117 i0 _ 2 32 Tryz.underlying84 hi hz0 hz1 hz2 rfl (by decide) LRec.cells LRec.cells_len LRec.cells_one (.slice A4 xs.length c4) (xs.map asRec) rfl hO1.out ⟨w1.heap.size + 1, 0, none⟩ 1 (asRec (c, r, a + n)) rfl HONE.out (by unfold maxLen; simp; omega) (by simp; omega) (by simp; omega) ?_; intro v' w4 hO4 hg4 ha4)
      have z4 := hg4.size
      simp only [heap_size2] at z4
      have hE4 := hE1.out.ne hg4 hne
      have hne4 : Ne2 v' (.slice A5 (xs.length + 1) c5) := hne.step (fun k hk => by have := (lE.out k hk).2; simp; omega) ha4
      have lV := Lib.hid hO4.lt
      have hB4 : Below w.heap.size w w4 := (((bth hb hb1).alloc (by omega) _).alloc (by simp; omega) _).grown hg4 (by simp; omega) (fun k hk => (lO.out k hk).1)
      have HO4 := Lib.hid hO4; have HE4 := Lib.hid (hE4.alloc (.cells #[.int .i64 ((a : Int) + n)] 3)); have HNE := Lib.hid hne4; clear hO4 hE4 hne4 hg4 ha4
      go_wp2_with (at_builtin; refine wpList_app1 rfl _ _ 24 rfl w.heap.size 3 i1 _ 1 8 Tryz.underlying24 hi' hy0 hy1 hy2 rfl (by decide) intC intC_len intC_one (.slice A5 (xs.length + 1) c5) (0 :: xs.map asEnd) rfl HE4.out ⟨w4.heap.size, 0, none⟩ 1 ((a : Int) + n) rfl (Rds.one _ _) (by unfold maxLen; simp; omega) (by simp; omega) (by simp; omega) ?_; intro v5 w5 hO5 hg5 ha5)
      have z5 := hg5.size
      have hR5 := (HO4.out.alloc (.cells #[.int .i64 ((a : Int) + n)] 3)).ne hg5 HNE.out.symm
      have hne5 : Ne2 v' v5 := (HNE.out.symm.step (fun k hk => by have := (lV.out k hk).2; simp; omega) ha5).symm
      have hB5 : Below w.heap.size w w5 := (hB4.alloc (by omega) _).grown hg5 (by simp; omega) (fun k hk => (lE.out k hk).1)
      go_roundw
      case rel =>
        refine ⟨xs ++ [(c, r, a + n)], a + n, HN.out, by simp; omega, by rw [HS.out]; omega, by go_num, ?_, ?_, hne5, hB5⟩
        · rw [List.map_append]; exact hR5
        · rw [List.map_append]
          have e : ((a : Int) + n) = asEnd (c, r, a + n) := by simp [asEnd]
          rw [e] at hO5
          exact hO5
      case measure => simp [intOf]; omega
end Go.Proofs.YtpkagohflkcnkaaGreatDoor
/- The log, by the reference: sums, seals, lines, splits. -/
namespace Go.Proofs.YtpkagohflkcnkaaGreatDoor
open Go.RowKit Go.G9
set_option maxRecDepth 100000 in
theorem l1Sum_is (l : L8) (hl : l.length ≤ 1073741824) (w : World) : Calls Tryz.prog 130 #[.string (bs l)] w fun e w' => e = .returned (.int .i64 (sumL l : Nat)) ∧ w' = w := by
  have hs := bs_size l
  have hs1 : (bs l).size ≤ 1073741824 := by omega
  have HS := Lib.hid hs; clear hs
  go_enter Tryz.func130, Tryz.ntmps130
  go_wp2
  go_loop [3, 4] (fun h i => ∃ (k : Nat) (q : Int), k ≤ (bs l).size ∧ i = .int .i64 k ∧ h = .int .i64 q ∧ q = (sumL (l.take k) : Nat)) (fun _ i => (bs l).size - (intOf i).toNat)
  case atStart => exact ⟨0, 7, Nat.zero_le _, rfl, rfl, rfl⟩
  case round =>
    obtain ⟨k, q, hk, rfl, rfl, hq⟩ := hrel
    have hq2 := sumL_lt (l.take k)
    have hq3 : 0 ≤ q := by omega
    have hq4 : q < 999979 := by omega
    have HQ := Lib.hid hq; clear hq hq2
    by_cases hlt : k < (bs l).size
    · have hb : (bs l)[k].toNat < 256 := (bs l)[k].toNat_lt
      have hc : ((bs l)[k].toNat : Int) < 256 := by omega
      have hst : ((41 * q + ((bs l)[k].toNat : Int) + 1) % 999979 : Int) = (sumL (l.take (k + 1)) : Nat) := by
        rw [sum_take l k (by rw [← HS.out]; exact hlt), HQ.out, bs_get]
        omega
      have HT := Lib.hid hst; clear hst
      go_wp2
      go_round
      case rel => exact ⟨k + 1, _, by omega, by go_num, rfl, HT.out⟩
      case measure => simp [intOf]; omega
    · obtain rfl : k = (bs l).size := by omega
      go_wp2
      go_ret
      have := HQ.out
      rw [HS.out, List.take_length] at this
      exact ⟨ret_int this, rfl⟩
theorem l1Seal_is (l : L8) (hl : l.length ≤ 1073741824) (w : World) : Calls Tryz.prog 124 #[.string (bs l)] w fun e w' => e = .returned (.string (bs (sealL l))) ∧ Below w.heap.size w w' := by
  have hs1 : (bs l).size ≤ 1073741824 := by rw [bs_size]; exact hl
  have hq := sumL_lt l
  have hm := numS_size (sumL l : Nat) (by omega)
  have hcat : (bs l ++ ⟨#[35]⟩) ++ numS (sumL l : Nat) = bs (sealL l) := by
    rw [numS_bs, show (⟨#[35]⟩ : ByteArray) = bs [35] from rfl, bs_app, bs_app]; simp [sealL]
  have HC := Lib.hid hcat; clear hcat
  go_enter Tryz.func124, Tryz.ntmps124
  go_wp2_with fail
  refine (l1Sum_is l hl _).mono ?_
  rintro e w' ⟨rfl, hw'⟩
  have hw2 := hw'.symm
  subst hw2
  go_wp2_with fail
  refine (l1Num_is (sumL l : Nat) (by omega) (by omega) _).mono ?_
  rintro e w1 ⟨rfl, hb1⟩
  have hq1 : Below w.heap.size w w1 := bth (by repeat (first | exact Below.refl _ _ | refine Below.alloc ?_ (by first | exact Nat.le_refl _ | (simp <;> omega)) _ | refine Below.setCell ?_ (by first | exact Nat.le_refl _ | (simp <;> omega)) _)) hb1
  have HB : Below w.heap.size w w1 := hq1
  go_wp2
  go_ret
  exact ⟨by rw [← HC.out]; rfl, (bth HB (by repeat (first | exact Below.refl _ _ | refine Below.alloc ?_ (by first | exact Nat.le_refl _ | (simp <;> omega)) _ | refine Below.setCell ?_ (by first | exact Nat.le_refl _ | (simp <;> omega)) _)))⟩
set_option maxHeartbeats 1000000 in
set_option maxRecDepth 100000 in
theorem l27Line_is (k : Int) (hk : 0 ≤ k) (hk2 : k < 100) (c r : L8) (h : okL c r = true) (w : World) : Calls Tryz.prog 109 #[.int .i64 k, .agg #[.string (bs c), .string (bs r)]] w fun e w' => e = .returned (.string (bs (lineL k c r ++ [10]))) ∧ Below w.heap.size w w' := by
  obtain ⟨c1, c2, c3, _⟩ := okL_parts h
  have hbl := bodyL_len hk hk2 h
  have e1 : numS k ++ ⟨#[32]⟩ ++ bs c ++ ⟨#[64]⟩ ++ bs r = bs (bodyL k c r) := by
    rw [numS_bs, show (⟨#[32]⟩ : ByteArray) = bs [32] from rfl, show (⟨#[64]⟩ : ByteArray) = bs [64] from rfl, bs_app, bs_app, bs_app, bs_app]; simp [bodyL]
  have hA : ∀ W, Calls Tryz.prog 124 #[.string (numS k ++ ⟨#[32]⟩ ++ bs c ++ ⟨#[64]⟩ ++ bs r)] W fun e w' => e = .returned (.string (bs (lineL k c r))) ∧ Below W.heap.size W w' := fun W => by
    rw [e1]; exact l1Seal_is _ (by omega) W
  have hl := lineL_len hk hk2 h
  have s1 : (bs c).size ≤ 160 := by rw [bs_size]; exact c2
  have s2 : (bs r).size ≤ 200 := by rw [bs_size]; exact c3
  have s3 : (bs (lineL k c r)).size ≤ 371 := by rw [bs_size]; exact hl
  have s4 := numS_size k (by omega)
  have hcat : bs (lineL k c r) ++ ⟨#[10]⟩ = bs (lineL k c r ++ [10]) := bs_app _ _
  have HA := Lib.hid hA; have HC := Lib.hid hcat; clear hA hcat e1 hbl h
  have b0 := boxed w #[.string (bs c), .string (bs r)] 117 0 (.string (bs c)) rfl
  have b1 := boxed w #[.string (bs c), .string (bs r)] 117 1 (.string (bs r)) rfl
  go_enter Tryz.func109, Tryz.ntmps109
  go_wp2
  refine wp_region_kin (by kernel_rfl) (by kernel_rfl) ?_
  repeat (go_big_quiet_step ((first
    | (go_at_call 23; exact Kin.call _ (by first | exact Nat.le_refl _ | omega) (l1Num_is _ (by omega) (by omega) _))
    | (go_at_call 124; exact Kin.call _ (by first | exact Nat.le_refl _ | omega) (HA.out _)))))
  refine wpQuiet_nil ?_
  intro K
  go_wp2
  go_ret
  exact ⟨by rw [← HC.out]; rfl, bth (bl1 _ _) K.below⟩
/-- What the split of a text hands back: the first part, and whether there is a second. -/
structure Splits (c : UInt8) (l : L8) (ys : List ByteArray) : Prop where
  ne : ys.length ≠ 0
  first : ys[0]? = some (bs (bef c l))
  two : (2 ≤ ys.length) ↔ hasC c l = true
  len : ys.length ≤ l.length + 1
def strC (s : ByteArray) : List Value := [.string s]
theorem strC_len (y : ByteArray) : (strC y).length = 1 := rfl
theorem strC_one (y : ByteArray) (u : Value) (h : u ∈ strC y) : u.oneCell' = true := by simp [strC] at h; subst h; rfl
theorem info_string : (Tryz.prog.info? 9).map (fun i => (i.zero, i.size, i.bytes)) = some (some (.string ⟨#[]⟩), 1, 16) := by kernel_rfl
theorem bef_take {c : UInt8} {l : L8} {k : Nat} (h : hasC c (l.take k) = false) (hk : k < l.length) (hc : l[k] = c) : bef c l = l.take k ∧ hasC c l = true := by
  have hn := hasC_not.1 h
  have e : l = l.take k ++ c :: l.drop (k + 1) := by
    rw [← hc]; simp
  refine ⟨?_, ?_⟩
  · conv => lhs; rw [e]
    exact bef_app hn
  · rw [hasC_mem]; rw [← hc]; exact List.getElem_mem hk
theorem hasC_take_succ {c : UInt8} {l : L8} {k : Nat} (hk : k < l.length) (h : hasC c (l.take k) = false) (hc : l[k] ≠ c) : hasC c (l.take (k + 1)) = false := by
  rw [hasC_not] at *
  rw [List.take_succ_eq_append_getElem hk]
  simp only [List.mem_append, List.mem_singleton, not_or]
  exact ⟨h, fun e => hc e.symm⟩
set_option maxHeartbeats 2000000 in
set_option maxRecDepth 100000 in
theorem l1Split_is (l : L8) (c : UInt8) (hl : l.length ≤ 1048576) (w : World) : Calls Tryz.prog 90 #[.string (bs l), .int .u8 (c.toNat : Int)] w fun e w' => ∃ A n ys, e = .returned (.slice A ys.length n) ∧ OwnV w.heap.size 9 1 strC w' (.slice A ys.length n) ys ∧ Splits c l ys ∧ Below w.heap.size w w' := by
  obtain ⟨i0, hi, hz0, hz1, hz2⟩ := info_parts info_string
  have hsz := bs_size l
  have hs1 : (bs l).size ≤ 1048576 := by omega
  have HS := Lib.hid hsz; clear hsz
  have hR0 := OwnV.built (B := w.heap.size) (f := strC) w ([] : List ByteArray) 9 (Nat.le_refl _) (by simp) strC_len
  simp only [List.flatMap_nil] at hR0
  have HR0 := Lib.hid hR0; clear hR0
  have hcl : c.toNat < 256 := c.toNat_lt
  have hcl2 : (c.toNat : Int) < 256 := by omega
  go_enter Tryz.func90, Tryz.ntmps90
  go_wp2
  go_loopw [5, 6, 7] (fun v5 v6 v7 wr => ∃ (xs : List ByteArray) (a k : Nat), k ≤ (bs l).size ∧ a ≤ k ∧ v6 = .int .i64 a ∧ v7 = .int .i64 k ∧ xs.length ≤ k ∧ (xs.length = 0 → a = 0 ∧ hasC c (l.take k) = false) ∧ (xs.length ≠ 0 → xs[0]? = some (bs (bef c l)) ∧ hasC c l = true) ∧
      OwnV w.heap.size 9 1 strC wr v5 xs ∧ Below w.heap.size w wr) (fun _ _ v7 _ => 1048577 - (intOf v7).toNat)
  case atStart =>
    exact ⟨[], 0, 0, Nat.zero_le _, Nat.le_refl _, rfl, rfl, Nat.le_refl _, fun _ => ⟨rfl, by simp [hasC]⟩, fun h => absurd rfl h, HR0.out, bl1 _ _⟩
  case round =>
    obtain ⟨xs, a, k, hk, ha, rfl, rfl, hxl, hx0, hx1, hO, hb⟩ := hrel
    obtain ⟨A5, c5, rfl, hc5, _, _⟩ := hO.form strC_len
    have z0 := hb.size
    have lO := Lib.hid hO.lt
    have H0 := Lib.hid hx0; have H1 := Lib.hid hx1; have HO := Lib.hid hO; clear hx0 hx1 hO
    by_cases hlt : k < (bs l).size
    · have hbk : (bs l)[k].toNat < 256 := (bs l)[k].toNat_lt
      by_cases hc : (bs l)[k] = c
      · have hc2 : (((bs l)[k].toNat : Int) == (c.toNat : Int)) = true := by rw [hc]; exact beq_iff_eq.2 rfl
        have hex : (bs l).extract a k = bs ((l.drop a).take (k - a)) := bs_extract l a k
        have hnew : (xs ++ [(bs l).extract a k])[0]? = some (bs (bef c l)) ∧ hasC c l = true := by
          rcases Nat.eq_zero_or_pos xs.length with h | h
          · obtain ⟨rfl, h2⟩ := H0.out h
            obtain rfl : xs = [] := List.eq_nil_of_length_eq_zero h
            have hb2 := bef_take h2 (by rw [← HS.out]; exact hlt) (by rw [← bs_get l k hlt]; exact hc)
            refine ⟨?_, hb2.2⟩
            rw [hex, hb2.1]; simp
          · have := H1.out (by omega)
            refine ⟨?_, this.2⟩
            rw [List.getElem?_append_left h]; exact this.1
        have HN := Lib.hid hnew; clear hnew hex hc
        have hone : Rds 1 strC (wr.alloc (.cells #[.string ((bs l).extract a k)] 9)) (some ⟨wr.heap.size, 0, none⟩) [(bs l).extract a k] := Rds.one (sz := 1) (f := strC) _ _
        have HONE := Lib.hid hone; clear hone
        have HO1 := Lib.hid (HO.out.alloc (.cells #[.string ((bs l).extract a k)] 9))
        go_wp2_with (at_builtin; refine wpList_app1 rfl _ _ 125 rfl w.heap.size 9 i0 _ 1 16 Tryz.underlying125 hi hz0 hz1 hz2 rfl (by decide) strC strC_len strC_one (.slice A5 xs.length c5) xs rfl HO1.out ⟨wr.heap.size, 0, none⟩ 1 ((bs l).extract a k) rfl HONE.out (by unfold maxLen; omega) (by omega) (by simp; omega) ?_; intro v4 w4 hO4 hg4 ha4)
        have z4 := hg4.size
        have hB4 : Below w.heap.size w w4 := (hb.alloc (by omega) _).grown hg4 (by simp; omega) (fun q hq => (lO.out q hq).1)
        go_roundw
        case rel =>
          refine ⟨xs ++ [(bs l).extract a k], k + 1, k + 1, by omega, Nat.le_refl _, by go_num, by go_num, by simp; omega, fun h => ?_, fun _ => HN.out, hO4, hB4⟩
          simp at h
        case measure => simp [intOf]; omega
      · have hc2 : (((bs l)[k].toNat : Int) == (c.toNat : Int)) = false := by
          rw [beq_eq_false_iff_ne]
          intro e
          exact hc (UInt8.toNat_inj.1 (by omega))
        have hnew : xs.length = 0 → a = 0 ∧ hasC c (l.take (k + 1)) = false := fun h =>
          ⟨(H0.out h).1, hasC_take_succ (by rw [← HS.out]; exact hlt) (H0.out h).2 (by rw [← bs_get l k hlt]; exact hc)⟩
        have HN := Lib.hid hnew; clear hnew hc
        go_wp2
        go_roundw
        case rel => exact ⟨xs, a, k + 1, by omega, by omega, rfl, by go_num, by omega, HN.out, H1.out, HO.out, hb⟩
        case measure => simp [intOf]; omega
    · obtain rfl : k = (bs l).size := by omega
      have hex : (bs l).extract a (bs l).size = bs (l.drop a) := by rw [bs_extract, bs_size, List.take_of_length_le (by simp)]
      have hfin : Splits c l (xs ++ [(bs l).extract a (bs l).size]) := by
        rw [hex]
        rcases Nat.eq_zero_or_pos xs.length with h | h
        · obtain ⟨rfl, h2⟩ := H0.out h
          obtain rfl : xs = [] := List.eq_nil_of_length_eq_zero h
          rw [HS.out, List.take_length] at h2
          refine ⟨by simp, ?_, by simp [h2], by simp⟩
          rw [bef_none (hasC_not.1 h2)]; simp
        · have := H1.out (by omega)
          refine ⟨by simp, ?_, ?_, ?_⟩
          · rw [List.getElem?_append_left h]; exact this.1
          · rw [this.2]; simp; omega
          · have := HS.out; simp; omega
      have HF := Lib.hid hfin; clear hfin hex
      have hone : Rds 1 strC (wr.alloc (.cells #[.string ((bs l).extract a (bs l).size)] 9)) (some ⟨wr.heap.size, 0, none⟩) [(bs l).extract a (bs l).size] := Rds.one (sz := 1) (f := strC) _ _
      have HONE := Lib.hid hone; clear hone
      have HO1 := Lib.hid (HO.out.alloc (.cells #[.string ((bs l).extract a (bs l).size)] 9))
      go_wp2_with (at_builtin; refine wpList_app1 rfl _ _ 125 rfl w.heap.size 9 i0 _ 1 16 Tryz.underlying125 hi hz0 hz1 hz2 rfl (by decide) strC strC_len strC_one (.slice A5 xs.length c5) xs rfl HO1.out ⟨wr.heap.size, 0, none⟩ 1 ((bs l).extract a (bs l).size) rfl HONE.out (by unfold maxLen; omega) (by omega) (by simp; omega) ?_; intro v4 w4 hO4 hg4 ha4)
      have z4 := hg4.size
      have hB4 : Below w.heap.size w w4 := (hb.alloc (by omega) _).grown hg4 (by simp; omega) (fun q hq => (lO.out q hq).1)
      obtain ⟨A6, c6, rfl, _, _, _⟩ := hO4.form strC_len
      go_ret
      exact ⟨A6, c6, xs ++ [(bs l).extract a (bs l).size], rfl, hO4, HF.out, hB4⟩
end Go.Proofs.YtpkagohflkcnkaaGreatDoor
/- The log, by the reference: a line is read. -/
namespace Go.G9
open Go.RowKit
theorem Blk.drew {w : World} {g : Nat} {t : TypeId} {cs : Array Value} (h : Blk w g t cs) : Blk w.drew g t cs := h
end Go.G9
namespace Go.Proofs.YtpkagohflkcnkaaGreatDoor
open Go.RowKit Go.G9
theorem l1Split1_is (l : L8) (c : UInt8) (hl : l.length ≤ 1048576) (w : World) : Calls Tryz.prog 90 #[.string (bs l), .int .u8 (c.toNat : Int)] w fun e w' => ∃ g m n, e = .returned (.slice (some ⟨g, 0, none⟩) m n) ∧ 1 ≤ m ∧ m ≤ l.length + 1 ∧ ((2 ≤ m) ↔ hasC c l = true) ∧ w'.cell? ⟨g, 0, none⟩ = some (.string (bs (bef c l))) ∧ w.heap.size ≤ g ∧ g < w'.heap.size ∧ Below w.heap.size w w' := by
  refine (l1Split_is l c hl w).mono ?_
  rintro e w' ⟨A, n, ys, rfl, hO, hS, hb⟩
  have hp : 0 < ys.length := by have := hS.ne; omega
  obtain ⟨g, cap, cur, hv, hB, hh, hnc, hcm, hcs⟩ := hO.block hp
  injection hv with h1 h2 h3
  subst h1 h3
  obtain ⟨b, off, hA, hlt, hc⟩ := hO.rds (hf := strC_len) hp
  injection hA with hA
  injection hA with hA1 hA2
  subst hA1 hA2
  refine ⟨g, ys.length, n, rfl, by omega, hS.len, hS.two, ?_, hB, hlt, hb⟩
  exact hc 0 _ hS.first 0 _ rfl
theorem str_ne {a b : ByteArray} (h : a ≠ b) : (a.toList == b.toList) = false := beq_eq_false_iff_ne.2 (by rw [ByteArray.toList_eq, ByteArray.toList_eq]; exact fun e => h (ba_ext e))
theorem str_eq {a b : ByteArray} (h : a = b) : (a.toList == b.toList) = true := beq_iff_eq.2 (by rw [h])
set_option maxHeartbeats 4000000 in
set_option maxRecDepth 100000 in
theorem l27Read_last (l t rest ask rep : L8) (k : Nat) (hk : k < 100) (hN' : (numS (k : Int)).size ≤ 10)
    (HSP : Hid (∀ W, Calls Tryz.prog 90 #[.string (bs l), .int .u8 35] W fun e w' => ∃ g m n, e = .returned (.slice (some ⟨g, 0, none⟩) m n) ∧ 1 ≤ m ∧ m ≤ l.length + 1 ∧ ((2 ≤ m) ↔ hasC 35 l = true) ∧ w'.cell? ⟨g, 0, none⟩ = some (.string (bs t)) ∧ W.heap.size ≤ g ∧ g < w'.heap.size ∧ Below W.heap.size W w')) (HSP3 : Hid (∀ W, Calls Tryz.prog 90 #[.string (bs rest), .int .u8 64] W fun e w' => ∃ g m n, e = .returned (.slice (some ⟨g, 0, none⟩) m n) ∧ 1 ≤ m ∧ m ≤ rest.length + 1 ∧ ((2 ≤ m) ↔ hasC 64 rest = true) ∧ w'.cell? ⟨g, 0, none⟩ = some (.string (bs ask)) ∧ W.heap.size ≤ g ∧ g < w'.heap.size ∧ Below W.heap.size W w'))
    (heq : ((((bs t).extract 0 ((numS (k : Int)).size + 1))).toList == (numS (k : Int) ++ (⟨#[32]⟩ : ByteArray)).toList) = true) (hge : (numS (k : Int)).size + 1 ≤ (bs t).size) (hts2 : (bs t).size ≤ 1048576)
    (hrest : (bs t).extract ((numS (k : Int)).size + 1) (bs t).size = bs rest) (hrep : (bs rest).extract ((bs ask).size + 1) (bs rest).size = bs rep)
    (hb : (((bs ask).size : Int) == ((bs rest).size : Int)) = false) (hl1 : (bs ask).size + 1 ≤ (bs rest).size) (hl2 : (bs rest).size ≤ 1048576) (hl3 : (bs rep).size ≤ 1048576) (hl4 : (bs l).size ≤ 1048576)
    (v : Bool) (hv : (okL ask rep && decide (lineL k ask rep = l)) = v) (w : World) :
    Calls Tryz.prog 91 #[.string (bs l), .int .i64 k] w fun e w' => e = .returned (.tuple #[.agg #[.string (bs ask), .string (bs rep)], .bool v]) ∧ Below w.heap.size w w' := by
  have hgood : ∀ W, Calls Tryz.prog 108 #[.agg #[.string (bs ask), .string (bs rep)]] W fun e w' => e = .returned (.bool (okL ask rep)) ∧ Below W.heap.size W w' := fun W => l27Good_is (bs ask) (bs rep) (by omega) (by omega) _ rfl W
  have HG := Lib.hid hgood; clear hgood
  cases hok : okL ask rep
  · have hv2 : v = false := by rw [← hv, hok]; rfl
    subst hv2
    rw [hok] at HG
    clear hok hv
    go_enter Tryz.func91, Tryz.ntmps91
    go_wp2_with fail
    refine (l1Num_is k (by omega) (by omega) _).mono ?_
    rintro e w1 ⟨rfl, hb1⟩
    have hq1 : Below w.heap.size w w1 := bth (by repeat (first | exact Below.refl _ _ | refine Below.alloc ?_ (by first | exact Nat.le_refl _ | (simp <;> omega)) _ | refine Below.setCell ?_ (by first | exact Nat.le_refl _ | (simp <;> omega)) _)) hb1
    have HB : Below w.heap.size w w1 := hq1
    have hZ : Blk w1 (w.heap.size) 117 #[.string ⟨#[]⟩, .string ⟨#[]⟩] := Blk.below (by repeat (first | exact Blk.new _ _ _ | exact Blk.new2 _ _ _ _ | exact Blk.new3 _ _ _ _ _ | exact Blk.new4 _ _ _ _ _ _ | refine Blk.alloc ?_ _)) hb1 (by simp <;> omega)
    have z0 := (hZ.cell 0).trans (show _ = some (.string ⟨#[]⟩) from rfl)
    have z1 := (hZ.cell 1).trans (show _ = some (.string ⟨#[]⟩) from rfl)
    go_wp2_with fail
    refine (HSP.out _).mono ?_
    rintro e w2 ⟨g, m2, n, rfl, hm1, hm3, hm4, hc, hg, hg2, hb2⟩
    have hq2 : Below w1.heap.size w1 w2 := bth (by repeat (first | exact Below.refl _ _ | refine Below.alloc ?_ (by first | exact Nat.le_refl _ | (simp <;> omega)) _ | refine Below.setCell ?_ (by first | exact Nat.le_refl _ | (simp <;> omega)) _)) hb2
    replace HB := bth HB hq2
    replace hZ := hZ.below hq2 hZ.lt
    replace z0 := (hZ.cell 0).trans (show _ = some (.string ⟨#[]⟩) from rfl)
    replace z1 := (hZ.cell 1).trans (show _ = some (.string ⟨#[]⟩) from rfl)
    go_wp2_with fail
    refine (HSP3.out _).mono ?_
    rintro e w3 ⟨g', m3, n', rfl, hm1', hm3', hm4', hc', hg', hg2', hb3⟩
    have hq3 : Below w2.heap.size w2 w3 := bth (by repeat (first | exact Below.refl _ _ | refine Below.alloc ?_ (by first | exact Nat.le_refl _ | (simp <;> omega)) _ | refine Below.setCell ?_ (by first | exact Nat.le_refl _ | (simp <;> omega)) _)) hb3
    replace HB := bth HB hq3
    replace hZ := hZ.below hq3 hZ.lt
    replace z0 := (hZ.cell 0).trans (show _ = some (.string ⟨#[]⟩) from rfl)
    replace z1 := (hZ.cell 1).trans (show _ = some (.string ⟨#[]⟩) from rfl)
    go_wp2
    have hE : Blk (w3.alloc (.cells #[.string (bs ask), .string (bs rep)] 117)) w3.heap.size 117 #[.string (bs ask), .string (bs rep)] := Blk.new _ _ _
    have hZ' := hZ.alloc (.cells #[.string (bs ask), .string (bs rep)] 117)
    haveI : Nonempty (Hld fun V => Blk V w3.heap.size 117 #[.string (bs ask), .string (bs rep)]) := ⟨⟨_, hE⟩⟩
    have e0 := fun K : Hld (fun V => Blk V w3.heap.size 117 #[.string (bs ask), .string (bs rep)]) => (K.holds.cell 0).trans (show _ = some (.string (bs ask)) from rfl)
    have e1 := fun K : Hld (fun V => Blk V w3.heap.size 117 #[.string (bs ask), .string (bs rep)]) => (K.holds.cell 1).trans (show _ = some (.string (bs rep)) from rfl)
    refine wp_region_mixh (fun V => Blk V w3.heap.size 117 #[.string (bs ask), .string (bs rep)]) [([0, 1], 2), ([3, 4, 5, 7, 8], 6), ([9, 10], 11)] [12] (by kernel_rfl) (by kernel_rfl) hE.drew ?_
    refine wpMix_cons fun K hK => ?_
    change wpQuiet _ _ _ _ (_ :: _ :: []) _
    repeat (go_big_quiet_step (fail))
    refine wpQuiet_nil ?_
    change wpList _ _ _ (_ :: []) _ _
    go_wp2_with fail
    refine (HG.out _).mono ?_
    rintro e w4 ⟨rfl, hb4⟩
    have hE4 := hE.drew.below hb4 hE.lt
    have hZ4 := hZ'.drew.below hb4 hZ'.lt
    go_wp2
    refine Nrm_intro hE4 (hK _ _ ?_)
    refine wpMix_cons fun K2 hK2 => ?_
    change wpQuiet _ _ _ _ (_ :: _ :: _ :: _ :: _ :: []) _
    repeat (go_big_quiet_step (fail))
    refine wpQuiet_nil ?_
    change wpList _ _ _ (_ :: []) _ _
    go_wp2
    refine Nrm_intro hE4 (hK2 _ _ ?_)
    refine wpMix_cons fun K3 hK3 => ?_
    change wpQuiet _ _ _ _ (_ :: _ :: []) _
    repeat (go_big_quiet_step (fail))
    refine wpQuiet_nil ?_
    change wpList _ _ _ (_ :: []) _ _
    clear z0 z1
    have z0 := (hZ4.cell 0).trans (show _ = some (.string ⟨#[]⟩) from rfl)
    have z1 := (hZ4.cell 1).trans (show _ = some (.string ⟨#[]⟩) from rfl)
    have y0 := hZ4.frozen 0
    have y1 := hZ4.frozen 1
    have y2 := hZ4.lt
    go_wp2
    refine Nrm_intro ((hE4.far' (by have := hb3.size; have := hZ.lt; simp; omega) _).far' (by have := hb3.size; have := hZ.lt; simp; omega) _) (hK3 _ _ ?_)
    refine wpMix_last ?_
    change wpQuiet _ _ _ _ (_ :: []) _
    repeat (go_big_quiet_step (fail))
    refine wpQuiet_nil ?_
    have hF := ((hZ4.set_ 0 (.string (bs ask))).set_ 1 (.string (bs rep)))
    have r0 := (hF.cell 0).trans (show _ = some (.string (bs ask)) from rfl)
    have r1 := (hF.cell 1).trans (show _ = some (.string (bs rep)) from rfl)
    go_wp2
    have hB4 : Below w.heap.size w w4 := bth (bth HB (bl1 _ _)).drew hb4
    refine bodyPost_ret (v := .tuple #[.agg #[.string (bs ask), .string (bs rep)], .bool false]) (by simp [results, Tryz.results91, go_sem, r0, r1]) rfl ?_
    exact ⟨rfl, (hB4.setCell (Nat.le_refl _) _).setCell (Nat.le_refl _) _⟩
  · have hL : ∀ W, Calls Tryz.prog 109 #[.int .i64 k, .agg #[.string (bs ask), .string (bs rep)]] W fun e w' => e = .returned (.string (bs (lineL k ask rep ++ [10]))) ∧ Below W.heap.size W w' := fun W => l27Line_is k (by omega) (by omega) ask rep hok W
    have hll := lineL_len (k := (k : Int)) (by omega) (by omega) hok
    have hls : (bs (lineL k ask rep ++ [10])).size ≤ 372 := by rw [bs_size]; simp; omega
    have hcmp : ((bs (lineL k ask rep ++ [10])).toList == (bs l ++ (⟨#[10]⟩ : ByteArray)).toList) = v := by
      rw [← hv, hok, Bool.true_and]
      by_cases he : lineL k ask rep = l
      · rw [decide_eq_true he, he]; exact str_eq (bs_app l [10]).symm
      · rw [decide_eq_false he]
        refine str_ne fun h => he ?_
        rw [show (⟨#[10]⟩ : ByteArray) = bs [10] from rfl, bs_app] at h
        exact List.append_cancel_right (bs_inj h)
    rw [hok] at HG
    have HL := Lib.hid hL; clear hL hok hv hll
    go_enter Tryz.func91, Tryz.ntmps91
    go_wp2_with fail
    refine (l1Num_is k (by omega) (by omega) _).mono ?_
    rintro e w1 ⟨rfl, hb1⟩
    have hq1 : Below w.heap.size w w1 := bth (by repeat (first | exact Below.refl _ _ | refine Below.alloc ?_ (by first | exact Nat.le_refl _ | (simp <;> omega)) _ | refine Below.setCell ?_ (by first | exact Nat.le_refl _ | (simp <;> omega)) _)) hb1
    have HB : Below w.heap.size w w1 := hq1
    have hZ : Blk w1 (w.heap.size) 117 #[.string ⟨#[]⟩, .string ⟨#[]⟩] := Blk.below (by repeat (first | exact Blk.new _ _ _ | exact Blk.new2 _ _ _ _ | exact Blk.new3 _ _ _ _ _ | exact Blk.new4 _ _ _ _ _ _ | refine Blk.alloc ?_ _)) hb1 (by simp <;> omega)
    have z0 := (hZ.cell 0).trans (show _ = some (.string ⟨#[]⟩) from rfl)
    have z1 := (hZ.cell 1).trans (show _ = some (.string ⟨#[]⟩) from rfl)
    go_wp2_with fail
    refine (HSP.out _).mono ?_
    rintro e w2 ⟨g, m2, n, rfl, hm1, hm3, hm4, hc, hg, hg2, hb2⟩
    have hq2 : Below w1.heap.size w1 w2 := bth (by repeat (first | exact Below.refl _ _ | refine Below.alloc ?_ (by first | exact Nat.le_refl _ | (simp <;> omega)) _ | refine Below.setCell ?_ (by first | exact Nat.le_refl _ | (simp <;> omega)) _)) hb2
    replace HB := bth HB hq2
    replace hZ := hZ.below hq2 hZ.lt
    replace z0 := (hZ.cell 0).trans (show _ = some (.string ⟨#[]⟩) from rfl)
    replace z1 := (hZ.cell 1).trans (show _ = some (.string ⟨#[]⟩) from rfl)
    go_wp2_with fail
    refine (HSP3.out _).mono ?_
    rintro e w3 ⟨g', m3, n', rfl, hm1', hm3', hm4', hc', hg', hg2', hb3⟩
    have hq3 : Below w2.heap.size w2 w3 := bth (by repeat (first | exact Below.refl _ _ | refine Below.alloc ?_ (by first | exact Nat.le_refl _ | (simp <;> omega)) _ | refine Below.setCell ?_ (by first | exact Nat.le_refl _ | (simp <;> omega)) _)) hb3
    replace HB := bth HB hq3
    replace hZ := hZ.below hq3 hZ.lt
    replace z0 := (hZ.cell 0).trans (show _ = some (.string ⟨#[]⟩) from rfl)
    replace z1 := (hZ.cell 1).trans (show _ = some (.string ⟨#[]⟩) from rfl)
    go_wp2
    have hE : Blk (w3.alloc (.cells #[.string (bs ask), .string (bs rep)] 117)) w3.heap.size 117 #[.string (bs ask), .string (bs rep)] := Blk.new _ _ _
    have hZ' := hZ.alloc (.cells #[.string (bs ask), .string (bs rep)] 117)
    haveI : Nonempty (Hld fun V => Blk V w3.heap.size 117 #[.string (bs ask), .string (bs rep)]) := ⟨⟨_, hE⟩⟩
    have e0 := fun K : Hld (fun V => Blk V w3.heap.size 117 #[.string (bs ask), .string (bs rep)]) => (K.holds.cell 0).trans (show _ = some (.string (bs ask)) from rfl)
    have e1 := fun K : Hld (fun V => Blk V w3.heap.size 117 #[.string (bs ask), .string (bs rep)]) => (K.holds.cell 1).trans (show _ = some (.string (bs rep)) from rfl)
    refine wp_region_mixh (fun V => Blk V w3.heap.size 117 #[.string (bs ask), .string (bs rep)]) [([0, 1], 2), ([3, 4, 5, 7, 8], 6), ([9, 10], 11)] [12] (by kernel_rfl) (by kernel_rfl) hE.drew ?_
    refine wpMix_cons fun K hK => ?_
    change wpQuiet _ _ _ _ (_ :: _ :: []) _
    repeat (go_big_quiet_step (fail))
    refine wpQuiet_nil ?_
    change wpList _ _ _ (_ :: []) _ _
    go_wp2_with fail
    refine (HG.out _).mono ?_
    rintro e w4 ⟨rfl, hb4⟩
    have hE4 := hE.drew.below hb4 hE.lt
    have hZ4 := hZ'.drew.below hb4 hZ'.lt
    go_wp2
    refine Nrm_intro hE4 (hK _ _ ?_)
    refine wpMix_cons fun K2 hK2 => ?_
    change wpQuiet _ _ _ _ (_ :: _ :: _ :: _ :: _ :: []) _
    repeat (go_big_quiet_step (fail))
    refine wpQuiet_nil ?_
    change wpList _ _ _ (_ :: []) _ _
    go_wp2_with fail
    refine (HL.out _).mono ?_
    rintro e w5 ⟨rfl, hb5⟩
    have hE5 := hE4.below hb5 hE4.lt
    have hZ5 := hZ4.below hb5 hZ4.lt
    go_wp2
    refine Nrm_intro hE5 (hK2 _ _ ?_)
    refine wpMix_cons fun K3 hK3 => ?_
    change wpQuiet _ _ _ _ (_ :: _ :: []) _
    repeat (go_big_quiet_step (fail))
    refine wpQuiet_nil ?_
    change wpList _ _ _ (_ :: []) _ _
    clear z0 z1
    have z0 := (hZ5.cell 0).trans (show _ = some (.string ⟨#[]⟩) from rfl)
    have z1 := (hZ5.cell 1).trans (show _ = some (.string ⟨#[]⟩) from rfl)
    have y0 := hZ5.frozen 0
    have y1 := hZ5.frozen 1
    have y2 := hZ5.lt
    go_wp2
    refine Nrm_intro ((hE5.far' (by have := hb3.size; have := hZ.lt; simp; omega) _).far' (by have := hb3.size; have := hZ.lt; simp; omega) _) (hK3 _ _ ?_)
    refine wpMix_last ?_
    change wpQuiet _ _ _ _ (_ :: []) _
    repeat (go_big_quiet_step (fail))
    refine wpQuiet_nil ?_
    have hF := ((hZ5.set_ 0 (.string (bs ask))).set_ 1 (.string (bs rep)))
    have r0 := (hF.cell 0).trans (show _ = some (.string (bs ask)) from rfl)
    have r1 := (hF.cell 1).trans (show _ = some (.string (bs rep)) from rfl)
    go_wp2
    have hB5 : Below w.heap.size w w5 := bth (bth (bth HB (bl1 _ _)).drew hb4) hb5
    refine bodyPost_ret (v := .tuple #[.agg #[.string (bs ask), .string (bs rep)], .bool v]) (by simp [results, Tryz.results91, go_sem, r0, r1]) rfl ?_
    exact ⟨rfl, (hB5.setCell (Nat.le_refl _) _).setCell (Nat.le_refl _) _⟩
end Go.Proofs.YtpkagohflkcnkaaGreatDoor
