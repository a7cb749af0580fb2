/- The log, by the program: cuts, checksums, lines. -/
import Derived.Test.YtpkagohflkcnkaaGreatDoorIv14
import Derived.Test.YtpkagohflkcnkaaGreatDoorIv2
import Derived.IntWalk
namespace Go.G9
open Go.RowKit
theorem indexByte_ge' (c : UInt8) (l : L8) : -1 ≤ Lib.indexByte l c := (Go.Proofs.YtpkagohflkcnkaaGreatDoor.indexByte_ge c l).1
theorem indexByte_pos {c : UInt8} : ∀ (l : L8), 0 ≤ Lib.indexByte l c → ∃ i : Nat, Lib.indexByte l c = i ∧ i < l.length ∧ bef c l = l.take i ∧ aft c l = l.drop (i + 1)
  | [], h => by simp [Lib.indexByte] at h
  | b :: l, h => by
    unfold Lib.indexByte at h ⊢
    by_cases hb : b == c
    · refine ⟨0, by simp [hb], by simp, ?_, ?_⟩
      · simp [bef, hb]
      · simp [aft, hb]
    · by_cases h2 : Lib.indexByte l c = -1
      · simp [hb, h2] at h
      · have h3 : -1 ≤ Lib.indexByte l c := indexByte_ge' c l
        obtain ⟨i, e, hi, e1, e2⟩ := indexByte_pos (c := c) l (by omega)
        refine ⟨i + 1, by simp [hb, h2]; omega, by simp; omega, ?_, ?_⟩
        · have : bef c (b :: l) = b :: bef c l := by simp [bef, hb]
          rw [this, e1]; simp
        · have : aft c (b :: l) = aft c l := by simp [aft, hb]
          rw [this, e2]; simp
theorem indexByte_neg {c : UInt8} : ∀ (l : L8), Lib.indexByte l c < 0 → c ∉ l
  | [], _ => by simp
  | b :: l, h => by
    unfold Lib.indexByte at h
    by_cases hb : b == c
    · simp [hb] at h
    · have h3 := indexByte_ge' c l
      by_cases h2 : Lib.indexByte l c = -1
      · have := indexByte_neg (c := c) l (by omega)
        simp at hb
        simp [this, Ne.symm hb]
      · simp [hb, h2] at h; omega
theorem bs_extract (l : L8) (a b : Nat) : (bs l).extract a b = bs ((l.drop a).take (b - a)) := ba_ext (by
  rw [bs_list]
  show ((⟨l.toArray⟩ : ByteArray).extract a b).data.toList = _
  simp [ByteArray.extract, ByteArray.copySlice, List.take_drop])
end Go.G9
namespace Go.Proofs.YtpkagohflkcnkaaGreatDoor
open Go.RowKit Go.G9
theorem sIndexL_is (l : L8) (c : UInt8) (w : World) : Calls Tryz.prog 125 #[.string (bs l), .string ⟨#[c]⟩] w fun e w' => e = .returned (.int .i64 (Lib.indexByte l c)) ∧ w' = w := by
  have := sIndex1_is (bs l) c w
  rwa [bs_list] at this
set_option maxRecDepth 100000 in
theorem sCut1_is (l : L8) (c : UInt8) (hl : l.length ≤ 1073741824) (w : World) : Calls Tryz.prog 112 #[.string (bs l), .string ⟨#[c]⟩] w fun e w' => e = .returned (.tuple #[.string (bs (bef c l)), .string (bs (aft c l)), .bool (hasC c l)]) ∧ Below w.heap.size w w' := by
  by_cases hc : 0 ≤ Lib.indexByte l c
  · obtain ⟨i, e, hlt, e1, e2⟩ := indexByte_pos (c := c) l hc
    have hm : hasC c l = true := by
      rw [hasC_mem]
      refine Classical.byContradiction fun hn => ?_
      have := bef_none hn
      rw [e1] at this
      have := congrArg List.length this
      simp at this; omega
    have x1 : (bs l).extract 0 i = bs (bef c l) := by rw [bs_extract, e1]; simp
    have x2 : (bs l).extract (i + 1) (bs l).size = bs (aft c l) := by rw [bs_extract, e2, bs_size, List.take_of_length_le (by simp)]
    have HM := Lib.hid hm; have X1 := Lib.hid x1; have X2 := Lib.hid x2; clear hm e1 e2 x1 x2
    have hi : ∀ W, Calls Tryz.prog 125 #[.string (bs l), .string ⟨#[c]⟩] W fun e w' => e = .returned (.int .i64 i) ∧ w' = W := fun W => by
      have := sIndexL_is l c W
      rwa [e] at this
    have HI := Lib.hid hi; clear hi e hc
    have hs := bs_size l
    have hs1 : i ≤ (bs l).size := by omega
    have hs2 : i + 1 ≤ (bs l).size := by omega
    have hs3 : (bs l).size ≤ 1073741824 := by omega
    clear hs
    have hw : IntKind.i64.wrap ((i : Int) + 1) = (i : Int) + 1 := IntWalk.i64_in _ (by omega)
    go_enter Tryz.func112, Tryz.ntmps112
    go_wp2_with fail
    refine (HI.out _).mono ?_
    rintro e _ ⟨rfl, rfl⟩
    go_wp2
    refine wp_region_kin (by kernel_rfl) (by kernel_rfl) ?_
    repeat (go_big_quiet_step ((fail)))
    refine wpQuiet_nil ?_
    intro K
    go_wp2
    go_ret3
    exact ⟨by rw [HM.out, ← X1.out, ← X2.out]; rfl, K.below⟩
  · have hn := indexByte_neg (c := c) l (by omega)
    have hm : hasC c l = false := hasC_not.2 hn
    have x1 := bef_none hn
    have x2 := aft_none hn
    have HM := Lib.hid hm; have X1 := Lib.hid x1; have X2 := Lib.hid x2; clear hm x1 x2 hn
    have hneg : Lib.indexByte l c < 0 := by omega
    clear hc
    go_enter Tryz.func112, Tryz.ntmps112
    go_wp2_with fail
    refine (sIndexL_is l c _).mono ?_
    rintro e _ ⟨rfl, rfl⟩
    go_wp2
    go_ret3
    exact ⟨by rw [HM.out, X1.out, X2.out]; rfl, Below.refl _ _⟩
theorem cut1_is (l : L8) (c : UInt8) (hl : l.length ≤ 1073741824) (w : World) : Calls Tryz.prog 99 #[.string (bs l), .string ⟨#[c]⟩] w fun e w' => e = .returned (.tuple #[.string (bs (bef c l)), .string (bs (aft c l)), .bool (hasC c l)]) ∧ Below w.heap.size w w' := by
  go_enter Tryz.func99, Tryz.ntmps99
  go_wp2_with fail
  refine (sCut1_is l c hl _).mono ?_
  rintro e w1 ⟨rfl, hb1⟩
  have hq1 : Below w.heap.size w w1 := bth (by repeat (first | exact Below.refl _ _ | refine Below.alloc ?_ (by first | exact Nat.le_refl _ | (simp <;> omega)) _ | refine Below.setCell ?_ (by first | exact Nat.le_refl _ | (simp <;> omega)) _)) hb1
  have HB : Below w.heap.size w w1 := hq1
  go_wp2
  go_ret3
  exact ⟨rfl, (bth HB (by repeat (first | exact Below.refl _ _ | refine Below.alloc ?_ (by first | exact Nat.le_refl _ | (simp <;> omega)) _ | refine Below.setCell ?_ (by first | exact Nat.le_refl _ | (simp <;> omega)) _)))⟩
theorem sum_take (l : L8) (k : Nat) (h : k < l.length) : sumL (l.take (k + 1)) = (41 * sumL (l.take k) + (l[k]).toNat + 1) % 999979 := by
  unfold sumL
  rw [List.take_succ_eq_append_getElem h, List.foldl_append]
  rfl
theorem bs_get (l : L8) (k : Nat) (h : k < (bs l).size) : (bs l)[k] = l[k]'(by rw [bs_size] at h; exact h) := by
  show (bs l).data[k]'(h) = _
  simp [bs]
set_option maxRecDepth 100000 in
theorem checksum_is (l : L8) (hl : l.length ≤ 1073741824) (w : World) : Calls Tryz.prog 127 #[.string (bs l)] w fun e w' => e = .returned (.int .i64 (sumL l : Nat)) ∧ w' = w := by
  have hs := bs_size l
  have hs1 : (bs l).size ≤ 1073741824 := by omega
  have HS := Lib.hid hs; clear hs
  go_enter Tryz.func127, Tryz.ntmps127
  go_wp2
  go_loop [3, 4] (fun h i => ∃ (k : Nat) (q : Int), k ≤ (bs l).size ∧ i = .int .i64 k ∧ h = .int .i64 q ∧ q = (sumL (l.take k) : Nat)) (fun _ i => (bs l).size - (intOf i).toNat)
  case atStart => exact ⟨0, 7, Nat.zero_le _, rfl, rfl, rfl⟩
  case round =>
    obtain ⟨k, q, hk, rfl, rfl, hq⟩ := hrel
    have hq2 := sumL_lt (l.take k)
    have hq3 : 0 ≤ q := by omega
    have hq4 : q < 999979 := by omega
    have HQ := Lib.hid hq; clear hq hq2
    by_cases hlt : k < (bs l).size
    · have hb : (bs l)[k].toNat < 256 := (bs l)[k].toNat_lt
      have hc : ((bs l)[k].toNat : Int) < 256 := by omega
      have hst : ((41 * q + ((bs l)[k].toNat : Int) + 1) % 999979 : Int) = (sumL (l.take (k + 1)) : Nat) := by
        rw [sum_take l k (by rw [← HS.out]; exact hlt), HQ.out, bs_get]
        omega
      have HT := Lib.hid hst; clear hst
      go_wp2
      go_round
      case rel => exact ⟨k + 1, _, by omega, by go_num, rfl, HT.out⟩
      case measure => simp [intOf]; omega
    · obtain rfl : k = (bs l).size := by omega
      go_wp2
      go_ret
      have := HQ.out
      rw [HS.out, List.take_length] at this
      exact ⟨ret_int this, rfl⟩
theorem numS_bs (n : Int) : numS n = bs (numL n) := rfl
theorem sealL_len (l : L8) : (sealL l).length ≤ l.length + 7 := by
  have b := numL_len (n := (sumL l : Nat)) (by omega) (by have := sumL_lt l; omega)
  unfold sealL
  simp only [List.length_append, List.length_cons]
  omega
theorem bodyL_len {k : Int} (hk : 0 ≤ k) (hk2 : k < 100) {c r : L8} (h : okL c r = true) : (bodyL k c r).length ≤ 364 := by
  obtain ⟨h1, h2, h3, _⟩ := okL_parts h
  have a := numL_len2 hk hk2
  unfold bodyL
  simp only [List.length_append, List.length_cons]
  omega
set_option maxHeartbeats 1000000 in
set_option maxRecDepth 100000 in
theorem appendChk_is (l : L8) (hl : l.length ≤ 3000) (hn : (35 : UInt8) ∉ l) (w : World) (hT : Tab w) : Calls Tryz.prog 115 #[.string (bs l)] w fun e w' => e = .returned (.tuple #[.string (bs (sealL l)), .bool true]) ∧ Below w.heap.size w w' := by
  have hst : stB (bs l) 35 = false := by
    unfold stB; rw [bs_list, List.any_eq_false]; intro x hx; simp; rintro rfl; exact hn hx
  have hs1 : (bs l).size ≤ 3000 := by rw [bs_size]; exact hl
  have hq := sumL_lt l
  have hm := numS_size (sumL l : Nat) (by omega)
  have hcat : (bs l ++ ⟨#[35]⟩) ++ numS (sumL l : Nat) = bs (sealL l) := by
    rw [numS_bs, show (⟨#[35]⟩ : ByteArray) = bs [35] from rfl, bs_app, bs_app]; simp [sealL]
  have HC := Lib.hid hcat; clear hcat hn
  go_enter Tryz.func115, Tryz.ntmps115
  go_wp2_with fail
  refine (contains1_is (bs l) 35 _ hst _).mono ?_
  rintro e _ ⟨rfl, rfl⟩
  go_wp2_with fail
  refine (checksum_is l (by omega) _).mono ?_
  rintro e _ ⟨rfl, rfl⟩
  go_wp2_with fail
  refine (itoa_is (sumL l : Nat) (by omega) (by omega) _ hT).mono ?_
  rintro e w1 ⟨rfl, hb1⟩
  go_wp2
  go_ret2
  exact ⟨by rw [← HC.out]; rfl, hb1⟩
set_option maxHeartbeats 1000000 in
set_option maxRecDepth 100000 in
theorem encodeRecord_is (k : Int) (hk : 0 ≤ k) (hk2 : k < 100) (c r : L8) (h : okL c r = true) (w : World) (hT : Tab w) : Calls Tryz.prog 101 #[.int .i64 k, .agg #[.string (bs c), .string (bs r)]] w fun e w' => e = .returned (.string (bs (lineL k c r ++ [10]))) ∧ Below w.heap.size w w' := by
  obtain ⟨c1, c2, c3, _⟩ := okL_parts h
  have hbl := bodyL_len hk hk2 h
  have hn := (body_parts hk h).1
  have e1 : numS k ++ ⟨#[32]⟩ ++ bs c ++ ⟨#[64]⟩ ++ bs r = bs (bodyL k c r) := by
    rw [numS_bs, show (⟨#[32]⟩ : ByteArray) = bs [32] from rfl, show (⟨#[64]⟩ : ByteArray) = bs [64] from rfl, bs_app, bs_app, bs_app, bs_app]; simp [bodyL]
  have hA : ∀ W, Tab W → Calls Tryz.prog 115 #[.string (numS k ++ ⟨#[32]⟩ ++ bs c ++ ⟨#[64]⟩ ++ bs r)] W fun e w' => e = .returned (.tuple #[.string (bs (lineL k c r)), .bool true]) ∧ Below W.heap.size W w' := fun W hW => by
    rw [e1]; exact appendChk_is _ (by omega) hn W hW
  have hl := lineL_len hk hk2 h
  have s1 : (bs c).size ≤ 160 := by rw [bs_size]; exact c2
  have s2 : (bs r).size ≤ 200 := by rw [bs_size]; exact c3
  have s3 : (bs (lineL k c r)).size ≤ 371 := by rw [bs_size]; exact hl
  have s4 := numS_size k (by omega)
  have hcat : bs (lineL k c r) ++ ⟨#[10]⟩ = bs (lineL k c r ++ [10]) := bs_app _ _
  have HA := Lib.hid hA; have HC := Lib.hid hcat; clear hA hcat e1 hn hbl h
  have HT := Lib.hid (hT.below (bl1 w (.cells #[.string (bs c), .string (bs r)] 117)))
  have b0 := boxed w #[.string (bs c), .string (bs r)] 117 0 (.string (bs c)) rfl
  have b1 := boxed w #[.string (bs c), .string (bs r)] 117 1 (.string (bs r)) rfl
  go_enter Tryz.func101, Tryz.ntmps101
  go_wp2
  refine wp_region_kin (by kernel_rfl) (by kernel_rfl) ?_
  repeat (go_big_quiet_step ((first
    | (go_at_call 26; exact Kin.call _ (by first | exact Nat.le_refl _ | omega) (itoa_is _ (by omega) (by omega) _ (HT.out.below (Kin.below _))))
    | (go_at_call 115; exact Kin.call _ (by first | exact Nat.le_refl _ | omega) (HA.out _ (HT.out.below (Kin.below _)))))))
  refine wpQuiet_nil ?_
  intro K
  go_wp2
  go_ret
  exact ⟨by rw [← HC.out]; rfl, bth (bl1 _ _) K.below⟩
def rdOut (l : L8) (k : Nat) : Value := match rd1 l k with
  | some (c, r, n) => .tuple #[.agg #[.string (bs c), .string (bs r)], .int .i64 n, .bool true]
  | none => .tuple #[.agg #[.string (bs []), .string (bs [])], .int .i64 0, .bool false]
theorem rdOut_if (l : L8) (k : Nat) (hh : hasC 10 l = true) (hk : k < 60) (line cmd rep : L8) (h1 : bef 10 l = line) (h2 : bef 64 (aft 32 (bef 35 line)) = cmd) (h3 : aft 64 (aft 32 (bef 35 line)) = rep) :
    rdOut l k = if okL cmd rep && decide (lineL k cmd rep = line) then .tuple #[.agg #[.string (bs cmd), .string (bs rep)], .int .i64 (line.length + 1 : Nat), .bool true] else .tuple #[.agg #[.string (bs []), .string (bs [])], .int .i64 0, .bool false] := by
  subst h1 h2 h3
  unfold rdOut rd1
  rw [hh, if_pos (by simp [hk])]
  unfold rdI
  simp only
  generalize (okL (bef 64 (aft 32 (bef 35 (bef 10 l)))) (aft 64 (aft 32 (bef 35 (bef 10 l)))) && decide (lineL k (bef 64 (aft 32 (bef 35 (bef 10 l)))) (aft 64 (aft 32 (bef 35 (bef 10 l)))) = bef 10 l)) = b
  cases b <;> rfl
set_option maxHeartbeats 8000000 in
set_option maxRecDepth 100000 in
theorem readRecord_is (l : L8) (hl : l.length ≤ 1048576) (k : Nat) (hk : k ≤ 60) (v : Value) (hv : rdOut l k = v) (w : World) (hT : Tab w) : Calls Tryz.prog 74 #[.string (bs l), .int .i64 k] w fun e w' => e = .returned v ∧ Below w.heap.size w w' := by
  subst hv
  have g1 := bef_len_le 10 l
  have g2 := bef_len_le 35 (bef 10 l)
  have g3 := aft_len_le 32 (bef 35 (bef 10 l))
  cases hh : hasC 10 l
  · have ho : rdOut l k = .tuple #[.agg #[.string (bs []), .string (bs [])], .int .i64 0, .bool false] := by simp [rdOut, rd1, hh]
    have HO := Lib.hid ho; clear ho

    go_enter Tryz.func74, Tryz.ntmps74
    go_wp2_with fail
    refine (cut1_is l 10 (by omega) _).mono ?_
    rintro e w1 ⟨rfl, hb1⟩
    have hq1 : Below w.heap.size w w1 := bth (by repeat (first | exact Below.refl _ _ | refine Below.alloc ?_ (by first | exact Nat.le_refl _ | (simp <;> omega)) _ | refine Below.setCell ?_ (by first | exact Nat.le_refl _ | (simp <;> omega)) _)) hb1
    have HB : Below w.heap.size w w1 := hq1
    have hZ : Blk w1 (w.heap.size) 117 #[.string ⟨#[]⟩, .string ⟨#[]⟩] := Blk.below (by repeat (first | exact Blk.new _ _ _ | exact Blk.new2 _ _ _ _ | exact Blk.new3 _ _ _ _ _ | exact Blk.new4 _ _ _ _ _ _ | refine Blk.alloc ?_ _)) hb1 (by simp <;> omega)
    have z0 := (hZ.cell 0).trans (show _ = some (.string ⟨#[]⟩) from rfl)
    have z1 := (hZ.cell 1).trans (show _ = some (.string ⟨#[]⟩) from rfl)
    go_wp2_with fail
    refine (cut1_is (bef 10 l) 35 (by omega) _).mono ?_
    rintro e w2 ⟨rfl, hb2⟩
    have hq2 : Below w1.heap.size w1 w2 := bth (by repeat (first | exact Below.refl _ _ | refine Below.alloc ?_ (by first | exact Nat.le_refl _ | (simp <;> omega)) _ | refine Below.setCell ?_ (by first | exact Nat.le_refl _ | (simp <;> omega)) _)) hb2
    replace HB := bth HB hq2
    replace hZ := hZ.below hq2 hZ.lt
    replace z0 := (hZ.cell 0).trans (show _ = some (.string ⟨#[]⟩) from rfl)
    replace z1 := (hZ.cell 1).trans (show _ = some (.string ⟨#[]⟩) from rfl)
    go_wp2_with fail
    refine (cut1_is (bef 35 (bef 10 l)) 32 (by omega) _).mono ?_
    rintro e w3 ⟨rfl, hb3⟩
    have hq3 : Below w2.heap.size w2 w3 := bth (by repeat (first | exact Below.refl _ _ | refine Below.alloc ?_ (by first | exact Nat.le_refl _ | (simp <;> omega)) _ | refine Below.setCell ?_ (by first | exact Nat.le_refl _ | (simp <;> omega)) _)) hb3
    replace HB := bth HB hq3
    replace hZ := hZ.below hq3 hZ.lt
    replace z0 := (hZ.cell 0).trans (show _ = some (.string ⟨#[]⟩) from rfl)
    replace z1 := (hZ.cell 1).trans (show _ = some (.string ⟨#[]⟩) from rfl)
    go_wp2_with fail
    refine (cut1_is (aft 32 (bef 35 (bef 10 l))) 64 (by omega) _).mono ?_
    rintro e w4 ⟨rfl, hb4⟩
    have hq4 : Below w3.heap.size w3 w4 := bth (by repeat (first | exact Below.refl _ _ | refine Below.alloc ?_ (by first | exact Nat.le_refl _ | (simp <;> omega)) _ | refine Below.setCell ?_ (by first | exact Nat.le_refl _ | (simp <;> omega)) _)) hb4
    replace HB := bth HB hq4
    replace hZ := hZ.below hq4 hZ.lt
    replace z0 := (hZ.cell 0).trans (show _ = some (.string ⟨#[]⟩) from rfl)
    replace z1 := (hZ.cell 1).trans (show _ = some (.string ⟨#[]⟩) from rfl)

    have y0 := hZ.frozen 0
    have y1 := hZ.frozen 1
    have yhZ := hZ.lt
    have hF := ((hZ.set_ 0 (.string ⟨#[]⟩)).set_ 1 (.string ⟨#[]⟩)).alloc (.cells #[.string (bs (bef 64 (aft 32 (bef 35 (bef 10 l))))), .string (bs (aft 64 (aft 32 (bef 35 (bef 10 l)))))] 117)
    have r0 := (hF.cell 0).trans (show _ = some (.string ⟨#[]⟩) from rfl)
    have r1 := (hF.cell 1).trans (show _ = some (.string ⟨#[]⟩) from rfl)
    go_wp2
    refine bodyPost_ret (v := .tuple #[.agg #[.string ⟨#[]⟩, .string ⟨#[]⟩], .int .i64 0, .bool false]) (by simp [results, Tryz.results74, go_sem, r0, r1]) rfl ?_
    exact ⟨by rw [HO.out]; rfl, (by repeat (first | exact HB | exact Below.refl _ _ | refine Below.alloc ?_ (by first | exact Nat.le_refl _ | (have hsz := HB.size; simp; omega) | (simp <;> omega)) _ | refine Below.setCell ?_ (by first | exact Nat.le_refl _ | (simp <;> omega)) _))⟩
  by_cases hk2 : k < 60
  case neg =>
    have ho : rdOut l k = .tuple #[.agg #[.string (bs []), .string (bs [])], .int .i64 0, .bool false] := by simp [rdOut, rd1, hk2]
    have HO := Lib.hid ho; clear ho
    have hk3 : 60 ≤ k := by omega
    clear hk2

    go_enter Tryz.func74, Tryz.ntmps74
    go_wp2_with fail
    refine (cut1_is l 10 (by omega) _).mono ?_
    rintro e w1 ⟨rfl, hb1⟩
    have hq1 : Below w.heap.size w w1 := bth (by repeat (first | exact Below.refl _ _ | refine Below.alloc ?_ (by first | exact Nat.le_refl _ | (simp <;> omega)) _ | refine Below.setCell ?_ (by first | exact Nat.le_refl _ | (simp <;> omega)) _)) hb1
    have HB : Below w.heap.size w w1 := hq1
    have hZ : Blk w1 (w.heap.size) 117 #[.string ⟨#[]⟩, .string ⟨#[]⟩] := Blk.below (by repeat (first | exact Blk.new _ _ _ | exact Blk.new2 _ _ _ _ | exact Blk.new3 _ _ _ _ _ | exact Blk.new4 _ _ _ _ _ _ | refine Blk.alloc ?_ _)) hb1 (by simp <;> omega)
    have z0 := (hZ.cell 0).trans (show _ = some (.string ⟨#[]⟩) from rfl)
    have z1 := (hZ.cell 1).trans (show _ = some (.string ⟨#[]⟩) from rfl)
    go_wp2_with fail
    refine (cut1_is (bef 10 l) 35 (by omega) _).mono ?_
    rintro e w2 ⟨rfl, hb2⟩
    have hq2 : Below w1.heap.size w1 w2 := bth (by repeat (first | exact Below.refl _ _ | refine Below.alloc ?_ (by first | exact Nat.le_refl _ | (simp <;> omega)) _ | refine Below.setCell ?_ (by first | exact Nat.le_refl _ | (simp <;> omega)) _)) hb2
    replace HB := bth HB hq2
    replace hZ := hZ.below hq2 hZ.lt
    replace z0 := (hZ.cell 0).trans (show _ = some (.string ⟨#[]⟩) from rfl)
    replace z1 := (hZ.cell 1).trans (show _ = some (.string ⟨#[]⟩) from rfl)
    go_wp2_with fail
    refine (cut1_is (bef 35 (bef 10 l)) 32 (by omega) _).mono ?_
    rintro e w3 ⟨rfl, hb3⟩
    have hq3 : Below w2.heap.size w2 w3 := bth (by repeat (first | exact Below.refl _ _ | refine Below.alloc ?_ (by first | exact Nat.le_refl _ | (simp <;> omega)) _ | refine Below.setCell ?_ (by first | exact Nat.le_refl _ | (simp <;> omega)) _)) hb3
    replace HB := bth HB hq3
    replace hZ := hZ.below hq3 hZ.lt
    replace z0 := (hZ.cell 0).trans (show _ = some (.string ⟨#[]⟩) from rfl)
    replace z1 := (hZ.cell 1).trans (show _ = some (.string ⟨#[]⟩) from rfl)
    go_wp2_with fail
    refine (cut1_is (aft 32 (bef 35 (bef 10 l))) 64 (by omega) _).mono ?_
    rintro e w4 ⟨rfl, hb4⟩
    have hq4 : Below w3.heap.size w3 w4 := bth (by repeat (first | exact Below.refl _ _ | refine Below.alloc ?_ (by first | exact Nat.le_refl _ | (simp <;> omega)) _ | refine Below.setCell ?_ (by first | exact Nat.le_refl _ | (simp <;> omega)) _)) hb4
    replace HB := bth HB hq4
    replace hZ := hZ.below hq4 hZ.lt
    replace z0 := (hZ.cell 0).trans (show _ = some (.string ⟨#[]⟩) from rfl)
    replace z1 := (hZ.cell 1).trans (show _ = some (.string ⟨#[]⟩) from rfl)

    have y0 := hZ.frozen 0
    have y1 := hZ.frozen 1
    have yhZ := hZ.lt
    have hF := ((hZ.set_ 0 (.string ⟨#[]⟩)).set_ 1 (.string ⟨#[]⟩)).alloc (.cells #[.string (bs (bef 64 (aft 32 (bef 35 (bef 10 l))))), .string (bs (aft 64 (aft 32 (bef 35 (bef 10 l)))))] 117)
    have r0 := (hF.cell 0).trans (show _ = some (.string ⟨#[]⟩) from rfl)
    have r1 := (hF.cell 1).trans (show _ = some (.string ⟨#[]⟩) from rfl)
    go_wp2
    refine bodyPost_ret (v := .tuple #[.agg #[.string ⟨#[]⟩, .string ⟨#[]⟩], .int .i64 0, .bool false]) (by simp [results, Tryz.results74, go_sem, r0, r1]) rfl ?_
    exact ⟨by rw [HO.out]; rfl, (by repeat (first | exact HB | exact Below.refl _ _ | refine Below.alloc ?_ (by first | exact Nat.le_refl _ | (have hsz := HB.size; simp; omega) | (simp <;> omega)) _ | refine Below.setCell ?_ (by first | exact Nat.le_refl _ | (simp <;> omega)) _))⟩
  have g4 := bef_len_le 64 (aft 32 (bef 35 (bef 10 l)))
  have g5 := aft_len_le 64 (aft 32 (bef 35 (bef 10 l)))
  have hgo := rdOut_if l k hh hk2 _ _ _ rfl rfl rfl
  generalize hcmd : bef 64 (aft 32 (bef 35 (bef 10 l))) = cmd at *
  generalize hrep : aft 64 (aft 32 (bef 35 (bef 10 l))) = rep at *
  generalize hline : bef 10 l = line at *
  have hcut : ∀ W, Calls Tryz.prog 99 #[.string (bs (aft 32 (bef 35 line))), .string ⟨#[64]⟩] W fun e w' => e = .returned (.tuple #[.string (bs cmd), .string (bs rep), .bool (hasC 64 (aft 32 (bef 35 line)))]) ∧ Below W.heap.size W w' := fun W => by
    have := cut1_is (aft 32 (bef 35 line)) 64 (by omega) W
    rwa [hcmd, hrep] at this
  have hcut1 : ∀ W, Calls Tryz.prog 99 #[.string (bs l), .string ⟨#[10]⟩] W fun e w' => e = .returned (.tuple #[.string (bs line), .string (bs (aft 10 l)), .bool true]) ∧ Below W.heap.size W w' := fun W => by
    have := cut1_is l 10 (by omega) W
    rwa [hline, hh] at this
  have HCUT := Lib.hid hcut; have HCUT1 := Lib.hid hcut1; have HLN := Lib.hid hline; have HCM := Lib.hid hcmd; have HRP := Lib.hid hrep; have HH := Lib.hid hh; clear hline hcmd hrep hcut hcut1 hh
  have s1 : (bs cmd).size ≤ 1048576 := by rw [bs_size]; omega
  have s2 : (bs rep).size ≤ 1048576 := by rw [bs_size]; omega
  cases hok : okL cmd rep
  · rw [hok] at hgo
    have ho : rdOut l k = .tuple #[.agg #[.string (bs []), .string (bs [])], .int .i64 0, .bool false] := by rw [hgo]; rfl
    have HO := Lib.hid ho; have HOK := Lib.hid hok; clear ho hgo hok
    go_enter Tryz.func74, Tryz.ntmps74
    go_wp2_with fail
    refine (HCUT1.out _).mono ?_
    rintro e w1 ⟨rfl, hb1⟩
    have hq1 : Below w.heap.size w w1 := bth (by repeat (first | exact Below.refl _ _ | refine Below.alloc ?_ (by first | exact Nat.le_refl _ | (simp <;> omega)) _ | refine Below.setCell ?_ (by first | exact Nat.le_refl _ | (simp <;> omega)) _)) hb1
    have HB : Below w.heap.size w w1 := hq1
    have hZ : Blk w1 (w.heap.size) 117 #[.string ⟨#[]⟩, .string ⟨#[]⟩] := Blk.below (by repeat (first | exact Blk.new _ _ _ | exact Blk.new2 _ _ _ _ | exact Blk.new3 _ _ _ _ _ | exact Blk.new4 _ _ _ _ _ _ | refine Blk.alloc ?_ _)) hb1 (by simp <;> omega)
    have z0 := (hZ.cell 0).trans (show _ = some (.string ⟨#[]⟩) from rfl)
    have z1 := (hZ.cell 1).trans (show _ = some (.string ⟨#[]⟩) from rfl)
    go_wp2_with fail
    refine (cut1_is line 35 (by omega) _).mono ?_
    rintro e w2 ⟨rfl, hb2⟩
    have hq2 : Below w1.heap.size w1 w2 := bth (by repeat (first | exact Below.refl _ _ | refine Below.alloc ?_ (by first | exact Nat.le_refl _ | (simp <;> omega)) _ | refine Below.setCell ?_ (by first | exact Nat.le_refl _ | (simp <;> omega)) _)) hb2
    replace HB := bth HB hq2
    replace hZ := hZ.below hq2 hZ.lt
    replace z0 := (hZ.cell 0).trans (show _ = some (.string ⟨#[]⟩) from rfl)
    replace z1 := (hZ.cell 1).trans (show _ = some (.string ⟨#[]⟩) from rfl)
    go_wp2_with fail
    refine (cut1_is (bef 35 line) 32 (by omega) _).mono ?_
    rintro e w3 ⟨rfl, hb3⟩
    have hq3 : Below w2.heap.size w2 w3 := bth (by repeat (first | exact Below.refl _ _ | refine Below.alloc ?_ (by first | exact Nat.le_refl _ | (simp <;> omega)) _ | refine Below.setCell ?_ (by first | exact Nat.le_refl _ | (simp <;> omega)) _)) hb3
    replace HB := bth HB hq3
    replace hZ := hZ.below hq3 hZ.lt
    replace z0 := (hZ.cell 0).trans (show _ = some (.string ⟨#[]⟩) from rfl)
    replace z1 := (hZ.cell 1).trans (show _ = some (.string ⟨#[]⟩) from rfl)
    go_wp2_with fail
    refine (HCUT.out _).mono ?_
    rintro e w4 ⟨rfl, hb4⟩
    have hq4 : Below w3.heap.size w3 w4 := bth (by repeat (first | exact Below.refl _ _ | refine Below.alloc ?_ (by first | exact Nat.le_refl _ | (simp <;> omega)) _ | refine Below.setCell ?_ (by first | exact Nat.le_refl _ | (simp <;> omega)) _)) hb4
    replace HB := bth HB hq4
    replace hZ := hZ.below hq4 hZ.lt
    replace z0 := (hZ.cell 0).trans (show _ = some (.string ⟨#[]⟩) from rfl)
    replace z1 := (hZ.cell 1).trans (show _ = some (.string ⟨#[]⟩) from rfl)
    go_wp2_with fail
    refine (isValidRecord_is (bs cmd) (bs rep) s1 s2 _ HOK.out _).mono ?_
    rintro e w5 ⟨rfl, hb5⟩
    have hq5 : Below w4.heap.size w4 w5 := bth (by repeat (first | exact Below.refl _ _ | refine Below.alloc ?_ (by first | exact Nat.le_refl _ | (simp <;> omega)) _ | refine Below.setCell ?_ (by first | exact Nat.le_refl _ | (simp <;> omega)) _)) hb5
    replace HB := bth HB hq5
    replace hZ := hZ.below hq5 hZ.lt
    replace z0 := (hZ.cell 0).trans (show _ = some (.string ⟨#[]⟩) from rfl)
    replace z1 := (hZ.cell 1).trans (show _ = some (.string ⟨#[]⟩) from rfl)

    have y0 := hZ.frozen 0
    have y1 := hZ.frozen 1
    have yhZ := hZ.lt
    have hF := ((hZ.set_ 0 (.string ⟨#[]⟩)).set_ 1 (.string ⟨#[]⟩))
    have r0 := (hF.cell 0).trans (show _ = some (.string ⟨#[]⟩) from rfl)
    have r1 := (hF.cell 1).trans (show _ = some (.string ⟨#[]⟩) from rfl)
    go_wp2
    refine bodyPost_ret (v := .tuple #[.agg #[.string ⟨#[]⟩, .string ⟨#[]⟩], .int .i64 0, .bool false]) (by simp [results, Tryz.results74, go_sem, r0, r1]) rfl ?_
    exact ⟨by rw [HO.out]; rfl, (by repeat (first | exact HB | exact Below.refl _ _ | refine Below.alloc ?_ (by first | exact Nat.le_refl _ | (have hsz := HB.size; simp; omega) | (simp <;> omega)) _ | refine Below.setCell ?_ (by first | exact Nat.le_refl _ | (simp <;> omega)) _))⟩
  · rw [hok] at hgo
    obtain ⟨c1, c2, c3, _⟩ := okL_parts hok
    have hlen := lineL_len (k := (k : Int)) (by omega) (by omega) hok
    have s3 : (bs line).size ≤ 1048576 := by rw [bs_size]; omega
    have HLL := Lib.hid (bs_size line)
    have hencs : ∀ W, Tab W → Calls Tryz.prog 101 #[.int .i64 k, .agg #[.string (bs cmd), .string (bs rep)]] W fun e w' => e = .returned (.string (bs (lineL k cmd rep ++ [10]))) ∧ Below W.heap.size W w' := fun W hW => encodeRecord_is k (by omega) (by omega) cmd rep hok W hW
    have HENC := Lib.hid hencs; clear hencs
    by_cases heq : lineL k cmd rep = line
    · have ho : rdOut l k = .tuple #[.agg #[.string (bs cmd), .string (bs rep)], .int .i64 (line.length + 1 : Nat), .bool true] := by rw [hgo, heq]; simp
      have henc : ∀ W, Tab W → Calls Tryz.prog 101 #[.int .i64 k, .agg #[.string (bs cmd), .string (bs rep)]] W fun e w' => e = .returned (.string (bs line ++ ⟨#[10]⟩)) ∧ Below W.heap.size W w' := fun W hW => by
        have := HENC.out W hW
        rwa [heq, ← bs_app] at this
      have HO := Lib.hid ho; have HOK := Lib.hid hok; have HQ := Lib.hid henc; clear ho hgo hok heq henc
      go_enter Tryz.func74, Tryz.ntmps74
      go_wp2_with fail
      refine (HCUT1.out _).mono ?_
      rintro e w1 ⟨rfl, hb1⟩
      have hq1 : Below w.heap.size w w1 := bth (by repeat (first | exact Below.refl _ _ | refine Below.alloc ?_ (by first | exact Nat.le_refl _ | (simp <;> omega)) _ | refine Below.setCell ?_ (by first | exact Nat.le_refl _ | (simp <;> omega)) _)) hb1
      have HB : Below w.heap.size w w1 := hq1
      have hZ : Blk w1 (w.heap.size) 117 #[.string ⟨#[]⟩, .string ⟨#[]⟩] := Blk.below (by repeat (first | exact Blk.new _ _ _ | exact Blk.new2 _ _ _ _ | exact Blk.new3 _ _ _ _ _ | exact Blk.new4 _ _ _ _ _ _ | refine Blk.alloc ?_ _)) hb1 (by simp <;> omega)
      have z0 := (hZ.cell 0).trans (show _ = some (.string ⟨#[]⟩) from rfl)
      have z1 := (hZ.cell 1).trans (show _ = some (.string ⟨#[]⟩) from rfl)
      go_wp2_with fail
      refine (cut1_is line 35 (by omega) _).mono ?_
      rintro e w2 ⟨rfl, hb2⟩
      have hq2 : Below w1.heap.size w1 w2 := bth (by repeat (first | exact Below.refl _ _ | refine Below.alloc ?_ (by first | exact Nat.le_refl _ | (simp <;> omega)) _ | refine Below.setCell ?_ (by first | exact Nat.le_refl _ | (simp <;> omega)) _)) hb2
      replace HB := bth HB hq2
      replace hZ := hZ.below hq2 hZ.lt
      replace z0 := (hZ.cell 0).trans (show _ = some (.string ⟨#[]⟩) from rfl)
      replace z1 := (hZ.cell 1).trans (show _ = some (.string ⟨#[]⟩) from rfl)
      go_wp2_with fail
      refine (cut1_is (bef 35 line) 32 (by omega) _).mono ?_
      rintro e w3 ⟨rfl, hb3⟩
      have hq3 : Below w2.heap.size w2 w3 := bth (by repeat (first | exact Below.refl _ _ | refine Below.alloc ?_ (by first | exact Nat.le_refl _ | (simp <;> omega)) _ | refine Below.setCell ?_ (by first | exact Nat.le_refl _ | (simp <;> omega)) _)) hb3
      replace HB := bth HB hq3
      replace hZ := hZ.below hq3 hZ.lt
      replace z0 := (hZ.cell 0).trans (show _ = some (.string ⟨#[]⟩) from rfl)
      replace z1 := (hZ.cell 1).trans (show _ = some (.string ⟨#[]⟩) from rfl)
      go_wp2_with fail
      refine (HCUT.out _).mono ?_
      rintro e w4 ⟨rfl, hb4⟩
      have hq4 : Below w3.heap.size w3 w4 := bth (by repeat (first | exact Below.refl _ _ | refine Below.alloc ?_ (by first | exact Nat.le_refl _ | (simp <;> omega)) _ | refine Below.setCell ?_ (by first | exact Nat.le_refl _ | (simp <;> omega)) _)) hb4
      replace HB := bth HB hq4
      replace hZ := hZ.below hq4 hZ.lt
      replace z0 := (hZ.cell 0).trans (show _ = some (.string ⟨#[]⟩) from rfl)
      replace z1 := (hZ.cell 1).trans (show _ = some (.string ⟨#[]⟩) from rfl)
      go_wp2_with fail
      refine (isValidRecord_is (bs cmd) (bs rep) s1 s2 _ HOK.out _).mono ?_
      rintro e w5 ⟨rfl, hb5⟩
      have hq5 : Below w4.heap.size w4 w5 := bth (by repeat (first | exact Below.refl _ _ | refine Below.alloc ?_ (by first | exact Nat.le_refl _ | (simp <;> omega)) _ | refine Below.setCell ?_ (by first | exact Nat.le_refl _ | (simp <;> omega)) _)) hb5
      replace HB := bth HB hq5
      replace hZ := hZ.below hq5 hZ.lt
      replace z0 := (hZ.cell 0).trans (show _ = some (.string ⟨#[]⟩) from rfl)
      replace z1 := (hZ.cell 1).trans (show _ = some (.string ⟨#[]⟩) from rfl)
      have hE : Blk w5 (w4.heap.size) 117 #[.string (bs cmd), .string (bs rep)] := Blk.below (by repeat (first | exact Blk.new _ _ _ | exact Blk.new2 _ _ _ _ | exact Blk.new3 _ _ _ _ _ | exact Blk.new4 _ _ _ _ _ _ | refine Blk.alloc ?_ _)) hb5 (by simp <;> omega)
      have e0 := (hE.cell 0).trans (show _ = some (.string (bs cmd)) from rfl)
      have e1 := (hE.cell 1).trans (show _ = some (.string (bs rep)) from rfl)
      go_wp2_with fail
      refine (HQ.out _ (hT.below HB)).mono ?_
      rintro e w6 ⟨rfl, hb6⟩
      have hq6 : Below w5.heap.size w5 w6 := bth (by repeat (first | exact Below.refl _ _ | refine Below.alloc ?_ (by first | exact Nat.le_refl _ | (simp <;> omega)) _ | refine Below.setCell ?_ (by first | exact Nat.le_refl _ | (simp <;> omega)) _)) hb6
      replace HB := bth HB hq6
      replace hZ := hZ.below hq6 hZ.lt
      replace z0 := (hZ.cell 0).trans (show _ = some (.string ⟨#[]⟩) from rfl)
      replace z1 := (hZ.cell 1).trans (show _ = some (.string ⟨#[]⟩) from rfl)
      replace hE := hE.below hq6 hE.lt
      replace e0 := (hE.cell 0).trans (show _ = some (.string (bs cmd)) from rfl)
      replace e1 := (hE.cell 1).trans (show _ = some (.string (bs rep)) from rfl)
      have y0 := hZ.frozen 0
      have y1 := hZ.frozen 1
      have yhZ := hZ.lt
      have yhE := hE.lt
      have hF := ((hZ.set_ 0 (.string (bs cmd))).set_ 1 (.string (bs rep)))
      have r0 := (hF.cell 0).trans (show _ = some (.string (bs cmd)) from rfl)
      have r1 := (hF.cell 1).trans (show _ = some (.string (bs rep)) from rfl)
      go_wp2
      refine bodyPost_ret (v := .tuple #[.agg #[.string (bs cmd), .string (bs rep)], .int .i64 ((bs line).size + 1), .bool true]) (by simp [results, Tryz.results74, go_sem, r0, r1]) rfl ?_
      exact ⟨by rw [HO.out, HLL.out]; rfl, (by repeat (first | exact HB | exact Below.refl _ _ | refine Below.alloc ?_ (by first | exact Nat.le_refl _ | (have hsz := HB.size; simp; omega) | (simp <;> omega)) _ | refine Below.setCell ?_ (by first | exact Nat.le_refl _ | (simp <;> omega)) _))⟩
    · have ho : rdOut l k = .tuple #[.agg #[.string (bs []), .string (bs [])], .int .i64 0, .bool false] := by rw [hgo]; simp [heq]
      have hne : ¬ (bs (lineL k cmd rep ++ [10])).toList = (bs line ++ ⟨#[10]⟩).toList := by
        intro h
        rw [ByteArray.toList_eq, ByteArray.toList_eq, show (⟨#[10]⟩ : ByteArray) = bs [10] from rfl, bs_app, bs_list, bs_list] at h
        exact heq (List.append_cancel_right h)
      have hne1 : ((bs (lineL k cmd rep ++ [10])).toList == (bs line ++ ⟨#[10]⟩).toList) = false := beq_eq_false_iff_ne.2 hne
      clear hne
      have s4 : (bs (lineL k cmd rep ++ [10])).size ≤ 1048576 := by rw [bs_size]; simp; omega
      have HO := Lib.hid ho; have HOK := Lib.hid hok; clear ho hgo hok heq
      go_enter Tryz.func74, Tryz.ntmps74
      go_wp2_with fail
      refine (HCUT1.out _).mono ?_
      rintro e w1 ⟨rfl, hb1⟩
      have hq1 : Below w.heap.size w w1 := bth (by repeat (first | exact Below.refl _ _ | refine Below.alloc ?_ (by first | exact Nat.le_refl _ | (simp <;> omega)) _ | refine Below.setCell ?_ (by first | exact Nat.le_refl _ | (simp <;> omega)) _)) hb1
      have HB : Below w.heap.size w w1 := hq1
      have hZ : Blk w1 (w.heap.size) 117 #[.string ⟨#[]⟩, .string ⟨#[]⟩] := Blk.below (by repeat (first | exact Blk.new _ _ _ | exact Blk.new2 _ _ _ _ | exact Blk.new3 _ _ _ _ _ | exact Blk.new4 _ _ _ _ _ _ | refine Blk.alloc ?_ _)) hb1 (by simp <;> omega)
      have z0 := (hZ.cell 0).trans (show _ = some (.string ⟨#[]⟩) from rfl)
      have z1 := (hZ.cell 1).trans (show _ = some (.string ⟨#[]⟩) from rfl)
      go_wp2_with fail
      refine (cut1_is line 35 (by omega) _).mono ?_
      rintro e w2 ⟨rfl, hb2⟩
      have hq2 : Below w1.heap.size w1 w2 := bth (by repeat (first | exact Below.refl _ _ | refine Below.alloc ?_ (by first | exact Nat.le_refl _ | (simp <;> omega)) _ | refine Below.setCell ?_ (by first | exact Nat.le_refl _ | (simp <;> omega)) _)) hb2
      replace HB := bth HB hq2
      replace hZ := hZ.below hq2 hZ.lt
      replace z0 := (hZ.cell 0).trans (show _ = some (.string ⟨#[]⟩) from rfl)
      replace z1 := (hZ.cell 1).trans (show _ = some (.string ⟨#[]⟩) from rfl)
      go_wp2_with fail
      refine (cut1_is (bef 35 line) 32 (by omega) _).mono ?_
      rintro e w3 ⟨rfl, hb3⟩
      have hq3 : Below w2.heap.size w2 w3 := bth (by repeat (first | exact Below.refl _ _ | refine Below.alloc ?_ (by first | exact Nat.le_refl _ | (simp <;> omega)) _ | refine Below.setCell ?_ (by first | exact Nat.le_refl _ | (simp <;> omega)) _)) hb3
      replace HB := bth HB hq3
      replace hZ := hZ.below hq3 hZ.lt
      replace z0 := (hZ.cell 0).trans (show _ = some (.string ⟨#[]⟩) from rfl)
      replace z1 := (hZ.cell 1).trans (show _ = some (.string ⟨#[]⟩) from rfl)
      go_wp2_with fail
      refine (HCUT.out _).mono ?_
      rintro e w4 ⟨rfl, hb4⟩
      have hq4 : Below w3.heap.size w3 w4 := bth (by repeat (first | exact Below.refl _ _ | refine Below.alloc ?_ (by first | exact Nat.le_refl _ | (simp <;> omega)) _ | refine Below.setCell ?_ (by first | exact Nat.le_refl _ | (simp <;> omega)) _)) hb4
      replace HB := bth HB hq4
      replace hZ := hZ.below hq4 hZ.lt
      replace z0 := (hZ.cell 0).trans (show _ = some (.string ⟨#[]⟩) from rfl)
      replace z1 := (hZ.cell 1).trans (show _ = some (.string ⟨#[]⟩) from rfl)
      go_wp2_with fail
      refine (isValidRecord_is (bs cmd) (bs rep) s1 s2 _ HOK.out _).mono ?_
      rintro e w5 ⟨rfl, hb5⟩
      have hq5 : Below w4.heap.size w4 w5 := bth (by repeat (first | exact Below.refl _ _ | refine Below.alloc ?_ (by first | exact Nat.le_refl _ | (simp <;> omega)) _ | refine Below.setCell ?_ (by first | exact Nat.le_refl _ | (simp <;> omega)) _)) hb5
      replace HB := bth HB hq5
      replace hZ := hZ.below hq5 hZ.lt
      replace z0 := (hZ.cell 0).trans (show _ = some (.string ⟨#[]⟩) from rfl)
      replace z1 := (hZ.cell 1).trans (show _ = some (.string ⟨#[]⟩) from rfl)
      have hE : Blk w5 (w4.heap.size) 117 #[.string (bs cmd), .string (bs rep)] := Blk.below (by repeat (first | exact Blk.new _ _ _ | exact Blk.new2 _ _ _ _ | exact Blk.new3 _ _ _ _ _ | exact Blk.new4 _ _ _ _ _ _ | refine Blk.alloc ?_ _)) hb5 (by simp <;> omega)
      have e0 := (hE.cell 0).trans (show _ = some (.string (bs cmd)) from rfl)
      have e1 := (hE.cell 1).trans (show _ = some (.string (bs rep)) from rfl)
      go_wp2_with fail
      refine (HENC.out _ (hT.below HB)).mono ?_
      rintro e w6 ⟨rfl, hb6⟩
      have hq6 : Below w5.heap.size w5 w6 := bth (by repeat (first | exact Below.refl _ _ | refine Below.alloc ?_ (by first | exact Nat.le_refl _ | (simp <;> omega)) _ | refine Below.setCell ?_ (by first | exact Nat.le_refl _ | (simp <;> omega)) _)) hb6
      replace HB := bth HB hq6
      replace hZ := hZ.below hq6 hZ.lt
      replace z0 := (hZ.cell 0).trans (show _ = some (.string ⟨#[]⟩) from rfl)
      replace z1 := (hZ.cell 1).trans (show _ = some (.string ⟨#[]⟩) from rfl)
      replace hE := hE.below hq6 hE.lt
      replace e0 := (hE.cell 0).trans (show _ = some (.string (bs cmd)) from rfl)
      replace e1 := (hE.cell 1).trans (show _ = some (.string (bs rep)) from rfl)

      have y0 := hZ.frozen 0
      have y1 := hZ.frozen 1
      have yhZ := hZ.lt
      have yhE := hE.lt
      have hF := ((hZ.set_ 0 (.string ⟨#[]⟩)).set_ 1 (.string ⟨#[]⟩))
      have r0 := (hF.cell 0).trans (show _ = some (.string ⟨#[]⟩) from rfl)
      have r1 := (hF.cell 1).trans (show _ = some (.string ⟨#[]⟩) from rfl)
      go_wp2
      refine bodyPost_ret (v := .tuple #[.agg #[.string ⟨#[]⟩, .string ⟨#[]⟩], .int .i64 0, .bool false]) (by simp [results, Tryz.results74, go_sem, r0, r1]) rfl ?_
      exact ⟨by rw [HO.out]; rfl, (by repeat (first | exact HB | exact Below.refl _ _ | refine Below.alloc ?_ (by first | exact Nat.le_refl _ | (have hsz := HB.size; simp; omega) | (simp <;> omega)) _ | refine Below.setCell ?_ (by first | exact Nat.le_refl _ | (simp <;> omega)) _))⟩
end Go.Proofs.YtpkagohflkcnkaaGreatDoor
