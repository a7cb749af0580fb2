/- The log, by the reference: the records at the start of a text. -/
import Derived.Test.YtpejnfhenpdobaaDoorLog5
namespace Go.Proofs.YtpejnfhenpdobaaDoor
open Go.RowKit Go.G9
/-- Where the last record ends. -/
def endOf (xs : List (L8 × L8 × Nat)) : Nat := (0 :: xs.map (·.2.2)).getLastD 0
def endL (l : L8) : Nat := endOf (rdAll l)
theorem endOf_app (xs : List (L8 × L8 × Nat)) (x : L8 × L8 × Nat) : endOf (xs ++ [x]) = x.2.2 := by
  have e : (0 :: (xs ++ [x]).map (·.2.2)) = (0 :: xs.map (·.2.2)) ++ [x.2.2] := by simp
  unfold endOf
  rw [e, List.getLastD_eq_getLast?, List.getLast?_append]
  rfl
theorem rdGo_nil {f k : Nat} {l : L8} {a : Nat} (h : rd1 l k = none) : rdGo f k l a = [] := by
  cases f with
  | zero => rfl
  | succ f => rw [rdGo, h]
theorem rd1_empty (k : Nat) : rd1 [] k = none := by unfold rd1; simp [hasC]
theorem rd1_full (l : L8) {k : Nat} (h : 60 ≤ k) : rd1 l k = none := by unfold rd1; rw [if_neg]; simp; omega
set_option maxHeartbeats 4000000 in
set_option maxRecDepth 100000 in
theorem l27Open_is (l : L8) (hl : l.length ≤ 1048576) (w : World) : Calls Tryd.prog 47 #[.string (bs l)] w fun e w' => ∃ A c, e = .returned (.tuple #[.slice A (recsL l).length c, .int .i64 (endL l : Nat)]) ∧
    OwnV w.heap.size 27 2 LRec.cells w' (.slice A (recsL l).length c) (recsL l) ∧ Below w.heap.size w w' := by
  obtain ⟨i0, hi, hz0, hz1, hz2⟩ := info_parts info_LRec
  have hsz := bs_size l
  have hs1 : (bs l).size ≤ 1048576 := by omega
  have HS := Lib.hid hsz; clear hsz
  have hR0 := OwnV.built (B := w.heap.size) (f := LRec.cells) w ([] : List LRec) 27 (Nat.le_refl _) (by simp) LRec.cells_len
  simp only [List.flatMap_nil] at hR0
  have HR0 := Lib.hid hR0; clear hR0
  go_enter Tryd.func47, Tryd.ntmps47
  go_wp2
  go_loopw [4, 5] (fun v4 v5 wr => ∃ (xs : List (L8 × L8 × Nat)) (a : Nat), rdAll l = xs ++ rdGo (61 - xs.length) xs.length (l.drop a) a ∧ xs.length ≤ 60 ∧ a ≤ (bs l).size ∧ a = endOf xs ∧ v5 = .int .i64 a ∧
      OwnV w.heap.size 27 2 LRec.cells wr v4 (xs.map asRec) ∧ Below w.heap.size w wr) (fun _ v5 _ => 1048577 - (intOf v5).toNat)
  case atStart =>
    exact ⟨[], 0, rfl, by simp, Nat.zero_le _, rfl, rfl, by simpa using HR0.out, bl1 _ _⟩
  case round =>
    obtain ⟨xs, a, hall, hxs, ha, hae, rfl, hO, hb⟩ := hrel
    obtain ⟨A4, c4, rfl, hc4, _, _⟩ := hO.form LRec.cells_len
    simp only [List.length_map] at hO hc4 ⊢
    have hla : a ≤ l.length := by rw [← HS.out]; exact ha
    have z0 := hb.size
    have lO := Lib.hid hO.lt
    have HO := Lib.hid hO; have HAE := Lib.hid hae; clear hO hae
    have hfin : rd1 (l.drop a) xs.length = none → rdAll l = xs := fun h => by rw [hall, rdGo_nil h, List.append_nil]
    have HFIN := Lib.hid hfin; clear hfin
    have hdone : rdAll l = xs → ∃ A c, Value.tuple #[.slice A4 xs.length c4, .int .i64 a] = .tuple #[.slice A (recsL l).length c, .int .i64 (endL l : Nat)] ∧ OwnV w.heap.size 27 2 LRec.cells wr (.slice A (recsL l).length c) (recsL l) ∧ Below w.heap.size w wr := fun h => by
      have e1 : recsL l = xs.map asRec := by rw [recsL, h]
      have e2 : endL l = a := by rw [endL, h, HAE.out]
      rw [e1, e2, List.length_map]
      exact ⟨A4, c4, rfl, HO.out, hb⟩
    have HDONE := Lib.hid hdone; clear hdone
    by_cases hlt : a < (bs l).size
    case neg =>
      have hd : rdAll l = xs := HFIN.out (by
        have : l.drop a = [] := List.drop_eq_nil_of_le (by rw [← HS.out]; omega)
        rw [this]; exact rd1_empty _)
      have HD := Lib.hid hd; clear hd hall
      go_wp2
      go_ret2
      obtain ⟨A, c, h1, h2⟩ := HDONE.out HD.out
      exact ⟨A, c, congrArg Ending.returned h1, h2⟩
    by_cases hk : xs.length < 60
    case neg =>
      have hd : rdAll l = xs := HFIN.out (rd1_full _ (by omega))
      have HD := Lib.hid hd; clear hd hall
      go_wp2
      go_ret2
      obtain ⟨A, c, h1, h2⟩ := HDONE.out HD.out
      exact ⟨A, c, congrArg Ending.returned h1, h2⟩
    have hx : (bs l).extract a (bs l).size = bs (l.drop a) := by rw [bs_extract, bs_size, List.take_of_length_le (by simp)]
    have hsp : ∀ W, Calls Tryd.prog 67 #[.string ((bs l).extract a (bs l).size), .int .u8 10] W fun e w' => ∃ g m n, e = .returned (.slice (some ⟨g, 0, none⟩) m n) ∧ 1 ≤ m ∧ m ≤ (l.drop a).length + 1 ∧ ((2 ≤ m) ↔ hasC 10 (l.drop a) = true) ∧ w'.cell? ⟨g, 0, none⟩ = some (.string (bs (bef 10 (l.drop a)))) ∧ W.heap.size ≤ g ∧ g < w'.heap.size ∧ Below W.heap.size W w' := fun W => by
      rw [hx]; exact l1Split1_is (l.drop a) 10 (by simp; omega) W
    have gb := bef_len_le 10 (l.drop a)
    have hdl : (l.drop a).length ≤ l.length := by simp
    have hrd : ∀ W, Calls Tryd.prog 68 #[.string (bs (bef 10 (l.drop a))), .int .i64 xs.length] W fun e w' => RdOut (bef 10 (l.drop a)) xs.length e ∧ Below W.heap.size W w' := fun W => l27Read_is _ (by omega) xs.length (by omega) W
    have HSP := Lib.hid hsp; have HRD := Lib.hid hrd; have HALL := Lib.hid hall; clear hsp hrd hx hall
    have hr1 : rd1 (l.drop a) xs.length = if hasC 10 (l.drop a) then (rdI (bef 10 (l.drop a)) xs.length).map fun x => (x.1, x.2, (bef 10 (l.drop a)).length + 1) else none := by
      unfold rd1; simp [hk]
    have HR1 := Lib.hid hr1; clear hr1
    have hbz : (bs (bef 10 (l.drop a))).size ≤ 1048576 := by rw [bs_size]; omega
    cases hh : hasC 10 (l.drop a)
    · have hd : rdAll l = xs := HFIN.out (by rw [HR1.out, hh]; rfl)
      have HD := Lib.hid hd; have HH := Lib.hid hh; clear hd hh
      go_wp2_with fail
      refine (HSP.out _).mono ?_
      rintro e w1 ⟨g, m, n, rfl, hm1, hm3, hm4, hc, hg, hg2, hb1⟩
      have z1 := hb1.size
      have hm5 : m < 2 := by
        have := HH.out
        rcases Nat.lt_or_ge m 2 with h | h
        · exact h
        · rw [hm4.1 h] at this; cases this
      clear hm4
      go_wp2_with fail
      refine (HRD.out _).mono ?_
      rintro e w2 ⟨⟨c, r, b, rfl, hbv, hbx⟩, hb2⟩
      have z2 := hb2.size
      have hc2 : w2.cell? ⟨g, 0, none⟩ = some (.string (bs (bef 10 (l.drop a)))) := by rw [hb2.cell hg2]; exact hc
      go_wp2
      go_ret2
      obtain ⟨A, c', h1, h2⟩ := HDONE.out HD.out
      exact ⟨A, c', congrArg Ending.returned h1, ((h2.1.later hb1).later hb2).alloc _, (bth (bth h2.2 hb1) hb2).alloc (by omega) _⟩
    · cases hrI : rdI (bef 10 (l.drop a)) xs.length with
      | none =>
        have hd : rdAll l = xs := HFIN.out (by rw [HR1.out, hh, hrI]; rfl)
        have HD := Lib.hid hd; have HH := Lib.hid hh; have HRI := Lib.hid hrI; clear hd hh hrI
        go_wp2_with fail
        refine (HSP.out _).mono ?_
        rintro e w1 ⟨g, m, n, rfl, hm1, hm3, hm4, hc, hg, hg2, hb1⟩
        have z1 := hb1.size
        have hm5 : 2 ≤ m := hm4.2 HH.out
        clear hm4
        go_wp2_with fail
        refine (HRD.out _).mono ?_
        rintro e w2 ⟨⟨c, r, b, rfl, hbv, hbx⟩, hb2⟩
        have z2 := hb2.size
        have hc2 : w2.cell? ⟨g, 0, none⟩ = some (.string (bs (bef 10 (l.drop a)))) := by rw [hb2.cell hg2]; exact hc
        have hbf : b = false := by rw [hbv, HRI.out]; rfl
        subst hbf
        clear hbx hbv
        go_wp2
        go_ret2
        obtain ⟨A, c', h1, h2⟩ := HDONE.out HD.out
        exact ⟨A, c', congrArg Ending.returned h1, ((h2.1.later hb1).later hb2).alloc _, (bth (bth h2.2 hb1) hb2).alloc (by omega) _⟩
      | some x =>
        obtain ⟨cm, rp⟩ := x
        have hnext : rdAll l = (xs ++ [(cm, rp, a + ((bef 10 (l.drop a)).length + 1))]) ++ rdGo (61 - (xs.length + 1)) (xs.length + 1) (l.drop (a + ((bef 10 (l.drop a)).length + 1))) (a + ((bef 10 (l.drop a)).length + 1)) := by
          rw [HALL.out, show 61 - xs.length = (61 - (xs.length + 1)) + 1 from by omega, rdGo, HR1.out, hh, hrI]
          simp [List.drop_drop]
        have hle : a + ((bef 10 (l.drop a)).length + 1) ≤ (bs l).size := by
          have h1 : rd1 (l.drop a) xs.length = some (cm, rp, (bef 10 (l.drop a)).length + 1) := by rw [HR1.out, hh, hrI]; rfl
          have := rd1_len h1
          rw [List.length_drop] at this
          rw [HS.out]; omega
        have HN := Lib.hid hnext; have HH := Lib.hid hh; have HRI := Lib.hid hrI; clear hnext hh hrI
        go_wp2_with fail
        refine (HSP.out _).mono ?_
        rintro e w1 ⟨g, m, n, rfl, hm1, hm3, hm4, hc, hg, hg2, hb1⟩
        have z1 := hb1.size
        have hm5 : 2 ≤ m := hm4.2 HH.out
        clear hm4
        go_wp2_with fail
        refine (HRD.out _).mono ?_
        rintro e w2 ⟨⟨c, r, b, rfl, hbv, hbx⟩, hb2⟩
        have z2 := hb2.size
        have hc2 : w2.cell? ⟨g, 0, none⟩ = some (.string (bs (bef 10 (l.drop a)))) := by rw [hb2.cell hg2]; exact hc
        have hbf : b = true := by rw [hbv, HRI.out]; rfl
        obtain ⟨rfl, rfl⟩ := hbx _ HRI.out
        subst hbf
        clear hbx hbv
        have hO1 := Lib.hid ((((HO.out.later hb1).later hb2).alloc (.cells #[.string (bs cm), .string (bs rp)] 27)).alloc (.cells #[.string (bs cm), .string (bs rp)] 27))
        have hone : Rds 2 LRec.cells ((w2.alloc (.cells #[.string (bs cm), .string (bs rp)] 27)).alloc (.cells #[.string (bs cm), .string (bs rp)] 27)) (some ⟨w2.heap.size + 1, 0, none⟩) [asRec (cm, rp, a + ((bef 10 (l.drop a)).length + 1))] := by
          have h := Rds.one (sz := 2) (f := LRec.cells) (w := w2.alloc (.cells #[.string (bs cm), .string (bs rp)] 27)) (asRec (cm, rp, a + ((bef 10 (l.drop a)).length + 1))) 27
          rw [show (w2.alloc (.cells #[.string (bs cm), .string (bs rp)] 27)).heap.size = w2.heap.size + 1 from by simp] at h
          exact h
        have HONE := Lib.hid hone; clear hone
        go_upto_region 8 with (at_builtin; refine wpList_app1 rfl _ _ 48 rfl w.heap.size 27 i0 _ 2 32 Tryd.underlying48 hi hz0 hz1 hz2 rfl (by decide) LRec.cells LRec.cells_len LRec.cells_one (.slice A4 xs.length c4) (xs.map asRec) rfl hO1.out ⟨w2.heap.size + 1, 0, none⟩ 1 (asRec (cm, rp, a + ((bef 10 (l.drop a)).length + 1))) rfl HONE.out (by unfold maxLen; simp; omega) (by simp; omega) (by simp; omega) ?_; intro v' w4 hO4 hg4 ha4)
        have z4 := hg4.size
        simp only [heap_size2] at z4
        have hc4 : w4.cell? ⟨g, 0, none⟩ = some (.string (bs (bef 10 (l.drop a)))) := (World.cell?_of_block (hg4.block g (by simp; omega) (fun e => by have := (lO.out g e.symm).2; omega))).trans (((bl2 w2 _ _).cell (p := ⟨g, 0, none⟩) (by show g < _; omega)).trans hc2)
        have hB4 : Below w.heap.size w w4 := (((bth (bth hb hb1) hb2).alloc (by omega) _).alloc (by simp; omega) _).grown hg4 (by simp; omega) (fun k hk => (lO.out k hk).1)
        go_wp2
        go_roundw
        case rel =>
          refine ⟨xs ++ [(cm, rp, a + ((bef 10 (l.drop a)).length + 1))], a + ((bef 10 (l.drop a)).length + 1), by rw [List.length_append]; exact HN.out, by simp; omega, hle, (endOf_app xs (cm, rp, a + ((bef 10 (l.drop a)).length + 1))).symm, by rw [bs_size]; congr 1, ?_, hB4⟩
          rw [List.map_append]; exact hO4
        case measure => simp [intOf]; omega
end Go.Proofs.YtpejnfhenpdobaaDoor
