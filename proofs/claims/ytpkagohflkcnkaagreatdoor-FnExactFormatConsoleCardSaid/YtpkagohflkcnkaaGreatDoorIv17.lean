/- The log, by the reference: a line is read (the whole contract). -/
import Derived.Test.YtpkagohflkcnkaaGreatDoorIv16
namespace Go.Proofs.YtpkagohflkcnkaaGreatDoor
open Go.RowKit Go.G9
def RdOut (l : L8) (k : Nat) (e : Ending) : Prop := ∃ (c r : ByteArray) (b : Bool), e = .returned (.tuple #[.agg #[.string c, .string r], .bool b]) ∧ b = (rdI l k).isSome ∧ ∀ x, rdI l k = some x → c = bs x.1 ∧ r = bs x.2
theorem RdOut.no {l : L8} {k : Nat} (c r : ByteArray) (h : rdS l k = none) : RdOut l k (.returned (.tuple #[.agg #[.string c, .string r], .bool false])) := by
  rw [rdS_eq] at h
  exact ⟨c, r, false, rfl, by rw [h]; rfl, fun x hx => by rw [h] at hx; cases hx⟩
set_option maxHeartbeats 4000000 in
set_option maxRecDepth 100000 in
theorem l27Read_is (l : L8) (hl : l.length ≤ 1048576) (k : Nat) (hk : k < 100) (w : World) : Calls Tryz.prog 91 #[.string (bs l), .int .i64 k] w fun e w' => RdOut l k e ∧ Below w.heap.size w w' := by
  have g1 := bef_len_le 35 l
  have hN := numS_size (k : Int) (by omega)
  have hN' := hN
  have hn1 : (numS (k : Int)).size = (numL (k : Int)).length := bs_size _
  have hah : numS (k : Int) ++ ⟨#[32]⟩ = bs (numL (k : Int) ++ [32]) := bs_app _ [32]
  generalize ht : bef 35 l = t at g1
  have hsp : ∀ W, Calls Tryz.prog 90 #[.string (bs l), .int .u8 35] W fun e w' => ∃ g m n, e = .returned (.slice (some ⟨g, 0, none⟩) m n) ∧ 1 ≤ m ∧ m ≤ l.length + 1 ∧ ((2 ≤ m) ↔ hasC 35 l = true) ∧ w'.cell? ⟨g, 0, none⟩ = some (.string (bs t)) ∧ W.heap.size ≤ g ∧ g < w'.heap.size ∧ Below W.heap.size W w' := fun W => by
    have := l1Split1_is l 35 hl W
    rwa [ht] at this
  have HSP := Lib.hid hsp; clear hsp
  have hts := bs_size t
  generalize hm : (numS (k : Int)).size = m at hN hn1
  have hrd : rdS l k = if t.take (m + 1) = numL k ++ [32] then (if (bef 64 (t.drop (m + 1))).length = (t.drop (m + 1)).length then none
      else if okL (bef 64 (t.drop (m + 1))) ((t.drop (m + 1)).drop ((bef 64 (t.drop (m + 1))).length + 1)) && decide (lineL k (bef 64 (t.drop (m + 1))) ((t.drop (m + 1)).drop ((bef 64 (t.drop (m + 1))).length + 1)) = l) then some (bef 64 (t.drop (m + 1)), (t.drop (m + 1)).drop ((bef 64 (t.drop (m + 1))).length + 1)) else none) else none := by
    unfold rdS
    simp only [ht, List.length_append, List.length_cons, List.length_nil, ← hn1]
  have HAH := Lib.hid hah; have HRD := Lib.hid hrd; have HT := Lib.hid ht; clear hah hrd ht
  by_cases hsh : t.length < m + 1
  · have hno : rdS l k = none := by
      rw [HRD.out, if_neg]
      intro h
      have := congrArg List.length h
      simp at this; omega
    have HNO := Lib.hid hno; clear hno
    have hlt : (bs t).size < (numS (k : Int)).size + 1 := by omega
    go_enter Tryz.func91, Tryz.ntmps91
    go_wp2_with fail
    refine (l1Num_is k (by omega) (by omega) _).mono ?_
    rintro e w1 ⟨rfl, hb1⟩
    have hq1 : Below w.heap.size w w1 := bth (by repeat (first | exact Below.refl _ _ | refine Below.alloc ?_ (by first | exact Nat.le_refl _ | (simp <;> omega)) _ | refine Below.setCell ?_ (by first | exact Nat.le_refl _ | (simp <;> omega)) _)) hb1
    have HB : Below w.heap.size w w1 := hq1
    have hZ : Blk w1 (w.heap.size) 117 #[.string ⟨#[]⟩, .string ⟨#[]⟩] := Blk.below (by repeat (first | exact Blk.new _ _ _ | exact Blk.new2 _ _ _ _ | exact Blk.new3 _ _ _ _ _ | exact Blk.new4 _ _ _ _ _ _ | refine Blk.alloc ?_ _)) hb1 (by simp <;> omega)
    have z0 := (hZ.cell 0).trans (show _ = some (.string ⟨#[]⟩) from rfl)
    have z1 := (hZ.cell 1).trans (show _ = some (.string ⟨#[]⟩) from rfl)
    go_wp2_with fail
    refine (HSP.out _).mono ?_
    rintro e w2 ⟨g, m2, n, rfl, hm1, hm3, hm4, hc, hg, hg2, hb2⟩
    have hq2 : Below w1.heap.size w1 w2 := bth (by repeat (first | exact Below.refl _ _ | refine Below.alloc ?_ (by first | exact Nat.le_refl _ | (simp <;> omega)) _ | refine Below.setCell ?_ (by first | exact Nat.le_refl _ | (simp <;> omega)) _)) hb2
    replace HB := bth HB hq2
    replace hZ := hZ.below hq2 hZ.lt
    replace z0 := (hZ.cell 0).trans (show _ = some (.string ⟨#[]⟩) from rfl)
    replace z1 := (hZ.cell 1).trans (show _ = some (.string ⟨#[]⟩) from rfl)
    have y0 := hZ.frozen 0
    have y1 := hZ.frozen 1
    have yhZ := hZ.lt
    have hF := ((hZ.set_ 0 (.string ⟨#[]⟩)).set_ 1 (.string ⟨#[]⟩))
    have r0 := (hF.cell 0).trans (show _ = some (.string ⟨#[]⟩) from rfl)
    have r1 := (hF.cell 1).trans (show _ = some (.string ⟨#[]⟩) from rfl)
    go_wp2
    refine bodyPost_ret (v := .tuple #[.agg #[.string ⟨#[]⟩, .string ⟨#[]⟩], .bool false]) (by simp [results, Tryz.results91, go_sem, r0, r1]) rfl ?_
    exact ⟨RdOut.no _ _ HNO.out, (by repeat (first | exact HB | exact Below.refl _ _ | refine Below.alloc ?_ (by first | exact Nat.le_refl _ | (have hsz := HB.size; simp; omega) | (simp <;> omega)) _ | refine Below.setCell ?_ (by first | exact Nat.le_refl _ | (simp <;> omega)) _))⟩
  by_cases hpre : t.take (m + 1) = numL k ++ [32]
  case neg =>
    have hno : rdS l k = none := by rw [HRD.out, if_neg hpre]
    have HNO := Lib.hid hno; clear hno
    have hne : ((((bs t).extract 0 ((numS (k : Int)).size + 1))).toList == (numS (k : Int) ++ (⟨#[32]⟩ : ByteArray)).toList) = false := str_ne (by
      rw [HAH.out, bs_extract, hm]
      intro h
      exact hpre (by simpa using bs_inj h))
    have hge : (numS (k : Int)).size + 1 ≤ (bs t).size := by omega
    have hts2 : (bs t).size ≤ 1048576 := by omega
    have htl : t.length ≤ 1048576 := by omega
    clear hpre hn1 hm hts
    go_enter Tryz.func91, Tryz.ntmps91
    go_wp2_with fail
    refine (l1Num_is k (by omega) (by omega) _).mono ?_
    rintro e w1 ⟨rfl, hb1⟩
    have hq1 : Below w.heap.size w w1 := bth (by repeat (first | exact Below.refl _ _ | refine Below.alloc ?_ (by first | exact Nat.le_refl _ | (simp <;> omega)) _ | refine Below.setCell ?_ (by first | exact Nat.le_refl _ | (simp <;> omega)) _)) hb1
    have HB : Below w.heap.size w w1 := hq1
    have hZ : Blk w1 (w.heap.size) 117 #[.string ⟨#[]⟩, .string ⟨#[]⟩] := Blk.below (by repeat (first | exact Blk.new _ _ _ | exact Blk.new2 _ _ _ _ | exact Blk.new3 _ _ _ _ _ | exact Blk.new4 _ _ _ _ _ _ | refine Blk.alloc ?_ _)) hb1 (by simp <;> omega)
    have z0 := (hZ.cell 0).trans (show _ = some (.string ⟨#[]⟩) from rfl)
    have z1 := (hZ.cell 1).trans (show _ = some (.string ⟨#[]⟩) from rfl)
    go_wp2_with fail
    refine (HSP.out _).mono ?_
    rintro e w2 ⟨g, m2, n, rfl, hm1, hm3, hm4, hc, hg, hg2, hb2⟩
    have hq2 : Below w1.heap.size w1 w2 := bth (by repeat (first | exact Below.refl _ _ | refine Below.alloc ?_ (by first | exact Nat.le_refl _ | (simp <;> omega)) _ | refine Below.setCell ?_ (by first | exact Nat.le_refl _ | (simp <;> omega)) _)) hb2
    replace HB := bth HB hq2
    replace hZ := hZ.below hq2 hZ.lt
    replace z0 := (hZ.cell 0).trans (show _ = some (.string ⟨#[]⟩) from rfl)
    replace z1 := (hZ.cell 1).trans (show _ = some (.string ⟨#[]⟩) from rfl)
    have y0 := hZ.frozen 0
    have y1 := hZ.frozen 1
    have yhZ := hZ.lt
    have hF := ((hZ.set_ 0 (.string ⟨#[]⟩)).set_ 1 (.string ⟨#[]⟩))
    have r0 := (hF.cell 0).trans (show _ = some (.string ⟨#[]⟩) from rfl)
    have r1 := (hF.cell 1).trans (show _ = some (.string ⟨#[]⟩) from rfl)
    go_wp2
    refine bodyPost_ret (v := .tuple #[.agg #[.string ⟨#[]⟩, .string ⟨#[]⟩], .bool false]) (by simp [results, Tryz.results91, go_sem, r0, r1]) rfl ?_
    exact ⟨RdOut.no _ _ HNO.out, (by repeat (first | exact HB | exact Below.refl _ _ | refine Below.alloc ?_ (by first | exact Nat.le_refl _ | (have hsz := HB.size; simp; omega) | (simp <;> omega)) _ | refine Below.setCell ?_ (by first | exact Nat.le_refl _ | (simp <;> omega)) _))⟩
  case pos =>
    have heq : ((((bs t).extract 0 ((numS (k : Int)).size + 1))).toList == (numS (k : Int) ++ (⟨#[32]⟩ : ByteArray)).toList) = true := str_eq (by
      rw [HAH.out, bs_extract, hm]
      congr 1)
    have hge : (numS (k : Int)).size + 1 ≤ (bs t).size := by omega
    have hrest : (bs t).extract ((numS (k : Int)).size + 1) (bs t).size = bs (t.drop (m + 1)) := by rw [bs_extract, hm, bs_size, List.take_of_length_le (by simp)]
    have hrd := HRD.out
    rw [if_pos hpre] at hrd
    have hdl : (t.drop (m + 1)).length ≤ t.length := by simp
    generalize hr : t.drop (m + 1) = rest at hrest hrd hdl
    have hsp2 : ∀ W, Calls Tryz.prog 90 #[.string ((bs t).extract ((numS (k : Int)).size + 1) (bs t).size), .int .u8 64] W fun e w' => ∃ g m n, e = .returned (.slice (some ⟨g, 0, none⟩) m n) ∧ 1 ≤ m ∧ m ≤ rest.length + 1 ∧ ((2 ≤ m) ↔ hasC 64 rest = true) ∧ w'.cell? ⟨g, 0, none⟩ = some (.string (bs (bef 64 rest))) ∧ W.heap.size ≤ g ∧ g < w'.heap.size ∧ Below W.heap.size W w' := fun W => by
      rw [hrest]; exact l1Split1_is rest 64 (by omega) W
    have ga := bef_len_le 64 rest
    generalize hask : bef 64 rest = ask at hrd hsp2 ga
    have hrs : ((bs t).extract ((numS (k : Int)).size + 1) (bs t).size).size = rest.length := by rw [hrest]; exact bs_size _
    have has := bs_size ask
    have HSP2 := Lib.hid hsp2; have HREST := Lib.hid hrest; have HR := Lib.hid hr; have HASK := Lib.hid hask; clear hsp2 hrest hr hask hpre
    have hts2 : (bs t).size ≤ 1048576 := by omega
    have hrl : rest.length ≤ 1048576 := by omega
    have hass : (bs ask).size ≤ 1048576 := by omega
    have hrs2 : ((bs t).extract ((numS (k : Int)).size + 1) (bs t).size).size ≤ 1048576 := by omega
    by_cases hsame : ask.length = rest.length
    · rw [if_pos hsame] at hrd
      have HNO := Lib.hid hrd; clear hrd
      have hsz : (bs t).size - ((numS (k : Int)).size + 1) = rest.length := by
        have e := congrArg List.length HR.out
        simp only [List.length_drop] at e
        omega
      have hb : (((bs ask).size : Int) == (((bs t).size - ((numS (k : Int)).size + 1) : Nat) : Int)) = true := by rw [hsz, has, hsame]; exact beq_iff_eq.2 rfl
      clear hsz hsame
      clear hrs has hn1 hm hts
      go_enter Tryz.func91, Tryz.ntmps91
      go_wp2_with fail
      refine (l1Num_is k (by omega) (by omega) _).mono ?_
      rintro e w1 ⟨rfl, hb1⟩
      have hq1 : Below w.heap.size w w1 := bth (by repeat (first | exact Below.refl _ _ | refine Below.alloc ?_ (by first | exact Nat.le_refl _ | (simp <;> omega)) _ | refine Below.setCell ?_ (by first | exact Nat.le_refl _ | (simp <;> omega)) _)) hb1
      have HB : Below w.heap.size w w1 := hq1
      have hZ : Blk w1 (w.heap.size) 117 #[.string ⟨#[]⟩, .string ⟨#[]⟩] := Blk.below (by repeat (first | exact Blk.new _ _ _ | exact Blk.new2 _ _ _ _ | exact Blk.new3 _ _ _ _ _ | exact Blk.new4 _ _ _ _ _ _ | refine Blk.alloc ?_ _)) hb1 (by simp <;> omega)
      have z0 := (hZ.cell 0).trans (show _ = some (.string ⟨#[]⟩) from rfl)
      have z1 := (hZ.cell 1).trans (show _ = some (.string ⟨#[]⟩) from rfl)
      go_wp2_with fail
      refine (HSP.out _).mono ?_
      rintro e w2 ⟨g, m2, n, rfl, hm1, hm3, hm4, hc, hg, hg2, hb2⟩
      have hq2 : Below w1.heap.size w1 w2 := bth (by repeat (first | exact Below.refl _ _ | refine Below.alloc ?_ (by first | exact Nat.le_refl _ | (simp <;> omega)) _ | refine Below.setCell ?_ (by first | exact Nat.le_refl _ | (simp <;> omega)) _)) hb2
      replace HB := bth HB hq2
      replace hZ := hZ.below hq2 hZ.lt
      replace z0 := (hZ.cell 0).trans (show _ = some (.string ⟨#[]⟩) from rfl)
      replace z1 := (hZ.cell 1).trans (show _ = some (.string ⟨#[]⟩) from rfl)
      go_wp2_with fail
      refine (HSP2.out _).mono ?_
      rintro e w3 ⟨g', m3, n', rfl, hm1', hm3', hm4', hc', hg', hg2', hb3⟩
      have hq3 : Below w2.heap.size w2 w3 := bth (by repeat (first | exact Below.refl _ _ | refine Below.alloc ?_ (by first | exact Nat.le_refl _ | (simp <;> omega)) _ | refine Below.setCell ?_ (by first | exact Nat.le_refl _ | (simp <;> omega)) _)) hb3
      replace HB := bth HB hq3
      replace hZ := hZ.below hq3 hZ.lt
      replace z0 := (hZ.cell 0).trans (show _ = some (.string ⟨#[]⟩) from rfl)
      replace z1 := (hZ.cell 1).trans (show _ = some (.string ⟨#[]⟩) from rfl)
      have y0 := hZ.frozen 0
      have y1 := hZ.frozen 1
      have yhZ := hZ.lt
      have hF := ((hZ.set_ 0 (.string ⟨#[]⟩)).set_ 1 (.string ⟨#[]⟩))
      have r0 := (hF.cell 0).trans (show _ = some (.string ⟨#[]⟩) from rfl)
      have r1 := (hF.cell 1).trans (show _ = some (.string ⟨#[]⟩) from rfl)
      go_wp2
      refine bodyPost_ret (v := .tuple #[.agg #[.string ⟨#[]⟩, .string ⟨#[]⟩], .bool false]) (by simp [results, Tryz.results91, go_sem, r0, r1]) rfl ?_
      exact ⟨RdOut.no _ _ HNO.out, (by repeat (first | exact HB | exact Below.refl _ _ | refine Below.alloc ?_ (by first | exact Nat.le_refl _ | (have hsz := HB.size; simp; omega) | (simp <;> omega)) _ | refine Below.setCell ?_ (by first | exact Nat.le_refl _ | (simp <;> omega)) _))⟩
    · rw [if_neg hsame] at hrd
      have hlt : ask.length + 1 ≤ rest.length := by omega
      have hrl2 : (rest.drop (ask.length + 1)).length ≤ rest.length := by simp
      have hrest := HREST.out
      have hrep : (bs rest).extract ((bs ask).size + 1) (bs rest).size = bs (rest.drop (ask.length + 1)) := by rw [bs_extract, bs_size, bs_size, List.take_of_length_le (by simp)]
      have hsp3 : ∀ W, Calls Tryz.prog 90 #[.string (bs rest), .int .u8 64] W fun e w' => ∃ g m n, e = .returned (.slice (some ⟨g, 0, none⟩) m n) ∧ 1 ≤ m ∧ m ≤ rest.length + 1 ∧ ((2 ≤ m) ↔ hasC 64 rest = true) ∧ w'.cell? ⟨g, 0, none⟩ = some (.string (bs ask)) ∧ W.heap.size ≤ g ∧ g < w'.heap.size ∧ Below W.heap.size W w' := fun W => by
        have := HSP2.out W
        rwa [hrest] at this
      generalize hp : rest.drop (ask.length + 1) = rep at hrd hrep hrl2
      have hb : (((bs ask).size : Int) == ((bs rest).size : Int)) = false := by rw [bs_size, bs_size]; exact beq_eq_false_iff_ne.2 (by omega)
      have hl1 : (bs ask).size + 1 ≤ (bs rest).size := by rw [bs_size, bs_size]; omega
      have hl2 : (bs rest).size ≤ 1048576 := by rw [bs_size]; omega
      have hl3 : (bs rep).size ≤ 1048576 := by rw [bs_size]; omega
      have hl4 : (bs l).size ≤ 1048576 := by rw [bs_size]; omega
      refine (l27Read_last l t rest ask rep k hk hN' HSP (Lib.hid hsp3) heq hge hts2 hrest hrep hb hl1 hl2 hl3 hl4 _ rfl w).mono ?_
      rintro e w' ⟨rfl, hb'⟩
      rw [rdS_eq] at hrd
      refine ⟨⟨_, _, _, rfl, ?_, ?_⟩, hb'⟩
      · rw [hrd]; split <;> rename_i h <;> simp [h]
      · intro x hx
        rw [hrd] at hx
        split at hx
        · injection hx with hx; subst hx; exact ⟨rfl, rfl⟩
        · cases hx
end Go.Proofs.YtpkagohflkcnkaaGreatDoor
/- The log, by the reference: the records at the start of a text. -/
namespace Go.Proofs.YtpkagohflkcnkaaGreatDoor
open Go.RowKit Go.G9
/-- Where the last record ends. -/
def endOf (xs : List (L8 × L8 × Nat)) : Nat := (0 :: xs.map (·.2.2)).getLastD 0
def endL (l : L8) : Nat := endOf (rdAll l)
theorem endOf_app (xs : List (L8 × L8 × Nat)) (x : L8 × L8 × Nat) : endOf (xs ++ [x]) = x.2.2 := by
  have e : (0 :: (xs ++ [x]).map (·.2.2)) = (0 :: xs.map (·.2.2)) ++ [x.2.2] := by simp
  unfold endOf
  rw [e, List.getLastD_eq_getLast?, List.getLast?_append]
  rfl
theorem rdGo_nil {f k : Nat} {l : L8} {a : Nat} (h : rd1 l k = none) : rdGo f k l a = [] := by
  cases f with
  | zero => rfl
  | succ f => rw [rdGo, h]
theorem rd1_empty (k : Nat) : rd1 [] k = none := by unfold rd1; simp [hasC]
theorem rd1_full (l : L8) {k : Nat} (h : 60 ≤ k) : rd1 l k = none := by unfold rd1; rw [if_neg]; simp; omega
set_option maxHeartbeats 4000000 in
set_option maxRecDepth 100000 in
theorem l27Open_is (l : L8) (hl : l.length ≤ 1048576) (w : World) : Calls Tryz.prog 59 #[.string (bs l)] w fun e w' => ∃ A c, e = .returned (.tuple #[.slice A (recsL l).length c, .int .i64 (endL l : Nat)]) ∧
    OwnV w.heap.size 117 2 LRec.cells w' (.slice A (recsL l).length c) (recsL l) ∧ Below w.heap.size w w' := by
  obtain ⟨i0, hi, hz0, hz1, hz2⟩ := info_parts info_LRec
  have hsz := bs_size l
  have hs1 : (bs l).size ≤ 1048576 := by omega
  have HS := Lib.hid hsz; clear hsz
  have hR0 := OwnV.built (B := w.heap.size) (f := LRec.cells) w ([] : List LRec) 117 (Nat.le_refl _) (by simp) LRec.cells_len
  simp only [List.flatMap_nil] at hR0
  have HR0 := Lib.hid hR0; clear hR0
  go_enter Tryz.func59, Tryz.ntmps59
  go_wp2
  go_loopw [4, 5] (fun v4 v5 wr => ∃ (xs : List (L8 × L8 × Nat)) (a : Nat), rdAll l = xs ++ rdGo (61 - xs.length) xs.length (l.drop a) a ∧ xs.length ≤ 60 ∧ a ≤ (bs l).size ∧ a = endOf xs ∧ v5 = .int .i64 a ∧
      OwnV w.heap.size 117 2 LRec.cells wr v4 (xs.map asRec) ∧ Below w.heap.size w wr) (fun _ v5 _ => 1048577 - (intOf v5).toNat)
  case atStart =>
    exact ⟨[], 0, rfl, by simp, Nat.zero_le _, rfl, rfl, by simpa using HR0.out, bl1 _ _⟩
  case round =>
    obtain ⟨xs, a, hall, hxs, ha, hae, rfl, hO, hb⟩ := hrel
    obtain ⟨A4, c4, rfl, hc4, _, _⟩ := hO.form LRec.cells_len
    simp only [List.length_map] at hO hc4 ⊢
    have hla : a ≤ l.length := by rw [← HS.out]; exact ha
    have z0 := hb.size
    have lO := Lib.hid hO.lt
    have HO := Lib.hid hO; have HAE := Lib.hid hae; clear hO hae
    have hfin : rd1 (l.drop a) xs.length = none → rdAll l = xs := fun h => by rw [hall, rdGo_nil h, List.append_nil]
    have HFIN := Lib.hid hfin; clear hfin
    have hdone : rdAll l = xs → ∃ A c, Value.tuple #[.slice A4 xs.length c4, .int .i64 a] = .tuple #[.slice A (recsL l).length c, .int .i64 (endL l : Nat)] ∧ OwnV w.heap.size 117 2 LRec.cells wr (.slice A (recsL l).length c) (recsL l) ∧ Below w.heap.size w wr := fun h => by
      have e1 : recsL l = xs.map asRec := by rw [recsL, h]
      have e2 : endL l = a := by rw [endL, h, HAE.out]
      rw [e1, e2, List.length_map]
      exact ⟨A4, c4, rfl, HO.out, hb⟩
    have HDONE := Lib.hid hdone; clear hdone
    by_cases hlt : a < (bs l).size
    case neg =>
      have hd : rdAll l = xs := HFIN.out (by
        have : l.drop a = [] := List.drop_eq_nil_of_le (by rw [← HS.out]; omega)
        rw [this]; exact rd1_empty _)
      have HD := Lib.hid hd; clear hd hall
      go_wp2
      go_ret2
      obtain ⟨A, c, h1, h2⟩ := HDONE.out HD.out
      exact ⟨A, c, congrArg Ending.returned h1, h2⟩
    by_cases hk : xs.length < 60
    case neg =>
      have hd : rdAll l = xs := HFIN.out (rd1_full _ (by omega))
      have HD := Lib.hid hd; clear hd hall
      go_wp2
      go_ret2
      obtain ⟨A, c, h1, h2⟩ := HDONE.out HD.out
      exact ⟨A, c, congrArg Ending.returned h1, h2⟩
    have hx : (bs l).extract a (bs l).size = bs (l.drop a) := by rw [bs_extract, bs_size, List.take_of_length_le (by simp)]
    have hsp : ∀ W, Calls Tryz.prog 90 #[.string ((bs l).extract a (bs l).size), .int .u8 10] W fun e w' => ∃ g m n, e = .returned (.slice (some ⟨g, 0, none⟩) m n) ∧ 1 ≤ m ∧ m ≤ (l.drop a).length + 1 ∧ ((2 ≤ m) ↔ hasC 10 (l.drop a) = true) ∧ w'.cell? ⟨g, 0, none⟩ = some (.string (bs (bef 10 (l.drop a)))) ∧ W.heap.size ≤ g ∧ g < w'.heap.size ∧ Below W.heap.size W w' := fun W => by
      rw [hx]; exact l1Split1_is (l.drop a) 10 (by simp; omega) W
    have gb := bef_len_le 10 (l.drop a)
    have hdl : (l.drop a).length ≤ l.length := by simp
    have hrd : ∀ W, Calls Tryz.prog 91 #[.string (bs (bef 10 (l.drop a))), .int .i64 xs.length] W fun e w' => RdOut (bef 10 (l.drop a)) xs.length e ∧ Below W.heap.size W w' := fun W => l27Read_is _ (by omega) xs.length (by omega) W
    have HSP := Lib.hid hsp; have HRD := Lib.hid hrd; have HALL := Lib.hid hall; clear hsp hrd hx hall
    have hr1 : rd1 (l.drop a) xs.length = if hasC 10 (l.drop a) then (rdI (bef 10 (l.drop a)) xs.length).map fun x => (x.1, x.2, (bef 10 (l.drop a)).length + 1) else none := by
      unfold rd1; simp [hk]
    have HR1 := Lib.hid hr1; clear hr1
    have hbz : (bs (bef 10 (l.drop a))).size ≤ 1048576 := by rw [bs_size]; omega
    cases hh : hasC 10 (l.drop a)
    · have hd : rdAll l = xs := HFIN.out (by rw [HR1.out, hh]; rfl)
      have HD := Lib.hid hd; have HH := Lib.hid hh; clear hd hh
      go_wp2_with fail
      refine (HSP.out _).mono ?_
      rintro e w1 ⟨g, m, n, rfl, hm1, hm3, hm4, hc, hg, hg2, hb1⟩
      have z1 := hb1.size
      have hm5 : m < 2 := by
        have := HH.out
        rcases Nat.lt_or_ge m 2 with h | h
        · exact h
        · rw [hm4.1 h] at this; cases this
      clear hm4
      go_wp2_with fail
      refine (HRD.out _).mono ?_
      rintro e w2 ⟨⟨c, r, b, rfl, hbv, hbx⟩, hb2⟩
      have z2 := hb2.size
      have hc2 : w2.cell? ⟨g, 0, none⟩ = some (.string (bs (bef 10 (l.drop a)))) := by rw [hb2.cell hg2]; exact hc
      go_wp2
      go_ret2
      obtain ⟨A, c', h1, h2⟩ := HDONE.out HD.out
      exact ⟨A, c', congrArg Ending.returned h1, ((h2.1.later hb1).later hb2).alloc _, (bth (bth h2.2 hb1) hb2).alloc (by omega) _⟩
    · cases hrI : rdI (bef 10 (l.drop a)) xs.length with
      | none =>
        have hd : rdAll l = xs := HFIN.out (by rw [HR1.out, hh, hrI]; rfl)
        have HD := Lib.hid hd; have HH := Lib.hid hh; have HRI := Lib.hid hrI; clear hd hh hrI
        go_wp2_with fail
        refine (HSP.out _).mono ?_
        rintro e w1 ⟨g, m, n, rfl, hm1, hm3, hm4, hc, hg, hg2, hb1⟩
        have z1 := hb1.size
        have hm5 : 2 ≤ m := hm4.2 HH.out
        clear hm4
        go_wp2_with fail
        refine (HRD.out _).mono ?_
        rintro e w2 ⟨⟨c, r, b, rfl, hbv, hbx⟩, hb2⟩
        have z2 := hb2.size
        have hc2 : w2.cell? ⟨g, 0, none⟩ = some (.string (bs (bef 10 (l.drop a)))) := by rw [hb2.cell hg2]; exact hc
        have hbf : b = false := by rw [hbv, HRI.out]; rfl
        subst hbf
        clear hbx hbv
        go_wp2
        go_ret2
        obtain ⟨A, c', h1, h2⟩ := HDONE.out HD.out
        exact ⟨A, c', congrArg Ending.returned h1, ((h2.1.later hb1).later hb2).alloc _, (bth (bth h2.2 hb1) hb2).alloc (by omega) _⟩
      | some x =>
        obtain ⟨cm, rp⟩ := x
        have hnext : rdAll l = (xs ++ [(cm, rp, a + ((bef 10 (l.drop a)).length + 1))]) ++ rdGo (61 - (xs.length + 1)) (xs.length + 1) (l.drop (a + ((bef 10 (l.drop a)).length + 1))) (a + ((bef 10 (l.drop a)).length + 1)) := by
          rw [HALL.out, show 61 - xs.length = (61 - (xs.length + 1)) + 1 from by omega, rdGo, HR1.out, hh, hrI]
          simp [List.drop_drop]
        have hle : a + ((bef 10 (l.drop a)).length + 1) ≤ (bs l).size := by
          have h1 : rd1 (l.drop a) xs.length = some (cm, rp, (bef 10 (l.drop a)).length + 1) := by rw [HR1.out, hh, hrI]; rfl
          have := rd1_len h1
          rw [List.length_drop] at this
          rw [HS.out]; omega
        have HN := Lib.hid hnext; have HH := Lib.hid hh; have HRI := Lib.hid hrI; clear hnext hh hrI
        go_wp2_with fail
        refine (HSP.out _).mono ?_
        rintro e w1 ⟨g, m, n, rfl, hm1, hm3, hm4, hc, hg, hg2, hb1⟩
        have z1 := hb1.size
        have hm5 : 2 ≤ m := hm4.2 HH.out
        clear hm4
        go_wp2_with fail
        refine (HRD.out _).mono ?_
        rintro e w2 ⟨⟨c, r, b, rfl, hbv, hbx⟩, hb2⟩
        have z2 := hb2.size
        have hc2 : w2.cell? ⟨g, 0, none⟩ = some (.string (bs (bef 10 (l.drop a)))) := by rw [hb2.cell hg2]; exact hc
        have hbf : b = true := by rw [hbv, HRI.out]; rfl
        obtain ⟨rfl, rfl⟩ := hbx _ HRI.out
        subst hbf
        clear hbx hbv
        have hO1 := Lib.hid ((((HO.out.later hb1).later hb2).alloc (.cells #[.string (bs cm), .string (bs rp)] 117)).alloc (.cells #[.string (bs cm), .string (bs rp)] 117))
        have hone : Rds 2 LRec.cells ((w2.alloc (.cells #[.string (bs cm), .string (bs rp)] 117)).alloc (.cells #[.string (bs cm), .string (bs rp)] 117)) (some ⟨w2.heap.size + 1, 0, none⟩) [asRec (cm, rp, a + ((bef 10 (l.drop a)).length + 1))] := by
          have h := Rds.one (sz := 2) (f := LRec.cells) (w := w2.alloc (.cells #[.string (bs cm), .string (bs rp)] 117)) (asRec (cm, rp, a + ((bef 10 (l.drop a)).length + 1))) 117
          rw [show (w2.alloc (.cells #[.string (bs cm), .string (bs rp)] 117)).heap.size = w2.heap.size + 1 from by simp] at h
          exact h
        have HONE := Lib.hid hone; clear hone
        go_upto_region 8 with (at_builtin; refine wpList_app1 rfl _ _ 84 rfl w.heap.size 117 i0 _ 2 32 Tryz.underlying84 hi hz0 hz1 hz2 rfl (by decide) LRec.cells LRec.cells_len LRec.cells_one (.slice A4 xs.length c4) (xs.map asRec) rfl hO1.out ⟨w2.heap.size + 1, 0, none⟩ 1 (asRec (cm, rp, a + ((bef 10 (l.drop a)).length + 1))) rfl HONE.out (by unfold maxLen; simp; omega) (by simp; omega) (by simp; omega) ?_; intro v' w4 hO4 hg4 ha4)
        have z4 := hg4.size
        simp only [heap_size2] at z4
        have hc4 : w4.cell? ⟨g, 0, none⟩ = some (.string (bs (bef 10 (l.drop a)))) := (World.cell?_of_block (hg4.block g (by simp; omega) (fun e => by have := (lO.out g e.symm).2; omega))).trans (((bl2 w2 _ _).cell (p := ⟨g, 0, none⟩) (by show g < _; omega)).trans hc2)
        have hB4 : Below w.heap.size w w4 := (((bth (bth hb hb1) hb2).alloc (by omega) _).alloc (by simp; omega) _).grown hg4 (by simp; omega) (fun k hk => (lO.out k hk).1)
        go_wp2
        go_roundw
        case rel =>
          refine ⟨xs ++ [(cm, rp, a + ((bef 10 (l.drop a)).length + 1))], a + ((bef 10 (l.drop a)).length + 1), by rw [List.length_append]; exact HN.out, by simp; omega, hle, (endOf_app xs (cm, rp, a + ((bef 10 (l.drop a)).length + 1))).symm, by rw [bs_size]; congr 1, ?_, hB4⟩
          rw [List.map_append]; exact hO4
        case measure => simp [intOf]; omega
end Go.Proofs.YtpkagohflkcnkaaGreatDoor
/- The log, by the reference: is it a log? -/
namespace Go.Proofs.YtpkagohflkcnkaaGreatDoor
open Go.RowKit Go.G9
/-- What the reference asks of a log. -/
def logS (d p : L8) (n : Int) : Bool := decide (d.length + p.length ≤ 30000) && (((endL (d ++ p) : Nat) : Int) == ((d.length : Int) + (p.length : Int)) && ((endL d : Nat) : Int) == (d.length : Int) && ((recsL (d ++ p)).length : Int) == n)
set_option maxHeartbeats 2000000 in
set_option maxRecDepth 100000 in
theorem l27Log_is (d p : L8) (n : Int) (hd : d.length ≤ 1048576) (hp : p.length ≤ 1048576) (v : Bool) (hv : logS d p n = v) (w : World) : Calls Tryz.prog 32 #[.agg #[.string (bs d), .string (bs p), .int .i64 n]] w fun e w' => e = .returned (.bool v) ∧ Below w.heap.size w w' := by
  subst hv
  have hsd := bs_size d
  have hsp := bs_size p
  have s1 : (bs d).size ≤ 1048576 := by omega
  have s2 : (bs p).size ≤ 1048576 := by omega
  by_cases ht : d.length + p.length ≤ 30000
  case neg =>
    have hv : logS d p n = false := by unfold logS; rw [decide_eq_false ht]; rfl
    have s3 : 30000 < (bs d).size + (bs p).size := by omega
    have HV := Lib.hid hv; clear hv hsd hsp ht
    have b0 := boxed w #[.string (bs d), .string (bs p), .int .i64 n] 45 0 (.string (bs d)) rfl
    have b1 := boxed w #[.string (bs d), .string (bs p), .int .i64 n] 45 1 (.string (bs p)) rfl
    have b2 := boxed w #[.string (bs d), .string (bs p), .int .i64 n] 45 2 (.int .i64 n) rfl
    go_enter Tryz.func32, Tryz.ntmps32
    go_wp2
    go_ret
    exact ⟨by rw [HV.out]; rfl, bl1 _ _⟩
  have s3 : (bs d).size + (bs p).size ≤ 30000 := by omega
  have hv : logS d p n = (((endL (d ++ p) : Nat) : Int) == (((bs d).size : Int) + ((bs p).size : Int)) && ((endL d : Nat) : Int) == ((bs d).size : Int) && ((recsL (d ++ p)).length : Int) == n) := by
    unfold logS; rw [decide_eq_true ht, hsd, hsp, Bool.true_and]
  have hop : ∀ W, Calls Tryz.prog 59 #[.string (bs d ++ bs p)] W fun e w' => ∃ A c, e = .returned (.tuple #[.slice A (recsL (d ++ p)).length c, .int .i64 (endL (d ++ p) : Nat)]) ∧
    OwnV W.heap.size 117 2 LRec.cells w' (.slice A (recsL (d ++ p)).length c) (recsL (d ++ p)) ∧ Below W.heap.size W w' := fun W => by
    rw [bs_app]; exact l27Open_is (d ++ p) (by simp; omega) W
  have hop2 : ∀ W, Calls Tryz.prog 59 #[.string (bs d)] W fun e w' => ∃ A c, e = .returned (.tuple #[.slice A (recsL d).length c, .int .i64 (endL d : Nat)]) ∧
    OwnV W.heap.size 117 2 LRec.cells w' (.slice A (recsL d).length c) (recsL d) ∧ Below W.heap.size W w' := fun W => l27Open_is d hd W
  have HOP := Lib.hid hop; have HOP2 := Lib.hid hop2; have HV := Lib.hid hv; clear hop hop2 hv hsd hsp ht
  cases h1 : (((endL (d ++ p) : Nat) : Int) == (((bs d).size : Int) + ((bs p).size : Int)))
  all_goals cases h2 : (((endL d : Nat) : Int) == ((bs d).size : Int))
  all_goals cases h3 : (((recsL (d ++ p)).length : Int) == n)
  all_goals have HW := HV.out
  all_goals rw [h1, h2, h3] at HW
  all_goals have HX := Lib.hid HW
  all_goals clear HV HW
  all_goals
    go_enter Tryz.func32, Tryz.ntmps32
    go_wp2_with fail
    refine (HOP.out _).mono ?_
    rintro e w1 ⟨A1, c1, rfl, hO1, hb1⟩
    have hq1 : Below w.heap.size w w1 := bth (by repeat (first | exact Below.refl _ _ | refine Below.alloc ?_ (by first | exact Nat.le_refl _ | (simp <;> omega)) _ | refine Below.setCell ?_ (by first | exact Nat.le_refl _ | (simp <;> omega)) _)) hb1
    have HB : Below w.heap.size w w1 := hq1
    have hL : Blk w1 (w.heap.size) 45 #[.string (bs d), .string (bs p), .int .i64 n] := Blk.below (by repeat (first | exact Blk.new _ _ _ | exact Blk.new2 _ _ _ _ | exact Blk.new3 _ _ _ _ _ | exact Blk.new4 _ _ _ _ _ _ | refine Blk.alloc ?_ _)) hb1 (by simp <;> omega)
    have b0 := (hL.cell 0).trans (show _ = some (.string (bs d)) from rfl)
    have b1 := (hL.cell 1).trans (show _ = some (.string (bs p)) from rfl)
    have b2 := (hL.cell 2).trans (show _ = some (.int .i64 n) from rfl)
    go_wp2_with fail
    refine (HOP2.out _).mono ?_
    rintro e w2 ⟨A2, c2, rfl, hO2, hb2⟩
    have hq2 : Below w1.heap.size w1 w2 := bth (by repeat (first | exact Below.refl _ _ | refine Below.alloc ?_ (by first | exact Nat.le_refl _ | (simp <;> omega)) _ | refine Below.setCell ?_ (by first | exact Nat.le_refl _ | (simp <;> omega)) _)) hb2
    replace HB := bth HB hq2
    replace hL := hL.below hq2 hL.lt
    replace b0 := (hL.cell 0).trans (show _ = some (.string (bs d)) from rfl)
    replace b1 := (hL.cell 1).trans (show _ = some (.string (bs p)) from rfl)
    replace b2 := (hL.cell 2).trans (show _ = some (.int .i64 n) from rfl)
    have yhL := hL.lt
    go_wp2
    go_ret
    exact ⟨by rw [HX.out]; rfl, (bth HB (by repeat (first | exact Below.refl _ _ | refine Below.alloc ?_ (by first | exact Nat.le_refl _ | (simp <;> omega)) _ | refine Below.setCell ?_ (by first | exact Nat.le_refl _ | (simp <;> omega)) _)))⟩
end Go.Proofs.YtpkagohflkcnkaaGreatDoor
/- Plain law of the log: the records of a prefix. -/
namespace Go.Proofs.YtpkagohflkcnkaaGreatDoor
open Go.RowKit Go.G9
theorem hasC_app (c : UInt8) (a b : L8) : hasC c (a ++ b) = (hasC c a || hasC c b) := by unfold hasC; simp
theorem bef_app' {c : UInt8} {a b : L8} (h : hasC c a = true) : bef c (a ++ b) = bef c a := by
  have := split_at (hasC_mem.1 h)
  have hn := bef_not (c := c) a
  conv => lhs; rw [this, List.append_assoc, List.cons_append]
  exact bef_app hn
/-- What a prefix reads. -/
theorem rd1_pre (d p : L8) (k : Nat) : (∀ c r n, rd1 (d ++ p) k = some (c, r, n) → n ≤ d.length → rd1 d k = some (c, r, n)) ∧ (∀ c r n, rd1 (d ++ p) k = some (c, r, n) → d.length < n → rd1 d k = none) ∧ (rd1 (d ++ p) k = none → rd1 d k = none) := by
  cases hd : hasC 10 d
  · have h0 : rd1 d k = none := by unfold rd1; rw [hd]; rfl
    refine ⟨fun c r n h hn => ?_, fun _ _ _ _ _ => h0, fun _ => h0⟩
    obtain ⟨h1, h2, rfl, h4⟩ := rd1_some h
    exfalso
    have h5 : d = (lineL k c r ++ 10 :: aft 10 (d ++ p)).take d.length := by rw [← h4]; simp
    refine hasC_not.1 hd ?_
    rw [h5, List.take_append, List.mem_append]
    refine .inr ?_
    rw [show d.length - (lineL k c r).length = (d.length - ((lineL k c r).length + 1)) + 1 from by omega]
    simp
  · have e : rd1 (d ++ p) k = rd1 d k := by
      unfold rd1
      rw [hasC_app, hd, bef_app' hd]; simp
    refine ⟨fun c r n h _ => by rw [← e]; exact h, fun c r n h hn => ?_, fun h => by rw [← e]; exact h⟩
    rw [e] at h
    have := rd1_len h
    omega
theorem rdGo_take : ∀ (f k : Nat) (d p : L8) (a : Nat), rdGo f k d a = (rdGo f k (d ++ p) a).takeWhile (fun x => decide (x.2.2 ≤ a + d.length))
  | 0, _, _, _, _ => rfl
  | f + 1, k, d, p, a => by
    obtain ⟨h1, h2, h3⟩ := rd1_pre d p k
    cases h : rd1 (d ++ p) k with
    | none => rw [rdGo, rdGo, h3 h, h]; rfl
    | some x =>
      obtain ⟨c, r, n⟩ := x
      by_cases hn : n ≤ d.length
      · rw [rdGo, rdGo, h1 c r n h hn, h]
        simp only [List.takeWhile_cons]
        rw [decide_eq_true (by omega : a + n ≤ a + d.length)]
        simp only [if_true]
        rw [rdGo_take f (k + 1) (d.drop n) p (a + n), List.drop_append_of_le_length hn]
        have : a + n + (d.drop n).length = a + d.length := by simp; omega
        rw [this]
      · rw [rdGo, rdGo, h2 c r n h (by omega), h]
        simp only [List.takeWhile_cons]
        rw [decide_eq_false (by omega)]
        simp
/-- The ends rise. -/
theorem rdGo_rise : ∀ (f k : Nat) (l : L8) (a : Nat), (a :: (rdGo f k l a).map (·.2.2)).Pairwise (· < ·)
  | 0, _, _, _ => by simp [rdGo]
  | f + 1, k, l, a => by
    rw [rdGo]
    cases h : rd1 l k with
    | none => simp
    | some x =>
      obtain ⟨c, r, n⟩ := x
      have hn := rd1_len h
      have ih := rdGo_rise f (k + 1) (l.drop n) (a + n)
      simp only [List.map_cons]
      rw [List.pairwise_cons]
      refine ⟨fun y hy => ?_, ih⟩
      rw [List.mem_cons] at hy
      rcases hy with rfl | hy
      · omega
      · have := (List.pairwise_cons.1 ih).1 y hy
        omega
theorem rdGo_end : ∀ (f k : Nat) (l : L8) (a : Nat), ∀ x ∈ rdGo f k l a, x.2.2 ≤ a + 372 * f ∧ x.2.2 ≤ a + l.length
  | 0, _, _, _ => by simp [rdGo]
  | f + 1, k, l, a => by
    rw [rdGo]
    cases h : rd1 l k with
    | none => simp
    | some x =>
      obtain ⟨c, r, n⟩ := x
      have hn := rd1_len h
      intro y hy
      rw [List.mem_cons] at hy
      rcases hy with rfl | hy
      · simp only; omega
      · have := rdGo_end f (k + 1) (l.drop n) (a + n) y hy
        rw [List.length_drop] at this
        omega
theorem last_take : ∀ (zs : List Nat) (a m : Nat), (a :: zs).Pairwise (· < ·) → a ≤ m → ((a :: zs.takeWhile (fun x => decide (x ≤ m))).getLastD 0 = m ↔ m ∈ a :: zs)
  | [], a, m, _, _ => by simp [eq_comm]
  | z :: zs, a, m, h, ha => by
    have h1 := (List.pairwise_cons.1 h).1
    have h2 := (List.pairwise_cons.1 h).2
    have haz := h1 z (by simp)
    by_cases hz : z ≤ m
    · have ih := last_take zs z m h2 hz
      rw [List.takeWhile_cons, decide_eq_true hz]
      simp only [if_true]
      have e : (a :: z :: zs.takeWhile (fun x => decide (x ≤ m))).getLastD 0 = (z :: zs.takeWhile (fun x => decide (x ≤ m))).getLastD 0 := by
        simp [List.getLastD_eq_getLast?, List.getLast?_cons]
      rw [e, ih]
      constructor
      · exact fun h => List.mem_cons_of_mem _ h
      · intro h
        rcases List.mem_cons.1 h with rfl | h
        · omega
        · exact h
    · rw [List.takeWhile_cons, decide_eq_false hz]
      simp only [Bool.false_eq_true, if_false]
      have h3 := (List.pairwise_cons.1 h2).1
      constructor
      · intro h; simp at h; simp [h]
      · intro h
        rcases List.mem_cons.1 h with rfl | h
        · simp
        · rcases List.mem_cons.1 h with rfl | h
          · omega
          · have := h3 _ h; omega
theorem takeWhile_ends (m : Nat) : ∀ xs : List (L8 × L8 × Nat), (xs.takeWhile (fun x => decide (x.2.2 ≤ m))).map (·.2.2) = (xs.map (·.2.2)).takeWhile (fun x => decide (x ≤ m))
  | [] => rfl
  | x :: xs => by
    rw [List.map_cons, List.takeWhile_cons, List.takeWhile_cons]
    split
    · rw [List.map_cons, takeWhile_ends m xs]
    · rfl
/-- A prefix is read whole exactly if it ends where a record ends. -/
theorem endL_pre (d p : L8) : endL d = d.length ↔ d.length ∈ 0 :: (rdAll (d ++ p)).map (·.2.2) := by
  have h := rdGo_take 61 0 d p 0
  rw [Nat.zero_add] at h
  unfold endL endOf rdAll
  rw [h, takeWhile_ends]
  exact last_take _ 0 d.length (rdGo_rise 61 0 (d ++ p) 0) (Nat.zero_le _)
theorem endL_le (l : L8) : endL l ≤ 22692 ∧ endL l ≤ l.length := by
  have hm : endL l ∈ 0 :: (rdAll l).map (·.2.2) := by
    unfold endL endOf
    rw [List.getLastD_eq_getLast?, List.getLast?_eq_some_getLast (by simp)]
    exact List.getLast_mem _
  rcases List.mem_cons.1 hm with h | h
  · omega
  · obtain ⟨x, hx, e⟩ := List.mem_map.1 h
    have := rdGo_end 61 0 l 0 x hx
    omega
end Go.Proofs.YtpkagohflkcnkaaGreatDoor
