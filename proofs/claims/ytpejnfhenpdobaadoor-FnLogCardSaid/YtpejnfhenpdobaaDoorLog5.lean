/- The log, by the reference: a line is read (the whole contract). -/
import Derived.Test.YtpejnfhenpdobaaDoorLog4
namespace Go.Proofs.YtpejnfhenpdobaaDoor
open Go.RowKit Go.G9
def RdOut (l : L8) (k : Nat) (e : Ending) : Prop := ∃ (c r : ByteArray) (b : Bool), e = .returned (.tuple #[.agg #[.string c, .string r], .bool b]) ∧ b = (rdI l k).isSome ∧ ∀ x, rdI l k = some x → c = bs x.1 ∧ r = bs x.2
theorem RdOut.no {l : L8} {k : Nat} (c r : ByteArray) (h : rdS l k = none) : RdOut l k (.returned (.tuple #[.agg #[.string c, .string r], .bool false])) := by
  rw [rdS_eq] at h
  exact ⟨c, r, false, rfl, by rw [h]; rfl, fun x hx => by rw [h] at hx; cases hx⟩
set_option maxHeartbeats 4000000 in
set_option maxRecDepth 100000 in
theorem l27Read_is (l : L8) (hl : l.length ≤ 1048576) (k : Nat) (hk : k < 100) (w : World) : Calls Tryd.prog 68 #[.string (bs l), .int .i64 k] w fun e w' => RdOut l k e ∧ Below w.heap.size w w' := by
  have g1 := bef_len_le 35 l
  have hN := numS_size (k : Int) (by omega)
  have hN' := hN
  have hn1 : (numS (k : Int)).size = (numL (k : Int)).length := bs_size _
  have hah : numS (k : Int) ++ ⟨#[32]⟩ = bs (numL (k : Int) ++ [32]) := bs_app _ [32]
  generalize ht : bef 35 l = t at g1
  have hsp : ∀ W, Calls Tryd.prog 67 #[.string (bs l), .int .u8 35] W fun e w' => ∃ g m n, e = .returned (.slice (some ⟨g, 0, none⟩) m n) ∧ 1 ≤ m ∧ m ≤ l.length + 1 ∧ ((2 ≤ m) ↔ hasC 35 l = true) ∧ w'.cell? ⟨g, 0, none⟩ = some (.string (bs t)) ∧ W.heap.size ≤ g ∧ g < w'.heap.size ∧ Below W.heap.size W w' := fun W => by
    have := l1Split1_is l 35 hl W
    rwa [ht] at this
  have HSP := Lib.hid hsp; clear hsp
  have hts := bs_size t
  generalize hm : (numS (k : Int)).size = m at hN hn1
  have hrd : rdS l k = if t.take (m + 1) = numL k ++ [32] then (if (bef 64 (t.drop (m + 1))).length = (t.drop (m + 1)).length then none
      else if okL (bef 64 (t.drop (m + 1))) ((t.drop (m + 1)).drop ((bef 64 (t.drop (m + 1))).length + 1)) && decide (lineL k (bef 64 (t.drop (m + 1))) ((t.drop (m + 1)).drop ((bef 64 (t.drop (m + 1))).length + 1)) = l) then some (bef 64 (t.drop (m + 1)), (t.drop (m + 1)).drop ((bef 64 (t.drop (m + 1))).length + 1)) else none) else none := by
    unfold rdS
    simp only [ht, List.length_append, List.length_cons, List.length_nil, ← hn1]
  have HAH := Lib.hid hah; have HRD := Lib.hid hrd; have HT := Lib.hid ht; clear hah hrd ht
  by_cases hsh : t.length < m + 1
  · have hno : rdS l k = none := by
      rw [HRD.out, if_neg]
      intro h
      have := congrArg List.length h
      simp at this; omega
    have HNO := Lib.hid hno; clear hno
    have hlt : (bs t).size < (numS (k : Int)).size + 1 := by omega
    go_enter Tryd.func68, Tryd.ntmps68
    go_wp2_with fail
    refine (l1Num_is k (by omega) (by omega) _).mono ?_
    rintro e w1 ⟨rfl, hb1⟩
    have hq1 : Below w.heap.size w w1 := bth (by repeat (first | exact Below.refl _ _ | refine Below.alloc ?_ (by first | exact Nat.le_refl _ | (simp <;> omega)) _ | refine Below.setCell ?_ (by first | exact Nat.le_refl _ | (simp <;> omega)) _)) hb1
    have HB : Below w.heap.size w w1 := hq1
    have hZ : Blk w1 (w.heap.size) 27 #[.string ⟨#[]⟩, .string ⟨#[]⟩] := Blk.below (by repeat (first | exact Blk.new _ _ _ | exact Blk.new2 _ _ _ _ | exact Blk.new3 _ _ _ _ _ | exact Blk.new4 _ _ _ _ _ _ | refine Blk.alloc ?_ _)) hb1 (by simp <;> omega)
    have z0 := (hZ.cell 0).trans (show _ = some (.string ⟨#[]⟩) from rfl)
    have z1 := (hZ.cell 1).trans (show _ = some (.string ⟨#[]⟩) from rfl)
    go_wp2_with fail
    refine (HSP.out _).mono ?_
    rintro e w2 ⟨g, m2, n, rfl, hm1, hm3, hm4, hc, hg, hg2, hb2⟩
    have hq2 : Below w1.heap.size w1 w2 := bth (by repeat (first | exact Below.refl _ _ | refine Below.alloc ?_ (by first | exact Nat.le_refl _ | (simp <;> omega)) _ | refine Below.setCell ?_ (by first | exact Nat.le_refl _ | (simp <;> omega)) _)) hb2
    replace HB := bth HB hq2
    replace hZ := hZ.below hq2 hZ.lt
    replace z0 := (hZ.cell 0).trans (show _ = some (.string ⟨#[]⟩) from rfl)
    replace z1 := (hZ.cell 1).trans (show _ = some (.string ⟨#[]⟩) from rfl)
    have y0 := hZ.frozen 0
    have y1 := hZ.frozen 1
    have yhZ := hZ.lt
    have hF := ((hZ.set_ 0 (.string ⟨#[]⟩)).set_ 1 (.string ⟨#[]⟩))
    have r0 := (hF.cell 0).trans (show _ = some (.string ⟨#[]⟩) from rfl)
    have r1 := (hF.cell 1).trans (show _ = some (.string ⟨#[]⟩) from rfl)
    go_wp2
    refine bodyPost_ret (v := .tuple #[.agg #[.string ⟨#[]⟩, .string ⟨#[]⟩], .bool false]) (by simp [results, Tryd.results68, go_sem, r0, r1]) rfl ?_
    exact ⟨RdOut.no _ _ HNO.out, (by repeat (first | exact HB | exact Below.refl _ _ | refine Below.alloc ?_ (by first | exact Nat.le_refl _ | (have hsz := HB.size; simp; omega) | (simp <;> omega)) _ | refine Below.setCell ?_ (by first | exact Nat.le_refl _ | (simp <;> omega)) _))⟩
  by_cases hpre : t.take (m + 1) = numL k ++ [32]
  case neg =>
    have hno : rdS l k = none := by rw [HRD.out, if_neg hpre]
    have HNO := Lib.hid hno; clear hno
    have hne : ((((bs t).extract 0 ((numS (k : Int)).size + 1))).toList == (numS (k : Int) ++ (⟨#[32]⟩ : ByteArray)).toList) = false := str_ne (by
      rw [HAH.out, bs_extract, hm]
      intro h
      exact hpre (by simpa using bs_inj h))
    have hge : (numS (k : Int)).size + 1 ≤ (bs t).size := by omega
    have hts2 : (bs t).size ≤ 1048576 := by omega
    have htl : t.length ≤ 1048576 := by omega
    clear hpre hn1 hm hts
    go_enter Tryd.func68, Tryd.ntmps68
    go_wp2_with fail
    refine (l1Num_is k (by omega) (by omega) _).mono ?_
    rintro e w1 ⟨rfl, hb1⟩
    have hq1 : Below w.heap.size w w1 := bth (by repeat (first | exact Below.refl _ _ | refine Below.alloc ?_ (by first | exact Nat.le_refl _ | (simp <;> omega)) _ | refine Below.setCell ?_ (by first | exact Nat.le_refl _ | (simp <;> omega)) _)) hb1
    have HB : Below w.heap.size w w1 := hq1
    have hZ : Blk w1 (w.heap.size) 27 #[.string ⟨#[]⟩, .string ⟨#[]⟩] := Blk.below (by repeat (first | exact Blk.new _ _ _ | exact Blk.new2 _ _ _ _ | exact Blk.new3 _ _ _ _ _ | exact Blk.new4 _ _ _ _ _ _ | refine Blk.alloc ?_ _)) hb1 (by simp <;> omega)
    have z0 := (hZ.cell 0).trans (show _ = some (.string ⟨#[]⟩) from rfl)
    have z1 := (hZ.cell 1).trans (show _ = some (.string ⟨#[]⟩) from rfl)
    go_wp2_with fail
    refine (HSP.out _).mono ?_
    rintro e w2 ⟨g, m2, n, rfl, hm1, hm3, hm4, hc, hg, hg2, hb2⟩
    have hq2 : Below w1.heap.size w1 w2 := bth (by repeat (first | exact Below.refl _ _ | refine Below.alloc ?_ (by first | exact Nat.le_refl _ | (simp <;> omega)) _ | refine Below.setCell ?_ (by first | exact Nat.le_refl _ | (simp <;> omega)) _)) hb2
    replace HB := bth HB hq2
    replace hZ := hZ.below hq2 hZ.lt
    replace z0 := (hZ.cell 0).trans (show _ = some (.string ⟨#[]⟩) from rfl)
    replace z1 := (hZ.cell 1).trans (show _ = some (.string ⟨#[]⟩) from rfl)
    have y0 := hZ.frozen 0
    have y1 := hZ.frozen 1
    have yhZ := hZ.lt
    have hF := ((hZ.set_ 0 (.string ⟨#[]⟩)).set_ 1 (.string ⟨#[]⟩))
    have r0 := (hF.cell 0).trans (show _ = some (.string ⟨#[]⟩) from rfl)
    have r1 := (hF.cell 1).trans (show _ = some (.string ⟨#[]⟩) from rfl)
    go_wp2
    refine bodyPost_ret (v := .tuple #[.agg #[.string ⟨#[]⟩, .string ⟨#[]⟩], .bool false]) (by simp [results, Tryd.results68, go_sem, r0, r1]) rfl ?_
    exact ⟨RdOut.no _ _ HNO.out, (by repeat (first | exact HB | exact Below.refl _ _ | refine Below.alloc ?_ (by first | exact Nat.le_refl _ | (have hsz := HB.size; simp; omega) | (simp <;> omega)) _ | refine Below.setCell ?_ (by first | exact Nat.le_refl _ | (simp <;> omega)) _))⟩
  case pos =>
    have heq : ((((bs t).extract 0 ((numS (k : Int)).size + 1))).toList == (numS (k : Int) ++ (⟨#[32]⟩ : ByteArray)).toList) = true := str_eq (by
      rw [HAH.out, bs_extract, hm]
      congr 1)
    have hge : (numS (k : Int)).size + 1 ≤ (bs t).size := by omega
    have hrest : (bs t).extract ((numS (k : Int)).size + 1) (bs t).size = bs (t.drop (m + 1)) := by rw [bs_extract, hm, bs_size, List.take_of_length_le (by simp)]
    have hrd := HRD.out
    rw [if_pos hpre] at hrd
    have hdl : (t.drop (m + 1)).length ≤ t.length := by simp
    generalize hr : t.drop (m + 1) = rest at hrest hrd hdl
    have hsp2 : ∀ W, Calls Tryd.prog 67 #[.string ((bs t).extract ((numS (k : Int)).size + 1) (bs t).size), .int .u8 64] W fun e w' => ∃ g m n, e = .returned (.slice (some ⟨g, 0, none⟩) m n) ∧ 1 ≤ m ∧ m ≤ rest.length + 1 ∧ ((2 ≤ m) ↔ hasC 64 rest = true) ∧ w'.cell? ⟨g, 0, none⟩ = some (.string (bs (bef 64 rest))) ∧ W.heap.size ≤ g ∧ g < w'.heap.size ∧ Below W.heap.size W w' := fun W => by
      rw [hrest]; exact l1Split1_is rest 64 (by omega) W
    have ga := bef_len_le 64 rest
    generalize hask : bef 64 rest = ask at hrd hsp2 ga
    have hrs : ((bs t).extract ((numS (k : Int)).size + 1) (bs t).size).size = rest.length := by rw [hrest]; exact bs_size _
    have has := bs_size ask
    have HSP2 := Lib.hid hsp2; have HREST := Lib.hid hrest; have HR := Lib.hid hr; have HASK := Lib.hid hask; clear hsp2 hrest hr hask hpre
    have hts2 : (bs t).size ≤ 1048576 := by omega
    have hrl : rest.length ≤ 1048576 := by omega
    have hass : (bs ask).size ≤ 1048576 := by omega
    have hrs2 : ((bs t).extract ((numS (k : Int)).size + 1) (bs t).size).size ≤ 1048576 := by omega
    by_cases hsame : ask.length = rest.length
    · rw [if_pos hsame] at hrd
      have HNO := Lib.hid hrd; clear hrd
      have hsz : (bs t).size - ((numS (k : Int)).size + 1) = rest.length := by
        have e := congrArg List.length HR.out
        simp only [List.length_drop] at e
        omega
      have hb : (((bs ask).size : Int) == (((bs t).size - ((numS (k : Int)).size + 1) : Nat) : Int)) = true := by rw [hsz, has, hsame]; exact beq_iff_eq.2 rfl
      clear hsz hsame
      clear hrs has hn1 hm hts
      go_enter Tryd.func68, Tryd.ntmps68
      go_wp2_with fail
      refine (l1Num_is k (by omega) (by omega) _).mono ?_
      rintro e w1 ⟨rfl, hb1⟩
      have hq1 : Below w.heap.size w w1 := bth (by repeat (first | exact Below.refl _ _ | refine Below.alloc ?_ (by first | exact Nat.le_refl _ | (simp <;> omega)) _ | refine Below.setCell ?_ (by first | exact Nat.le_refl _ | (simp <;> omega)) _)) hb1
      have HB : Below w.heap.size w w1 := hq1
      have hZ : Blk w1 (w.heap.size) 27 #[.string ⟨#[]⟩, .string ⟨#[]⟩] := Blk.below (by repeat (first | exact Blk.new _ _ _ | exact Blk.new2 _ _ _ _ | exact Blk.new3 _ _ _ _ _ | exact Blk.new4 _ _ _ _ _ _ | refine Blk.alloc ?_ _)) hb1 (by simp <;> omega)
      have z0 := (hZ.cell 0).trans (show _ = some (.string ⟨#[]⟩) from rfl)
      have z1 := (hZ.cell 1).trans (show _ = some (.string ⟨#[]⟩) from rfl)
      go_wp2_with fail
      refine (HSP.out _).mono ?_
      rintro e w2 ⟨g, m2, n, rfl, hm1, hm3, hm4, hc, hg, hg2, hb2⟩
      have hq2 : Below w1.heap.size w1 w2 := bth (by repeat (first | exact Below.refl _ _ | refine Below.alloc ?_ (by first | exact Nat.le_refl _ | (simp <;> omega)) _ | refine Below.setCell ?_ (by first | exact Nat.le_refl _ | (simp <;> omega)) _)) hb2
      replace HB := bth HB hq2
      replace hZ := hZ.below hq2 hZ.lt
      replace z0 := (hZ.cell 0).trans (show _ = some (.string ⟨#[]⟩) from rfl)
      replace z1 := (hZ.cell 1).trans (show _ = some (.string ⟨#[]⟩) from rfl)
      go_wp2_with fail
      refine (HSP2.out _).mono ?_
      rintro e w3 ⟨g', m3, n', rfl, hm1', hm3', hm4', hc', hg', hg2', hb3⟩
      have hq3 : Below w2.heap.size w2 w3 := bth (by repeat (first | exact Below.refl _ _ | refine Below.alloc ?_ (by first | exact Nat.le_refl _ | (simp <;> omega)) _ | refine Below.setCell ?_ (by first | exact Nat.le_refl _ | (simp <;> omega)) _)) hb3
      replace HB := bth HB hq3
      replace hZ := hZ.below hq3 hZ.lt
      replace z0 := (hZ.cell 0).trans (show _ = some (.string ⟨#[]⟩) from rfl)
      replace z1 := (hZ.cell 1).trans (show _ = some (.string ⟨#[]⟩) from rfl)
      have y0 := hZ.frozen 0
      have y1 := hZ.frozen 1
      have yhZ := hZ.lt
      have hF := ((hZ.set_ 0 (.string ⟨#[]⟩)).set_ 1 (.string ⟨#[]⟩))
      have r0 := (hF.cell 0).trans (show _ = some (.string ⟨#[]⟩) from rfl)
      have r1 := (hF.cell 1).trans (show _ = some (.string ⟨#[]⟩) from rfl)
      go_wp2
      refine bodyPost_ret (v := .tuple #[.agg #[.string ⟨#[]⟩, .string ⟨#[]⟩], .bool false]) (by simp [results, Tryd.results68, go_sem, r0, r1]) rfl ?_
      exact ⟨RdOut.no _ _ HNO.out, (by repeat (first | exact HB | exact Below.refl _ _ | refine Below.alloc ?_ (by first | exact Nat.le_refl _ | (have hsz := HB.size; simp; omega) | (simp <;> omega)) _ | refine Below.setCell ?_ (by first | exact Nat.le_refl _ | (simp <;> omega)) _))⟩
    · rw [if_neg hsame] at hrd
      have hlt : ask.length + 1 ≤ rest.length := by omega
      have hrl2 : (rest.drop (ask.length + 1)).length ≤ rest.length := by simp
      have hrest := HREST.out
      have hrep : (bs rest).extract ((bs ask).size + 1) (bs rest).size = bs (rest.drop (ask.length + 1)) := by rw [bs_extract, bs_size, bs_size, List.take_of_length_le (by simp)]
      have hsp3 : ∀ W, Calls Tryd.prog 67 #[.string (bs rest), .int .u8 64] W fun e w' => ∃ g m n, e = .returned (.slice (some ⟨g, 0, none⟩) m n) ∧ 1 ≤ m ∧ m ≤ rest.length + 1 ∧ ((2 ≤ m) ↔ hasC 64 rest = true) ∧ w'.cell? ⟨g, 0, none⟩ = some (.string (bs ask)) ∧ W.heap.size ≤ g ∧ g < w'.heap.size ∧ Below W.heap.size W w' := fun W => by
        have := HSP2.out W
        rwa [hrest] at this
      generalize hp : rest.drop (ask.length + 1) = rep at hrd hrep hrl2
      have hb : (((bs ask).size : Int) == ((bs rest).size : Int)) = false := by rw [bs_size, bs_size]; exact beq_eq_false_iff_ne.2 (by omega)
      have hl1 : (bs ask).size + 1 ≤ (bs rest).size := by rw [bs_size, bs_size]; omega
      have hl2 : (bs rest).size ≤ 1048576 := by rw [bs_size]; omega
      have hl3 : (bs rep).size ≤ 1048576 := by rw [bs_size]; omega
      have hl4 : (bs l).size ≤ 1048576 := by rw [bs_size]; omega
      refine (l27Read_last l t rest ask rep k hk hN' HSP (Lib.hid hsp3) heq hge hts2 hrest hrep hb hl1 hl2 hl3 hl4 _ rfl w).mono ?_
      rintro e w' ⟨rfl, hb'⟩
      rw [rdS_eq] at hrd
      refine ⟨⟨_, _, _, rfl, ?_, ?_⟩, hb'⟩
      · rw [hrd]; split <;> rename_i h <;> simp [h]
      · intro x hx
        rw [hrd] at hx
        split at hx
        · injection hx with hx; subst hx; exact ⟨rfl, rfl⟩
        · cases hx
end Go.Proofs.YtpejnfhenpdobaaDoor
