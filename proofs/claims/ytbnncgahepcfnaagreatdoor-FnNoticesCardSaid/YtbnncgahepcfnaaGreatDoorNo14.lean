/- A notice read from its text: the program's own function. -/
import Derived.Test.YtbnncgahepcfnaaGreatDoorNo13
import Derived.Deep.Cut
namespace Go.Proofs.YtbnncgahepcfnaaGreatDoor
open Go.RowKit Go.G9
theorem str_differ {a b : ByteArray} (h : a ≠ b) : (a.toList == b.toList) = false := strEq_no h
theorem pn_facts {s : ByteArray} {n : Ntc} {x1 x2 x6 x7 : ByteArray} (h : isT s n) (h1 : (spB 32 s)[1]? = some x1) (h2 : (spB 32 s)[2]? = some x2) (h6 : (spB 32 s)[6]? = some x6) (h7 : (spB 32 s)[7]? = some x7) :
    rdOut (trm x1 58) = .tuple #[.int .i64 n.id, .bool true] ∧ x2 = n.topic ∧ rdOut (trm x6 44) = .tuple #[.int .i64 n.given, .bool true] ∧ rdOut x7 = .tuple #[.int .i64 n.days, .bool true] := by
  have hw := ntc_words n h.1
  rw [h.2] at hw
  obtain ⟨a1, a2, _, a4, a5, a6, a7⟩ := noticeB_bd h.1
  rw [hw] at h1 h2 h6 h7
  simp only [List.getElem?_cons_succ, List.getElem?_cons_zero, Option.some.injEq] at h1 h2 h6 h7
  subst h1 h2 h6 h7
  refine ⟨?_, rfl, ?_, ?_⟩
  · rw [show ((⟨#[58]⟩ : ByteArray) : ByteArray) = ⟨#[58]⟩ from rfl, trm_app]; exact rdOut_numS _ (by omega) (by omega)
  · rw [show ((⟨#[44]⟩ : ByteArray) : ByteArray) = ⟨#[44]⟩ from rfl, trm_app]; exact rdOut_numS _ (by omega) (by omega)
  · exact rdOut_numS _ (by omega) (by omega)
theorem pn_len {s : ByteArray} {n : Ntc} (h : isT s n) : (spB 32 s).length = 9 := by rw [← h.2, ntc_words n h.1]; rfl
set_option maxHeartbeats 8000000 in
set_option maxRecDepth 100000 in
theorem iParseNotice_is (s : ByteArray) (hs : s.size ≤ 1048576) (w : World) (HT : Tab w) (HE : Esy w) (HM : Mxl w) : Calls Tryz.prog 23 #[.string s] w fun e w' => e = .returned (pnV s) ∧ Below w.heap.size w w' := by
  by_cases hl : (spB 32 s).length = 9
  case neg =>
    have HNO : Hid (¬ ∃ n, isT s n) := Lib.hid (fun ⟨n, hn⟩ => hl (pn_len hn))
    go_enter Tryz.func23, Tryz.ntmps23
    go_upto_region 1 with fail
    have hq1 : Below w.heap.size w (World.alloc w (.cells #[.int .i64 0, .string ⟨#[]⟩, .int .i64 0, .int .i64 0] 42)) := bl1 w _
    have hZ : Blk (World.alloc w (.cells #[.int .i64 0, .string ⟨#[]⟩, .int .i64 0, .int .i64 0] 42)) (w.heap.size) 42 #[.int .i64 0, .string ⟨#[]⟩, .int .i64 0, .int .i64 0] := by repeat (first | exact Blk.new _ _ _ | exact Blk.new2 _ _ _ _ | exact Blk.new3 _ _ _ _ _ | exact Blk.new4 _ _ _ _ _ _ | refine Blk.alloc ?_ _)
    replace HT := HT.below hq1
    replace HE := HE.below hq1
    replace HM := HM.below hq1
    generalize World.alloc w (.cells #[.int .i64 0, .string ⟨#[]⟩, .int .i64 0, .int .i64 0] 42) = wX at *
    have HB := hq1
    have z0 := (hZ.cell 0).trans (show _ = some (.int .i64 0) from rfl)
    have z1 := (hZ.cell 1).trans (show _ = some (.string ⟨#[]⟩) from rfl)
    have z2 := (hZ.cell 2).trans (show _ = some (.int .i64 0) from rfl)
    have z3 := (hZ.cell 3).trans (show _ = some (.int .i64 0) from rfl)
    have hz0 := hZ.lt
    go_wp2_with fail
    refine (iSplit_is s 32 hs _ (HM.below (by repeat (first | exact Below.refl _ _ | refine Below.alloc ?_ (by first | exact Nat.le_refl _ | (simp <;> omega)) _ | refine Below.setCell ?_ (by first | exact Nat.le_refl _ | (simp <;> omega)) _)))).mono ?_
    rintro e w2 ⟨A4, c4, rfl, O4, hb2⟩
    have hq2 : Below wX.heap.size wX w2 := bth (by repeat (first | exact Below.refl _ _ | refine Below.alloc ?_ (by first | exact Nat.le_refl _ | (simp <;> omega)) _ | refine Below.setCell ?_ (by first | exact Nat.le_refl _ | (simp <;> omega)) _)) hb2
    replace HB := bth HB hq2
    replace HT := HT.below hq2
    replace HE := HE.below hq2
    replace HM := HM.below hq2
    replace hZ := hZ.below hq2 hZ.lt
    replace z0 := (hZ.cell 0).trans (show _ = some (.int .i64 0) from rfl)
    replace z1 := (hZ.cell 1).trans (show _ = some (.string ⟨#[]⟩) from rfl)
    replace z2 := (hZ.cell 2).trans (show _ = some (.int .i64 0) from rfl)
    replace z3 := (hZ.cell 3).trans (show _ = some (.int .i64 0) from rfl)
    have Q4 := O4.rds (hf := bC_len)
    clear O4
    have hl9 : (((spB 32 s).length : Int) == 9) = false := by rw [beq_eq_false_iff_ne]; omega
    have fhZ0 := hZ.frozen 0
    have fhZ1 := hZ.frozen 1
    have fhZ2 := hZ.frozen 2
    have fhZ3 := hZ.frozen 3
    have yhZ := hZ.lt
    go_wp2
    clear z0 z1 z2 z3
    replace HB : Below w.heap.size w (World.setCell (World.setCell (World.setCell (World.setCell w2 ⟨w.heap.size, 0, none⟩ (.int .i64 0)) ⟨w.heap.size, 1, none⟩ (.string ⟨#[]⟩)) ⟨w.heap.size, 2, none⟩ (.int .i64 0)) ⟨w.heap.size, 3, none⟩ (.int .i64 0)) := ((((HB.setCell (by show w.heap.size ≤ w.heap.size; omega) (.int .i64 0) (p := ⟨w.heap.size, 0, none⟩)).setCell (by show w.heap.size ≤ w.heap.size; omega) (.string ⟨#[]⟩) (p := ⟨w.heap.size, 1, none⟩)).setCell (by show w.heap.size ≤ w.heap.size; omega) (.int .i64 0) (p := ⟨w.heap.size, 2, none⟩)).setCell (by show w.heap.size ≤ w.heap.size; omega) (.int .i64 0) (p := ⟨w.heap.size, 3, none⟩))
    replace hZ : Blk (World.setCell (World.setCell (World.setCell (World.setCell w2 ⟨w.heap.size, 0, none⟩ (.int .i64 0)) ⟨w.heap.size, 1, none⟩ (.string ⟨#[]⟩)) ⟨w.heap.size, 2, none⟩ (.int .i64 0)) ⟨w.heap.size, 3, none⟩ (.int .i64 0)) (w.heap.size) 42 #[.int .i64 0, .string ⟨#[]⟩, .int .i64 0, .int .i64 0] := ((((hZ.set_ 0 (.int .i64 0)).set_ 1 (.string ⟨#[]⟩)).set_ 2 (.int .i64 0)).set_ 3 (.int .i64 0))
    have szW9 : ((World.setCell (World.setCell (World.setCell (World.setCell w2 ⟨w.heap.size, 0, none⟩ (.int .i64 0)) ⟨w.heap.size, 1, none⟩ (.string ⟨#[]⟩)) ⟨w.heap.size, 2, none⟩ (.int .i64 0)) ⟨w.heap.size, 3, none⟩ (.int .i64 0))).heap.size = w2.heap.size := by simp [World.setCell]
    generalize World.setCell (World.setCell (World.setCell (World.setCell w2 ⟨w.heap.size, 0, none⟩ (.int .i64 0)) ⟨w.heap.size, 1, none⟩ (.string ⟨#[]⟩)) ⟨w.heap.size, 2, none⟩ (.int .i64 0)) ⟨w.heap.size, 3, none⟩ (.int .i64 0) = W9 at *
    have z0 := (hZ.cell 0).trans (show _ = some (.int .i64 0) from rfl)
    have z1 := (hZ.cell 1).trans (show _ = some (.string ⟨#[]⟩) from rfl)
    have z2 := (hZ.cell 2).trans (show _ = some (.int .i64 0) from rfl)
    have z3 := (hZ.cell 3).trans (show _ = some (.int .i64 0) from rfl)
    refine bodyPost_ret (v := .tuple #[.agg #[.int .i64 0, .string ⟨#[]⟩, .int .i64 0, .int .i64 0], .bool false]) (by simp [results, Tryz.results23, go_sem, z0, z1, z2, z3]) rfl ?_
    exact ⟨by rw [pnV_no HNO.out], HB⟩
  obtain ⟨x1, h1⟩ : ∃ x, (spB 32 s)[1]? = some x := ⟨_, List.getElem?_eq_getElem (by omega)⟩
  have z1' : x1.size ≤ 1048576 := Nat.le_trans (spB_size h1) hs
  have HX1 := Lib.hid h1
  have L1 : Hid (1 < (spB 32 s).length) := Lib.hid (by omega)
  obtain ⟨x2, h2⟩ : ∃ x, (spB 32 s)[2]? = some x := ⟨_, List.getElem?_eq_getElem (by omega)⟩
  have z2' : x2.size ≤ 1048576 := Nat.le_trans (spB_size h2) hs
  have HX2 := Lib.hid h2
  have L2 : Hid (2 < (spB 32 s).length) := Lib.hid (by omega)
  obtain ⟨x6, h6⟩ : ∃ x, (spB 32 s)[6]? = some x := ⟨_, List.getElem?_eq_getElem (by omega)⟩
  have z6' : x6.size ≤ 1048576 := Nat.le_trans (spB_size h6) hs
  have HX6 := Lib.hid h6
  have L6 : Hid (6 < (spB 32 s).length) := Lib.hid (by omega)
  obtain ⟨x7, h7⟩ : ∃ x, (spB 32 s)[7]? = some x := ⟨_, List.getElem?_eq_getElem (by omega)⟩
  have z7' : x7.size ≤ 1048576 := Nat.le_trans (spB_size h7) hs
  have HX7 := Lib.hid h7
  have L7 : Hid (7 < (spB 32 s).length) := Lib.hid (by omega)
  have HF := fun n (hn : isT s n) => pn_facts hn h1 h2 h6 h7
  obtain ⟨v1, b1, r1⟩ := rdOut_form (trm x1 58)
  obtain ⟨v6, b6, r6⟩ := rdOut_form (trm x6 44)
  obtain ⟨v7, b7, r7⟩ := rdOut_form x7
  have t1 := trm_size x1 58
  have t6 := trm_size x6 44
  have hx2 : x2.size ≤ maxLen := by unfold maxLen; omega
  have hy1 : (trm x1 58).size ≤ maxLen := by unfold maxLen; omega
  have hy6 : (trm x6 44).size ≤ maxLen := by unfold maxLen; omega
  have hy7 : x7.size ≤ maxLen := by unfold maxLen; omega
  have H1 := Lib.hid r1; have H6 := Lib.hid r6; have H7 := Lib.hid r7
  have HF2 := Lib.hid HF
  have HHL := Lib.hid hl
  clear h1 h2 h6 h7 r1 r6 r7 HF t1 t6 hl
  go_enter Tryz.func23, Tryz.ntmps23
  go_upto_region 1 with fail
  have hq1 : Below w.heap.size w (World.alloc w (.cells #[.int .i64 0, .string ⟨#[]⟩, .int .i64 0, .int .i64 0] 42)) := bl1 w _
  have hZ : Blk (World.alloc w (.cells #[.int .i64 0, .string ⟨#[]⟩, .int .i64 0, .int .i64 0] 42)) (w.heap.size) 42 #[.int .i64 0, .string ⟨#[]⟩, .int .i64 0, .int .i64 0] := by repeat (first | exact Blk.new _ _ _ | exact Blk.new2 _ _ _ _ | exact Blk.new3 _ _ _ _ _ | exact Blk.new4 _ _ _ _ _ _ | refine Blk.alloc ?_ _)
  replace HT := HT.below hq1
  replace HE := HE.below hq1
  replace HM := HM.below hq1
  generalize World.alloc w (.cells #[.int .i64 0, .string ⟨#[]⟩, .int .i64 0, .int .i64 0] 42) = wX at *
  have HB := hq1
  have z0 := (hZ.cell 0).trans (show _ = some (.int .i64 0) from rfl)
  have z1 := (hZ.cell 1).trans (show _ = some (.string ⟨#[]⟩) from rfl)
  have z2 := (hZ.cell 2).trans (show _ = some (.int .i64 0) from rfl)
  have z3 := (hZ.cell 3).trans (show _ = some (.int .i64 0) from rfl)
  have hz0 := hZ.lt
  go_wp2_with fail
  refine (iSplit_is s 32 hs _ (HM.below (by repeat (first | exact Below.refl _ _ | refine Below.alloc ?_ (by first | exact Nat.le_refl _ | (simp <;> omega)) _ | refine Below.setCell ?_ (by first | exact Nat.le_refl _ | (simp <;> omega)) _)))).mono ?_
  rintro e w2 ⟨A4, c4, rfl, O4, hb2⟩
  have hq2 : Below wX.heap.size wX w2 := bth (by repeat (first | exact Below.refl _ _ | refine Below.alloc ?_ (by first | exact Nat.le_refl _ | (simp <;> omega)) _ | refine Below.setCell ?_ (by first | exact Nat.le_refl _ | (simp <;> omega)) _)) hb2
  replace HB := bth HB hq2
  replace HT := HT.below hq2
  replace HE := HE.below hq2
  replace HM := HM.below hq2
  replace hZ := hZ.below hq2 hZ.lt
  replace z0 := (hZ.cell 0).trans (show _ = some (.int .i64 0) from rfl)
  replace z1 := (hZ.cell 1).trans (show _ = some (.string ⟨#[]⟩) from rfl)
  replace z2 := (hZ.cell 2).trans (show _ = some (.int .i64 0) from rfl)
  replace z3 := (hZ.cell 3).trans (show _ = some (.int .i64 0) from rfl)
  have Q4 := O4.rds (hf := bC_len)
  clear O4
  have hl9 : (((spB 32 s).length : Int) == 9) = true := by rw [HHL.out]; rfl
  obtain ⟨bq, oq, y1, rfl, hbl, hy, hcy⟩ := Q4.at_ (Below.refl _ _) (k := 1) L1.out
  obtain rfl : x1 = y1 := Option.some.inj (HX1.out.symm.trans hy)
  have q1 := hcy 0 _ rfl (Kin.self _)
  simp only [Nat.mul_one, Nat.add_zero, Kin.self] at q1
  clear hy hcy hbl
  have ll1 := L1.out
  go_wp2_with fail
  refine (Tryz.strings_TrimSuffix x1 (⟨#[58]⟩ : ByteArray) _ (by omega)).mono ?_
  rintro e w0 ⟨rfl, h0⟩
  rw [h0]
  clear h0 w0
  go_wp2_with fail
  refine (iParseV_is (trm x1 58) hy1 v1 b1 H1.out _ (HT.below (by repeat (first | exact Below.refl _ _ | refine Below.alloc ?_ (by first | exact Nat.le_refl _ | (simp <;> omega)) _ | refine Below.setCell ?_ (by first | exact Nat.le_refl _ | (simp <;> omega)) _))) (HE.below (by repeat (first | exact Below.refl _ _ | refine Below.alloc ?_ (by first | exact Nat.le_refl _ | (simp <;> omega)) _ | refine Below.setCell ?_ (by first | exact Nat.le_refl _ | (simp <;> omega)) _)))).mono ?_
  rintro e w3 ⟨rfl, hb3⟩
  have hq3 : Below w2.heap.size w2 w3 := bth (by repeat (first | exact Below.refl _ _ | refine Below.alloc ?_ (by first | exact Nat.le_refl _ | (simp <;> omega)) _ | refine Below.setCell ?_ (by first | exact Nat.le_refl _ | (simp <;> omega)) _)) hb3
  replace HB := bth HB hq3
  replace HT := HT.below hq3
  replace HE := HE.below hq3
  replace HM := HM.below hq3
  replace Q4 := Q4.below hq3
  replace hZ := hZ.below hq3 hZ.lt
  replace z0 := (hZ.cell 0).trans (show _ = some (.int .i64 0) from rfl)
  replace z1 := (hZ.cell 1).trans (show _ = some (.string ⟨#[]⟩) from rfl)
  replace z2 := (hZ.cell 2).trans (show _ = some (.int .i64 0) from rfl)
  replace z3 := (hZ.cell 3).trans (show _ = some (.int .i64 0) from rfl)
  clear q1 hl9
  obtain ⟨b', o', y6, e', hbl, hy, hcy⟩ := Q4.at_ (Below.refl _ _) (k := 6) L6.out
  simp only [Option.some.injEq, Addr.mk.injEq, and_true] at e'
  obtain ⟨rfl, rfl⟩ := e'
  obtain rfl : x6 = y6 := Option.some.inj (HX6.out.symm.trans hy)
  have q6 := hcy 0 _ rfl (Kin.self _)
  simp only [Nat.mul_one, Nat.add_zero, Kin.self] at q6
  clear hy hcy hbl
  have ll6 := L6.out
  go_wp2_with fail
  refine (Tryz.strings_TrimSuffix x6 (⟨#[44]⟩ : ByteArray) _ (by omega)).mono ?_
  rintro e w0 ⟨rfl, h0⟩
  rw [h0]
  clear h0 w0
  go_wp2_with fail
  refine (iParseV_is (trm x6 44) hy6 v6 b6 H6.out _ (HT.below (by repeat (first | exact Below.refl _ _ | refine Below.alloc ?_ (by first | exact Nat.le_refl _ | (simp <;> omega)) _ | refine Below.setCell ?_ (by first | exact Nat.le_refl _ | (simp <;> omega)) _))) (HE.below (by repeat (first | exact Below.refl _ _ | refine Below.alloc ?_ (by first | exact Nat.le_refl _ | (simp <;> omega)) _ | refine Below.setCell ?_ (by first | exact Nat.le_refl _ | (simp <;> omega)) _)))).mono ?_
  rintro e w4 ⟨rfl, hb4⟩
  have hq4 : Below w3.heap.size w3 w4 := bth (by repeat (first | exact Below.refl _ _ | refine Below.alloc ?_ (by first | exact Nat.le_refl _ | (simp <;> omega)) _ | refine Below.setCell ?_ (by first | exact Nat.le_refl _ | (simp <;> omega)) _)) hb4
  replace HB := bth HB hq4
  replace HT := HT.below hq4
  replace HE := HE.below hq4
  replace HM := HM.below hq4
  replace Q4 := Q4.below hq4
  replace hZ := hZ.below hq4 hZ.lt
  replace z0 := (hZ.cell 0).trans (show _ = some (.int .i64 0) from rfl)
  replace z1 := (hZ.cell 1).trans (show _ = some (.string ⟨#[]⟩) from rfl)
  replace z2 := (hZ.cell 2).trans (show _ = some (.int .i64 0) from rfl)
  replace z3 := (hZ.cell 3).trans (show _ = some (.int .i64 0) from rfl)
  clear q6
  obtain ⟨b', o', y7, e', hbl, hy, hcy⟩ := Q4.at_ (Below.refl _ _) (k := 7) L7.out
  simp only [Option.some.injEq, Addr.mk.injEq, and_true] at e'
  obtain ⟨rfl, rfl⟩ := e'
  obtain rfl : x7 = y7 := Option.some.inj (HX7.out.symm.trans hy)
  have q7 := hcy 0 _ rfl (Kin.self _)
  simp only [Nat.mul_one, Nat.add_zero, Kin.self] at q7
  clear hy hcy hbl
  have ll7 := L7.out
  go_wp2_with fail
  refine (iParseV_is x7 hy7 v7 b7 H7.out _ (HT.below (by repeat (first | exact Below.refl _ _ | refine Below.alloc ?_ (by first | exact Nat.le_refl _ | (simp <;> omega)) _ | refine Below.setCell ?_ (by first | exact Nat.le_refl _ | (simp <;> omega)) _))) (HE.below (by repeat (first | exact Below.refl _ _ | refine Below.alloc ?_ (by first | exact Nat.le_refl _ | (simp <;> omega)) _ | refine Below.setCell ?_ (by first | exact Nat.le_refl _ | (simp <;> omega)) _)))).mono ?_
  rintro e w5 ⟨rfl, hb5⟩
  have hq5 : Below w4.heap.size w4 w5 := bth (by repeat (first | exact Below.refl _ _ | refine Below.alloc ?_ (by first | exact Nat.le_refl _ | (simp <;> omega)) _ | refine Below.setCell ?_ (by first | exact Nat.le_refl _ | (simp <;> omega)) _)) hb5
  replace HB := bth HB hq5
  replace HT := HT.below hq5
  replace HE := HE.below hq5
  replace HM := HM.below hq5
  replace Q4 := Q4.below hq5
  replace hZ := hZ.below hq5 hZ.lt
  replace z0 := (hZ.cell 0).trans (show _ = some (.int .i64 0) from rfl)
  replace z1 := (hZ.cell 1).trans (show _ = some (.string ⟨#[]⟩) from rfl)
  replace z2 := (hZ.cell 2).trans (show _ = some (.int .i64 0) from rfl)
  replace z3 := (hZ.cell 3).trans (show _ = some (.int .i64 0) from rfl)
  clear q7
  obtain ⟨b', o', y2, e', hbl, hy, hcy⟩ := Q4.at_ (Below.refl _ _) (k := 2) L2.out
  simp only [Option.some.injEq, Addr.mk.injEq, and_true] at e'
  obtain ⟨rfl, rfl⟩ := e'
  obtain rfl : x2 = y2 := Option.some.inj (HX2.out.symm.trans hy)
  have q2 := hcy 0 _ rfl (Kin.self _)
  simp only [Nat.mul_one, Nat.add_zero, Kin.self] at q2
  clear hy hcy hbl
  have ll2 := L2.out
  have hzw := hZ.lt
  go_upto_region 8 with fail
  have hq6 : Below w5.heap.size w5 (World.alloc w5 (.cells #[.int .i64 v1, .string x2, .int .i64 v6, .int .i64 v7] 42)) := bl1 w5 _
  have hN : Blk (World.alloc w5 (.cells #[.int .i64 v1, .string x2, .int .i64 v6, .int .i64 v7] 42)) (w5.heap.size) 42 #[.int .i64 v1, .string x2, .int .i64 v6, .int .i64 v7] := by repeat (first | exact Blk.new _ _ _ | exact Blk.new2 _ _ _ _ | exact Blk.new3 _ _ _ _ _ | exact Blk.new4 _ _ _ _ _ _ | refine Blk.alloc ?_ _)
  replace HT := HT.below hq6
  replace HE := HE.below hq6
  replace HM := HM.below hq6
  replace Q4 := Q4.below hq6
  generalize World.alloc w5 (.cells #[.int .i64 v1, .string x2, .int .i64 v6, .int .i64 v7] 42) = wN at *
  replace HB := bth HB hq6
  have n0 := (hN.cell 0).trans (show _ = some (.int .i64 v1) from rfl)
  have n1 := (hN.cell 1).trans (show _ = some (.string x2) from rfl)
  have n2 := (hN.cell 2).trans (show _ = some (.int .i64 v6) from rfl)
  have n3 := (hN.cell 3).trans (show _ = some (.int .i64 v7) from rfl)
  replace hZ := hZ.below hq6 hZ.lt
  clear z0 z1 z2 z3 q2
  have z0 := (hZ.cell 0).trans (show _ = some (.int .i64 0) from rfl)
  have z1 := (hZ.cell 1).trans (show _ = some (.string ⟨#[]⟩) from rfl)
  have z2 := (hZ.cell 2).trans (show _ = some (.int .i64 0) from rfl)
  have z3 := (hZ.cell 3).trans (show _ = some (.int .i64 0) from rfl)
  cases b1
  · have HNO : Hid (¬ ∃ n, isT s n) := Lib.hid (fun ⟨n, hn⟩ => by
      have e := (HF2.out n hn).1
      rw [H1.out] at e; simp at e)
    have fhZ0 := hZ.frozen 0
    have fhZ1 := hZ.frozen 1
    have fhZ2 := hZ.frozen 2
    have fhZ3 := hZ.frozen 3
    have yhN := hN.lt
    have yhZ := hZ.lt
    go_wp2
    clear n0 n1 n2 n3 z0 z1 z2 z3
    replace HB : Below w.heap.size w (World.setCell (World.setCell (World.setCell (World.setCell wN ⟨w.heap.size, 0, none⟩ (.int .i64 0)) ⟨w.heap.size, 1, none⟩ (.string ⟨#[]⟩)) ⟨w.heap.size, 2, none⟩ (.int .i64 0)) ⟨w.heap.size, 3, none⟩ (.int .i64 0)) := ((((HB.setCell (by show w.heap.size ≤ w.heap.size; omega) (.int .i64 0) (p := ⟨w.heap.size, 0, none⟩)).setCell (by show w.heap.size ≤ w.heap.size; omega) (.string ⟨#[]⟩) (p := ⟨w.heap.size, 1, none⟩)).setCell (by show w.heap.size ≤ w.heap.size; omega) (.int .i64 0) (p := ⟨w.heap.size, 2, none⟩)).setCell (by show w.heap.size ≤ w.heap.size; omega) (.int .i64 0) (p := ⟨w.heap.size, 3, none⟩))
    replace hN := ((((hN.far' (p := ⟨w.heap.size, 0, none⟩) (by show _ ≠ w.heap.size; omega) (.int .i64 0)).far' (p := ⟨w.heap.size, 1, none⟩) (by show _ ≠ w.heap.size; omega) (.string ⟨#[]⟩)).far' (p := ⟨w.heap.size, 2, none⟩) (by show _ ≠ w.heap.size; omega) (.int .i64 0)).far' (p := ⟨w.heap.size, 3, none⟩) (by show _ ≠ w.heap.size; omega) (.int .i64 0))
    replace hZ : Blk (World.setCell (World.setCell (World.setCell (World.setCell wN ⟨w.heap.size, 0, none⟩ (.int .i64 0)) ⟨w.heap.size, 1, none⟩ (.string ⟨#[]⟩)) ⟨w.heap.size, 2, none⟩ (.int .i64 0)) ⟨w.heap.size, 3, none⟩ (.int .i64 0)) (w.heap.size) 42 #[.int .i64 0, .string ⟨#[]⟩, .int .i64 0, .int .i64 0] := ((((hZ.set_ 0 (.int .i64 0)).set_ 1 (.string ⟨#[]⟩)).set_ 2 (.int .i64 0)).set_ 3 (.int .i64 0))
    have szW9 : ((World.setCell (World.setCell (World.setCell (World.setCell wN ⟨w.heap.size, 0, none⟩ (.int .i64 0)) ⟨w.heap.size, 1, none⟩ (.string ⟨#[]⟩)) ⟨w.heap.size, 2, none⟩ (.int .i64 0)) ⟨w.heap.size, 3, none⟩ (.int .i64 0))).heap.size = wN.heap.size := by simp [World.setCell]
    generalize World.setCell (World.setCell (World.setCell (World.setCell wN ⟨w.heap.size, 0, none⟩ (.int .i64 0)) ⟨w.heap.size, 1, none⟩ (.string ⟨#[]⟩)) ⟨w.heap.size, 2, none⟩ (.int .i64 0)) ⟨w.heap.size, 3, none⟩ (.int .i64 0) = W9 at *
    have n0 := (hN.cell 0).trans (show _ = some (.int .i64 v1) from rfl)
    have n1 := (hN.cell 1).trans (show _ = some (.string x2) from rfl)
    have n2 := (hN.cell 2).trans (show _ = some (.int .i64 v6) from rfl)
    have n3 := (hN.cell 3).trans (show _ = some (.int .i64 v7) from rfl)
    have z0 := (hZ.cell 0).trans (show _ = some (.int .i64 0) from rfl)
    have z1 := (hZ.cell 1).trans (show _ = some (.string ⟨#[]⟩) from rfl)
    have z2 := (hZ.cell 2).trans (show _ = some (.int .i64 0) from rfl)
    have z3 := (hZ.cell 3).trans (show _ = some (.int .i64 0) from rfl)
    refine bodyPost_ret (v := .tuple #[.agg #[.int .i64 0, .string ⟨#[]⟩, .int .i64 0, .int .i64 0], .bool false]) (by simp [results, Tryz.results23, go_sem, z0, z1, z2, z3]) rfl ?_
    exact ⟨by rw [pnV_no HNO.out], HB⟩
  cases b6
  · have HNO : Hid (¬ ∃ n, isT s n) := Lib.hid (fun ⟨n, hn⟩ => by
      have e := (HF2.out n hn).2.2.1
      rw [H6.out] at e; simp at e)
    have fhZ0 := hZ.frozen 0
    have fhZ1 := hZ.frozen 1
    have fhZ2 := hZ.frozen 2
    have fhZ3 := hZ.frozen 3
    have yhN := hN.lt
    have yhZ := hZ.lt
    go_wp2
    clear n0 n1 n2 n3 z0 z1 z2 z3
    replace HB : Below w.heap.size w (World.setCell (World.setCell (World.setCell (World.setCell wN ⟨w.heap.size, 0, none⟩ (.int .i64 0)) ⟨w.heap.size, 1, none⟩ (.string ⟨#[]⟩)) ⟨w.heap.size, 2, none⟩ (.int .i64 0)) ⟨w.heap.size, 3, none⟩ (.int .i64 0)) := ((((HB.setCell (by show w.heap.size ≤ w.heap.size; omega) (.int .i64 0) (p := ⟨w.heap.size, 0, none⟩)).setCell (by show w.heap.size ≤ w.heap.size; omega) (.string ⟨#[]⟩) (p := ⟨w.heap.size, 1, none⟩)).setCell (by show w.heap.size ≤ w.heap.size; omega) (.int .i64 0) (p := ⟨w.heap.size, 2, none⟩)).setCell (by show w.heap.size ≤ w.heap.size; omega) (.int .i64 0) (p := ⟨w.heap.size, 3, none⟩))
    replace hN := ((((hN.far' (p := ⟨w.heap.size, 0, none⟩) (by show _ ≠ w.heap.size; omega) (.int .i64 0)).far' (p := ⟨w.heap.size, 1, none⟩) (by show _ ≠ w.heap.size; omega) (.string ⟨#[]⟩)).far' (p := ⟨w.heap.size, 2, none⟩) (by show _ ≠ w.heap.size; omega) (.int .i64 0)).far' (p := ⟨w.heap.size, 3, none⟩) (by show _ ≠ w.heap.size; omega) (.int .i64 0))
    replace hZ : Blk (World.setCell (World.setCell (World.setCell (World.setCell wN ⟨w.heap.size, 0, none⟩ (.int .i64 0)) ⟨w.heap.size, 1, none⟩ (.string ⟨#[]⟩)) ⟨w.heap.size, 2, none⟩ (.int .i64 0)) ⟨w.heap.size, 3, none⟩ (.int .i64 0)) (w.heap.size) 42 #[.int .i64 0, .string ⟨#[]⟩, .int .i64 0, .int .i64 0] := ((((hZ.set_ 0 (.int .i64 0)).set_ 1 (.string ⟨#[]⟩)).set_ 2 (.int .i64 0)).set_ 3 (.int .i64 0))
    have szW9 : ((World.setCell (World.setCell (World.setCell (World.setCell wN ⟨w.heap.size, 0, none⟩ (.int .i64 0)) ⟨w.heap.size, 1, none⟩ (.string ⟨#[]⟩)) ⟨w.heap.size, 2, none⟩ (.int .i64 0)) ⟨w.heap.size, 3, none⟩ (.int .i64 0))).heap.size = wN.heap.size := by simp [World.setCell]
    generalize World.setCell (World.setCell (World.setCell (World.setCell wN ⟨w.heap.size, 0, none⟩ (.int .i64 0)) ⟨w.heap.size, 1, none⟩ (.string ⟨#[]⟩)) ⟨w.heap.size, 2, none⟩ (.int .i64 0)) ⟨w.heap.size, 3, none⟩ (.int .i64 0) = W9 at *
    have n0 := (hN.cell 0).trans (show _ = some (.int .i64 v1) from rfl)
    have n1 := (hN.cell 1).trans (show _ = some (.string x2) from rfl)
    have n2 := (hN.cell 2).trans (show _ = some (.int .i64 v6) from rfl)
    have n3 := (hN.cell 3).trans (show _ = some (.int .i64 v7) from rfl)
    have z0 := (hZ.cell 0).trans (show _ = some (.int .i64 0) from rfl)
    have z1 := (hZ.cell 1).trans (show _ = some (.string ⟨#[]⟩) from rfl)
    have z2 := (hZ.cell 2).trans (show _ = some (.int .i64 0) from rfl)
    have z3 := (hZ.cell 3).trans (show _ = some (.int .i64 0) from rfl)
    refine bodyPost_ret (v := .tuple #[.agg #[.int .i64 0, .string ⟨#[]⟩, .int .i64 0, .int .i64 0], .bool false]) (by simp [results, Tryz.results23, go_sem, z0, z1, z2, z3]) rfl ?_
    exact ⟨by rw [pnV_no HNO.out], HB⟩
  cases b7
  · have HNO : Hid (¬ ∃ n, isT s n) := Lib.hid (fun ⟨n, hn⟩ => by
      have e := (HF2.out n hn).2.2.2
      rw [H7.out] at e; simp at e)
    have fhZ0 := hZ.frozen 0
    have fhZ1 := hZ.frozen 1
    have fhZ2 := hZ.frozen 2
    have fhZ3 := hZ.frozen 3
    have yhN := hN.lt
    have yhZ := hZ.lt
    go_wp2
    clear n0 n1 n2 n3 z0 z1 z2 z3
    replace HB : Below w.heap.size w (World.setCell (World.setCell (World.setCell (World.setCell wN ⟨w.heap.size, 0, none⟩ (.int .i64 0)) ⟨w.heap.size, 1, none⟩ (.string ⟨#[]⟩)) ⟨w.heap.size, 2, none⟩ (.int .i64 0)) ⟨w.heap.size, 3, none⟩ (.int .i64 0)) := ((((HB.setCell (by show w.heap.size ≤ w.heap.size; omega) (.int .i64 0) (p := ⟨w.heap.size, 0, none⟩)).setCell (by show w.heap.size ≤ w.heap.size; omega) (.string ⟨#[]⟩) (p := ⟨w.heap.size, 1, none⟩)).setCell (by show w.heap.size ≤ w.heap.size; omega) (.int .i64 0) (p := ⟨w.heap.size, 2, none⟩)).setCell (by show w.heap.size ≤ w.heap.size; omega) (.int .i64 0) (p := ⟨w.heap.size, 3, none⟩))
    replace hN := ((((hN.far' (p := ⟨w.heap.size, 0, none⟩) (by show _ ≠ w.heap.size; omega) (.int .i64 0)).far' (p := ⟨w.heap.size, 1, none⟩) (by show _ ≠ w.heap.size; omega) (.string ⟨#[]⟩)).far' (p := ⟨w.heap.size, 2, none⟩) (by show _ ≠ w.heap.size; omega) (.int .i64 0)).far' (p := ⟨w.heap.size, 3, none⟩) (by show _ ≠ w.heap.size; omega) (.int .i64 0))
    replace hZ : Blk (World.setCell (World.setCell (World.setCell (World.setCell wN ⟨w.heap.size, 0, none⟩ (.int .i64 0)) ⟨w.heap.size, 1, none⟩ (.string ⟨#[]⟩)) ⟨w.heap.size, 2, none⟩ (.int .i64 0)) ⟨w.heap.size, 3, none⟩ (.int .i64 0)) (w.heap.size) 42 #[.int .i64 0, .string ⟨#[]⟩, .int .i64 0, .int .i64 0] := ((((hZ.set_ 0 (.int .i64 0)).set_ 1 (.string ⟨#[]⟩)).set_ 2 (.int .i64 0)).set_ 3 (.int .i64 0))
    have szW9 : ((World.setCell (World.setCell (World.setCell (World.setCell wN ⟨w.heap.size, 0, none⟩ (.int .i64 0)) ⟨w.heap.size, 1, none⟩ (.string ⟨#[]⟩)) ⟨w.heap.size, 2, none⟩ (.int .i64 0)) ⟨w.heap.size, 3, none⟩ (.int .i64 0))).heap.size = wN.heap.size := by simp [World.setCell]
    generalize World.setCell (World.setCell (World.setCell (World.setCell wN ⟨w.heap.size, 0, none⟩ (.int .i64 0)) ⟨w.heap.size, 1, none⟩ (.string ⟨#[]⟩)) ⟨w.heap.size, 2, none⟩ (.int .i64 0)) ⟨w.heap.size, 3, none⟩ (.int .i64 0) = W9 at *
    have n0 := (hN.cell 0).trans (show _ = some (.int .i64 v1) from rfl)
    have n1 := (hN.cell 1).trans (show _ = some (.string x2) from rfl)
    have n2 := (hN.cell 2).trans (show _ = some (.int .i64 v6) from rfl)
    have n3 := (hN.cell 3).trans (show _ = some (.int .i64 v7) from rfl)
    have z0 := (hZ.cell 0).trans (show _ = some (.int .i64 0) from rfl)
    have z1 := (hZ.cell 1).trans (show _ = some (.string ⟨#[]⟩) from rfl)
    have z2 := (hZ.cell 2).trans (show _ = some (.int .i64 0) from rfl)
    have z3 := (hZ.cell 3).trans (show _ = some (.int .i64 0) from rfl)
    refine bodyPost_ret (v := .tuple #[.agg #[.int .i64 0, .string ⟨#[]⟩, .int .i64 0, .int .i64 0], .bool false]) (by simp [results, Tryz.results23, go_sem, z0, z1, z2, z3]) rfl ?_
    exact ⟨by rw [pnV_no HNO.out], HB⟩
  have heq : ∀ n, isT s n → n.id = v1 ∧ n.topic = x2 ∧ n.given = v6 ∧ n.days = v7 := fun n hn => by
    obtain ⟨e1, e2, e3, e4⟩ := HF2.out n hn
    rw [H1.out] at e1; rw [H6.out] at e3; rw [H7.out] at e4
    simp at e1 e3 e4
    exact ⟨e1.symm, e2.symm, e3.symm, e4.symm⟩
  have HEQ := Lib.hid heq; clear heq
  cases hv : noticeB ⟨v1, x2, v6, v7, hx2⟩
  · have HNO : Hid (¬ ∃ n, isT s n) := Lib.hid (fun ⟨n, hn⟩ => by
      obtain ⟨e1, e2, e3, e4⟩ := HEQ.out n hn
      have hv2 := hn.1
      obtain ⟨ni, nt, ng, nd, nok⟩ := n
      simp only at e1 e2 e3 e4
      subst e1 e2 e3 e4
      rw [hv] at hv2; cases hv2)
    have HV := Lib.hid hv; clear hv
    go_wp2_with fail
    refine (isNotice_is v1 v6 v7 x2 hx2 _ HV.out _).mono ?_
    rintro e w7 ⟨rfl, hb7⟩
    have hq7 : Below wN.heap.size wN w7 := bth (by repeat (first | exact Below.refl _ _ | refine Below.alloc ?_ (by first | exact Nat.le_refl _ | (simp <;> omega)) _ | refine Below.setCell ?_ (by first | exact Nat.le_refl _ | (simp <;> omega)) _)) hb7
    replace HB := bth HB hq7
    replace HT := HT.below hq7
    replace HE := HE.below hq7
    replace HM := HM.below hq7
    replace Q4 := Q4.below hq7
    replace hN := hN.below hq7 hN.lt
    replace n0 := (hN.cell 0).trans (show _ = some (.int .i64 v1) from rfl)
    replace n1 := (hN.cell 1).trans (show _ = some (.string x2) from rfl)
    replace n2 := (hN.cell 2).trans (show _ = some (.int .i64 v6) from rfl)
    replace n3 := (hN.cell 3).trans (show _ = some (.int .i64 v7) from rfl)
    replace hZ := hZ.below hq7 hZ.lt
    replace z0 := (hZ.cell 0).trans (show _ = some (.int .i64 0) from rfl)
    replace z1 := (hZ.cell 1).trans (show _ = some (.string ⟨#[]⟩) from rfl)
    replace z2 := (hZ.cell 2).trans (show _ = some (.int .i64 0) from rfl)
    replace z3 := (hZ.cell 3).trans (show _ = some (.int .i64 0) from rfl)
    have fhZ0 := hZ.frozen 0
    have fhZ1 := hZ.frozen 1
    have fhZ2 := hZ.frozen 2
    have fhZ3 := hZ.frozen 3
    have yhN := hN.lt
    have yhZ := hZ.lt
    go_wp2
    clear n0 n1 n2 n3 z0 z1 z2 z3
    replace HB : Below w.heap.size w (World.setCell (World.setCell (World.setCell (World.setCell w7 ⟨w.heap.size, 0, none⟩ (.int .i64 0)) ⟨w.heap.size, 1, none⟩ (.string ⟨#[]⟩)) ⟨w.heap.size, 2, none⟩ (.int .i64 0)) ⟨w.heap.size, 3, none⟩ (.int .i64 0)) := ((((HB.setCell (by show w.heap.size ≤ w.heap.size; omega) (.int .i64 0) (p := ⟨w.heap.size, 0, none⟩)).setCell (by show w.heap.size ≤ w.heap.size; omega) (.string ⟨#[]⟩) (p := ⟨w.heap.size, 1, none⟩)).setCell (by show w.heap.size ≤ w.heap.size; omega) (.int .i64 0) (p := ⟨w.heap.size, 2, none⟩)).setCell (by show w.heap.size ≤ w.heap.size; omega) (.int .i64 0) (p := ⟨w.heap.size, 3, none⟩))
    replace hN := ((((hN.far' (p := ⟨w.heap.size, 0, none⟩) (by show _ ≠ w.heap.size; omega) (.int .i64 0)).far' (p := ⟨w.heap.size, 1, none⟩) (by show _ ≠ w.heap.size; omega) (.string ⟨#[]⟩)).far' (p := ⟨w.heap.size, 2, none⟩) (by show _ ≠ w.heap.size; omega) (.int .i64 0)).far' (p := ⟨w.heap.size, 3, none⟩) (by show _ ≠ w.heap.size; omega) (.int .i64 0))
    replace hZ : Blk (World.setCell (World.setCell (World.setCell (World.setCell w7 ⟨w.heap.size, 0, none⟩ (.int .i64 0)) ⟨w.heap.size, 1, none⟩ (.string ⟨#[]⟩)) ⟨w.heap.size, 2, none⟩ (.int .i64 0)) ⟨w.heap.size, 3, none⟩ (.int .i64 0)) (w.heap.size) 42 #[.int .i64 0, .string ⟨#[]⟩, .int .i64 0, .int .i64 0] := ((((hZ.set_ 0 (.int .i64 0)).set_ 1 (.string ⟨#[]⟩)).set_ 2 (.int .i64 0)).set_ 3 (.int .i64 0))
    have szW9 : ((World.setCell (World.setCell (World.setCell (World.setCell w7 ⟨w.heap.size, 0, none⟩ (.int .i64 0)) ⟨w.heap.size, 1, none⟩ (.string ⟨#[]⟩)) ⟨w.heap.size, 2, none⟩ (.int .i64 0)) ⟨w.heap.size, 3, none⟩ (.int .i64 0))).heap.size = w7.heap.size := by simp [World.setCell]
    generalize World.setCell (World.setCell (World.setCell (World.setCell w7 ⟨w.heap.size, 0, none⟩ (.int .i64 0)) ⟨w.heap.size, 1, none⟩ (.string ⟨#[]⟩)) ⟨w.heap.size, 2, none⟩ (.int .i64 0)) ⟨w.heap.size, 3, none⟩ (.int .i64 0) = W9 at *
    have n0 := (hN.cell 0).trans (show _ = some (.int .i64 v1) from rfl)
    have n1 := (hN.cell 1).trans (show _ = some (.string x2) from rfl)
    have n2 := (hN.cell 2).trans (show _ = some (.int .i64 v6) from rfl)
    have n3 := (hN.cell 3).trans (show _ = some (.int .i64 v7) from rfl)
    have z0 := (hZ.cell 0).trans (show _ = some (.int .i64 0) from rfl)
    have z1 := (hZ.cell 1).trans (show _ = some (.string ⟨#[]⟩) from rfl)
    have z2 := (hZ.cell 2).trans (show _ = some (.int .i64 0) from rfl)
    have z3 := (hZ.cell 3).trans (show _ = some (.int .i64 0) from rfl)
    refine bodyPost_ret (v := .tuple #[.agg #[.int .i64 0, .string ⟨#[]⟩, .int .i64 0, .int .i64 0], .bool false]) (by simp [results, Tryz.results23, go_sem, z0, z1, z2, z3]) rfl ?_
    exact ⟨by rw [pnV_no HNO.out], HB⟩
  have HV := Lib.hid hv; clear hv
  by_cases he : (⟨v1, x2, v6, v7, hx2⟩ : Ntc).txt = s
  case neg =>
    have HNO : Hid (¬ ∃ n, isT s n) := Lib.hid (fun ⟨n, hn⟩ => by
      obtain ⟨e1, e2, e3, e4⟩ := HEQ.out n hn
      have hv2 := hn.2
      obtain ⟨ni, nt, ng, nd, nok⟩ := n
      simp only at e1 e2 e3 e4
      subst e1 e2 e3 e4
      exact he hv2)
    have hcmp := str_differ he
    go_wp2_with fail
    refine (isNotice_is v1 v6 v7 x2 hx2 _ HV.out _).mono ?_
    rintro e w7 ⟨rfl, hb7⟩
    have hq7 : Below wN.heap.size wN w7 := bth (by repeat (first | exact Below.refl _ _ | refine Below.alloc ?_ (by first | exact Nat.le_refl _ | (simp <;> omega)) _ | refine Below.setCell ?_ (by first | exact Nat.le_refl _ | (simp <;> omega)) _)) hb7
    replace HB := bth HB hq7
    replace HT := HT.below hq7
    replace HE := HE.below hq7
    replace HM := HM.below hq7
    replace Q4 := Q4.below hq7
    replace hN := hN.below hq7 hN.lt
    replace n0 := (hN.cell 0).trans (show _ = some (.int .i64 v1) from rfl)
    replace n1 := (hN.cell 1).trans (show _ = some (.string x2) from rfl)
    replace n2 := (hN.cell 2).trans (show _ = some (.int .i64 v6) from rfl)
    replace n3 := (hN.cell 3).trans (show _ = some (.int .i64 v7) from rfl)
    replace hZ := hZ.below hq7 hZ.lt
    replace z0 := (hZ.cell 0).trans (show _ = some (.int .i64 0) from rfl)
    replace z1 := (hZ.cell 1).trans (show _ = some (.string ⟨#[]⟩) from rfl)
    replace z2 := (hZ.cell 2).trans (show _ = some (.int .i64 0) from rfl)
    replace z3 := (hZ.cell 3).trans (show _ = some (.int .i64 0) from rfl)
    go_wp2_with fail
    refine (noticeText_is v1 v6 v7 x2 hx2 HV.out _ (HT.below (by repeat (first | exact Below.refl _ _ | refine Below.alloc ?_ (by first | exact Nat.le_refl _ | (simp <;> omega)) _ | refine Below.setCell ?_ (by first | exact Nat.le_refl _ | (simp <;> omega)) _)))).mono ?_
    rintro e w8 ⟨rfl, hb8⟩
    have hq8 : Below w7.heap.size w7 w8 := bth (by repeat (first | exact Below.refl _ _ | refine Below.alloc ?_ (by first | exact Nat.le_refl _ | (simp <;> omega)) _ | refine Below.setCell ?_ (by first | exact Nat.le_refl _ | (simp <;> omega)) _)) hb8
    replace HB := bth HB hq8
    replace HT := HT.below hq8
    replace HE := HE.below hq8
    replace HM := HM.below hq8
    replace Q4 := Q4.below hq8
    replace hN := hN.below hq8 hN.lt
    replace n0 := (hN.cell 0).trans (show _ = some (.int .i64 v1) from rfl)
    replace n1 := (hN.cell 1).trans (show _ = some (.string x2) from rfl)
    replace n2 := (hN.cell 2).trans (show _ = some (.int .i64 v6) from rfl)
    replace n3 := (hN.cell 3).trans (show _ = some (.int .i64 v7) from rfl)
    replace hZ := hZ.below hq8 hZ.lt
    replace z0 := (hZ.cell 0).trans (show _ = some (.int .i64 0) from rfl)
    replace z1 := (hZ.cell 1).trans (show _ = some (.string ⟨#[]⟩) from rfl)
    replace z2 := (hZ.cell 2).trans (show _ = some (.int .i64 0) from rfl)
    replace z3 := (hZ.cell 3).trans (show _ = some (.int .i64 0) from rfl)
    have fhZ0 := hZ.frozen 0
    have fhZ1 := hZ.frozen 1
    have fhZ2 := hZ.frozen 2
    have fhZ3 := hZ.frozen 3
    have yhN := hN.lt
    have yhZ := hZ.lt
    go_wp2
    clear n0 n1 n2 n3 z0 z1 z2 z3
    replace HB : Below w.heap.size w (World.setCell (World.setCell (World.setCell (World.setCell w8 ⟨w.heap.size, 0, none⟩ (.int .i64 0)) ⟨w.heap.size, 1, none⟩ (.string ⟨#[]⟩)) ⟨w.heap.size, 2, none⟩ (.int .i64 0)) ⟨w.heap.size, 3, none⟩ (.int .i64 0)) := ((((HB.setCell (by show w.heap.size ≤ w.heap.size; omega) (.int .i64 0) (p := ⟨w.heap.size, 0, none⟩)).setCell (by show w.heap.size ≤ w.heap.size; omega) (.string ⟨#[]⟩) (p := ⟨w.heap.size, 1, none⟩)).setCell (by show w.heap.size ≤ w.heap.size; omega) (.int .i64 0) (p := ⟨w.heap.size, 2, none⟩)).setCell (by show w.heap.size ≤ w.heap.size; omega) (.int .i64 0) (p := ⟨w.heap.size, 3, none⟩))
    replace hN := ((((hN.far' (p := ⟨w.heap.size, 0, none⟩) (by show _ ≠ w.heap.size; omega) (.int .i64 0)).far' (p := ⟨w.heap.size, 1, none⟩) (by show _ ≠ w.heap.size; omega) (.string ⟨#[]⟩)).far' (p := ⟨w.heap.size, 2, none⟩) (by show _ ≠ w.heap.size; omega) (.int .i64 0)).far' (p := ⟨w.heap.size, 3, none⟩) (by show _ ≠ w.heap.size; omega) (.int .i64 0))
    replace hZ : Blk (World.setCell (World.setCell (World.setCell (World.setCell w8 ⟨w.heap.size, 0, none⟩ (.int .i64 0)) ⟨w.heap.size, 1, none⟩ (.string ⟨#[]⟩)) ⟨w.heap.size, 2, none⟩ (.int .i64 0)) ⟨w.heap.size, 3, none⟩ (.int .i64 0)) (w.heap.size) 42 #[.int .i64 0, .string ⟨#[]⟩, .int .i64 0, .int .i64 0] := ((((hZ.set_ 0 (.int .i64 0)).set_ 1 (.string ⟨#[]⟩)).set_ 2 (.int .i64 0)).set_ 3 (.int .i64 0))
    have szW9 : ((World.setCell (World.setCell (World.setCell (World.setCell w8 ⟨w.heap.size, 0, none⟩ (.int .i64 0)) ⟨w.heap.size, 1, none⟩ (.string ⟨#[]⟩)) ⟨w.heap.size, 2, none⟩ (.int .i64 0)) ⟨w.heap.size, 3, none⟩ (.int .i64 0))).heap.size = w8.heap.size := by simp [World.setCell]
    generalize World.setCell (World.setCell (World.setCell (World.setCell w8 ⟨w.heap.size, 0, none⟩ (.int .i64 0)) ⟨w.heap.size, 1, none⟩ (.string ⟨#[]⟩)) ⟨w.heap.size, 2, none⟩ (.int .i64 0)) ⟨w.heap.size, 3, none⟩ (.int .i64 0) = W9 at *
    have n0 := (hN.cell 0).trans (show _ = some (.int .i64 v1) from rfl)
    have n1 := (hN.cell 1).trans (show _ = some (.string x2) from rfl)
    have n2 := (hN.cell 2).trans (show _ = some (.int .i64 v6) from rfl)
    have n3 := (hN.cell 3).trans (show _ = some (.int .i64 v7) from rfl)
    have z0 := (hZ.cell 0).trans (show _ = some (.int .i64 0) from rfl)
    have z1 := (hZ.cell 1).trans (show _ = some (.string ⟨#[]⟩) from rfl)
    have z2 := (hZ.cell 2).trans (show _ = some (.int .i64 0) from rfl)
    have z3 := (hZ.cell 3).trans (show _ = some (.int .i64 0) from rfl)
    refine bodyPost_ret (v := .tuple #[.agg #[.int .i64 0, .string ⟨#[]⟩, .int .i64 0, .int .i64 0], .bool false]) (by simp [results, Tryz.results23, go_sem, z0, z1, z2, z3]) rfl ?_
    exact ⟨by rw [pnV_no HNO.out], HB⟩
  have hcmp : ((⟨v1, x2, v6, v7, hx2⟩ : Ntc).txt.toList == s.toList) = true := beq_iff_eq.2 (by rw [he])
  have HY : Hid (isT s ⟨v1, x2, v6, v7, hx2⟩) := Lib.hid ⟨HV.out, he⟩
  clear he
  go_wp2_with fail
  refine (isNotice_is v1 v6 v7 x2 hx2 _ HV.out _).mono ?_
  rintro e w7 ⟨rfl, hb7⟩
  have hq7 : Below wN.heap.size wN w7 := bth (by repeat (first | exact Below.refl _ _ | refine Below.alloc ?_ (by first | exact Nat.le_refl _ | (simp <;> omega)) _ | refine Below.setCell ?_ (by first | exact Nat.le_refl _ | (simp <;> omega)) _)) hb7
  replace HB := bth HB hq7
  replace HT := HT.below hq7
  replace HE := HE.below hq7
  replace HM := HM.below hq7
  replace Q4 := Q4.below hq7
  replace hN := hN.below hq7 hN.lt
  replace n0 := (hN.cell 0).trans (show _ = some (.int .i64 v1) from rfl)
  replace n1 := (hN.cell 1).trans (show _ = some (.string x2) from rfl)
  replace n2 := (hN.cell 2).trans (show _ = some (.int .i64 v6) from rfl)
  replace n3 := (hN.cell 3).trans (show _ = some (.int .i64 v7) from rfl)
  replace hZ := hZ.below hq7 hZ.lt
  replace z0 := (hZ.cell 0).trans (show _ = some (.int .i64 0) from rfl)
  replace z1 := (hZ.cell 1).trans (show _ = some (.string ⟨#[]⟩) from rfl)
  replace z2 := (hZ.cell 2).trans (show _ = some (.int .i64 0) from rfl)
  replace z3 := (hZ.cell 3).trans (show _ = some (.int .i64 0) from rfl)
  go_wp2_with fail
  refine (noticeText_is v1 v6 v7 x2 hx2 HV.out _ (HT.below (by repeat (first | exact Below.refl _ _ | refine Below.alloc ?_ (by first | exact Nat.le_refl _ | (simp <;> omega)) _ | refine Below.setCell ?_ (by first | exact Nat.le_refl _ | (simp <;> omega)) _)))).mono ?_
  rintro e w8 ⟨rfl, hb8⟩
  have hq8 : Below w7.heap.size w7 w8 := bth (by repeat (first | exact Below.refl _ _ | refine Below.alloc ?_ (by first | exact Nat.le_refl _ | (simp <;> omega)) _ | refine Below.setCell ?_ (by first | exact Nat.le_refl _ | (simp <;> omega)) _)) hb8
  replace HB := bth HB hq8
  replace HT := HT.below hq8
  replace HE := HE.below hq8
  replace HM := HM.below hq8
  replace Q4 := Q4.below hq8
  replace hN := hN.below hq8 hN.lt
  replace n0 := (hN.cell 0).trans (show _ = some (.int .i64 v1) from rfl)
  replace n1 := (hN.cell 1).trans (show _ = some (.string x2) from rfl)
  replace n2 := (hN.cell 2).trans (show _ = some (.int .i64 v6) from rfl)
  replace n3 := (hN.cell 3).trans (show _ = some (.int .i64 v7) from rfl)
  replace hZ := hZ.below hq8 hZ.lt
  replace z0 := (hZ.cell 0).trans (show _ = some (.int .i64 0) from rfl)
  replace z1 := (hZ.cell 1).trans (show _ = some (.string ⟨#[]⟩) from rfl)
  replace z2 := (hZ.cell 2).trans (show _ = some (.int .i64 0) from rfl)
  replace z3 := (hZ.cell 3).trans (show _ = some (.int .i64 0) from rfl)
  have fhZ0 := hZ.frozen 0
  have fhZ1 := hZ.frozen 1
  have fhZ2 := hZ.frozen 2
  have fhZ3 := hZ.frozen 3
  have yhN := hN.lt
  have yhZ := hZ.lt
  go_wp2
  clear n0 n1 n2 n3 z0 z1 z2 z3
  replace HB : Below w.heap.size w (World.setCell (World.setCell (World.setCell (World.setCell w8 ⟨w.heap.size, 0, none⟩ (.int .i64 v1)) ⟨w.heap.size, 1, none⟩ (.string x2)) ⟨w.heap.size, 2, none⟩ (.int .i64 v6)) ⟨w.heap.size, 3, none⟩ (.int .i64 v7)) := ((((HB.setCell (by show w.heap.size ≤ w.heap.size; omega) (.int .i64 v1) (p := ⟨w.heap.size, 0, none⟩)).setCell (by show w.heap.size ≤ w.heap.size; omega) (.string x2) (p := ⟨w.heap.size, 1, none⟩)).setCell (by show w.heap.size ≤ w.heap.size; omega) (.int .i64 v6) (p := ⟨w.heap.size, 2, none⟩)).setCell (by show w.heap.size ≤ w.heap.size; omega) (.int .i64 v7) (p := ⟨w.heap.size, 3, none⟩))
  replace hN := ((((hN.far' (p := ⟨w.heap.size, 0, none⟩) (by show _ ≠ w.heap.size; omega) (.int .i64 v1)).far' (p := ⟨w.heap.size, 1, none⟩) (by show _ ≠ w.heap.size; omega) (.string x2)).far' (p := ⟨w.heap.size, 2, none⟩) (by show _ ≠ w.heap.size; omega) (.int .i64 v6)).far' (p := ⟨w.heap.size, 3, none⟩) (by show _ ≠ w.heap.size; omega) (.int .i64 v7))
  replace hZ : Blk (World.setCell (World.setCell (World.setCell (World.setCell w8 ⟨w.heap.size, 0, none⟩ (.int .i64 v1)) ⟨w.heap.size, 1, none⟩ (.string x2)) ⟨w.heap.size, 2, none⟩ (.int .i64 v6)) ⟨w.heap.size, 3, none⟩ (.int .i64 v7)) (w.heap.size) 42 #[.int .i64 v1, .string x2, .int .i64 v6, .int .i64 v7] := ((((hZ.set_ 0 (.int .i64 v1)).set_ 1 (.string x2)).set_ 2 (.int .i64 v6)).set_ 3 (.int .i64 v7))
  have szW9 : ((World.setCell (World.setCell (World.setCell (World.setCell w8 ⟨w.heap.size, 0, none⟩ (.int .i64 v1)) ⟨w.heap.size, 1, none⟩ (.string x2)) ⟨w.heap.size, 2, none⟩ (.int .i64 v6)) ⟨w.heap.size, 3, none⟩ (.int .i64 v7))).heap.size = w8.heap.size := by simp [World.setCell]
  generalize World.setCell (World.setCell (World.setCell (World.setCell w8 ⟨w.heap.size, 0, none⟩ (.int .i64 v1)) ⟨w.heap.size, 1, none⟩ (.string x2)) ⟨w.heap.size, 2, none⟩ (.int .i64 v6)) ⟨w.heap.size, 3, none⟩ (.int .i64 v7) = W9 at *
  have n0 := (hN.cell 0).trans (show _ = some (.int .i64 v1) from rfl)
  have n1 := (hN.cell 1).trans (show _ = some (.string x2) from rfl)
  have n2 := (hN.cell 2).trans (show _ = some (.int .i64 v6) from rfl)
  have n3 := (hN.cell 3).trans (show _ = some (.int .i64 v7) from rfl)
  have z0 := (hZ.cell 0).trans (show _ = some (.int .i64 v1) from rfl)
  have z1 := (hZ.cell 1).trans (show _ = some (.string x2) from rfl)
  have z2 := (hZ.cell 2).trans (show _ = some (.int .i64 v6) from rfl)
  have z3 := (hZ.cell 3).trans (show _ = some (.int .i64 v7) from rfl)
  refine bodyPost_ret (v := .tuple #[.agg #[.int .i64 v1, .string x2, .int .i64 v6, .int .i64 v7], .bool true]) (by simp [results, Tryz.results23, go_sem, z0, z1, z2, z3]) rfl ?_
  exact ⟨by rw [pnV_yes HY.out], HB⟩
end Go.Proofs.YtbnncgahepcfnaaGreatDoor
