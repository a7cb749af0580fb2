/- The votes of a line, read from its words: the program. -/
import Derived.Test.YtbnncgahepcfnaaGreatDoorRl13
import Derived.Test.YtbnncgahepcfnaaGreatDoorRl8
import Derived.Deep.Cut
namespace Go.Proofs.YtbnncgahepcfnaaGreatDoor
open Go.RowKit Go.G9
theorem iCut_is (s sep : ByteArray) (hs : s.size ≤ 1048576) (w : World) (hM : Mxl w) : Calls Tryz.prog 44 #[.string s, .string sep] w fun e w' => ∃ b : Bool, e = .returned (.tuple #[.string (ctA s sep), .string (ctB s sep), .bool b]) ∧ Below w.heap.size w w' := by
  obtain ⟨h1, m, h2⟩ := hM
  refine (Tryz.strings_Cut s sep m w (by omega) h2).mono ?_
  rintro e w' ⟨rfl, n, rfl⟩
  exact ⟨_, rfl, ⟨rfl, rfl, rfl, Nat.le_refl _, fun _ _ => rfl⟩⟩
theorem pv3_of {a c e : ByteArray} {x y z : Int} {p q r : Bool} (ha : rdOut a = .tuple #[.int .i64 x, .bool p]) (hc : rdOut c = .tuple #[.int .i64 y, .bool q]) (he : rdOut e = .tuple #[.int .i64 z, .bool r]) : pv3 a c e = .tuple #[.agg #[.int .i64 x, .int .i64 y, .int .i64 z], .bool (p && (q && r))] := by
  rw [rdOut_I] at ha hc he
  simp at ha hc he
  rw [pv3, ha.1, ha.2, hc.1, hc.2, he.1, he.2]
theorem pvV_few {ws : List ByteArray} (h : ws.length ≠ 3) (h5 : ws.length < 5) : pvV ws = .tuple #[.agg #[.int .i64 0, .int .i64 0, .int .i64 0], .bool false] := by
  match ws, h, h5 with
  | [], _, _ => rfl
  | [_], _, _ => rfl
  | [_, _], _, _ => rfl
  | [_, _, _], h, _ => simp at h
  | [_, _, _, _], _, _ => rfl
  | _ :: _ :: _ :: _ :: _ :: _, _, h => simp at h; omega
theorem pvV_five {ws : List ByteArray} {a c e : ByteArray} (h5 : 5 ≤ ws.length) (h0 : ws[0]? = some a) (h2 : ws[2]? = some c) (h4 : ws[4]? = some e) : pvV ws = pv3 a c e := by
  match ws, h5, h0, h2, h4 with
  | a' :: _ :: c' :: _ :: e' :: _, _, h0, h2, h4 =>
    simp at h0 h2 h4; subst h0 h2 h4; rfl
theorem rds_two (w : World) (a b : ByteArray) : Rds 1 bC (w.alloc (.cells #[.string a, .string b] 9)) (some ⟨w.heap.size, 0, none⟩) [a, b] :=
  (OwnV.built (B := w.heap.size) (f := bC) w [a, b] 9 (Nat.le_refl _) (by unfold maxLen; simp) bC_len).rds (hf := bC_len)
theorem own_five {B : Nat} {e : TypeId} {w : World} {v : Value} {a b c d f : ByteArray} (h : OwnV B e 1 bC w v [a, b, c, d, f]) : ∃ A n, v = .slice A 5 n ∧ Rds 1 bC w A [a, b, c, d, f] := by
  obtain ⟨A, n, rfl, _, hR, _⟩ := h.form bC_len
  exact ⟨A, n, rfl, hR⟩
set_option maxHeartbeats 4000000 in
set_option maxRecDepth 100000 in
theorem parseVotes3_is (A : Option Addr) (c : Nat) (x0 x1 x2 : ByteArray) (k0 : x0.size ≤ 1048576) (k2 : x2.size ≤ 1048576) (w : World) (hR : Rds 1 bC w A [x0, x1, x2]) (HT : Tab w) (HE : Esy w) : Calls Tryz.prog 45 #[.slice A 3 c] w fun e w' => e = .returned (pvV [x0, x1, x2]) ∧ Below w.heap.size w w' := by
  obtain ⟨i0, hi, hz0, hz1, hz2⟩ := info_parts info_strS
  obtain ⟨x4, hx4⟩ : ∃ x4 : ByteArray, (⟨#[48]⟩ : ByteArray) = x4 := ⟨_, rfl⟩
  have s4 : x4.size ≤ maxLen := by rw [← hx4]; unfold maxLen; decide
  have s0 : x0.size ≤ maxLen := by unfold maxLen; omega
  have s2 : x2.size ≤ maxLen := by unfold maxLen; omega
  obtain ⟨v0, b0, r0⟩ := rdOut_form x0
  obtain ⟨v2, b2, r2⟩ := rdOut_form x2
  obtain ⟨v4, b4, r4⟩ := rdOut_form x4
  have HV : Hid (pvV [x0, x1, x2] = .tuple #[.agg #[.int .i64 v0, .int .i64 v2, .int .i64 v4], .bool (b0 && (b2 && b4))]) := Lib.hid (by
    have := pv3_of r0 r2 r4
    rw [← hx4] at this; exact this)
  have H0 := Lib.hid r0; have H2 := Lib.hid r2; have H4 := Lib.hid r4
  have HX := Lib.hid hx4
  obtain ⟨b, off, rfl, hbl, hc⟩ := hR (by simp)
  have hcl : ∀ j, j < [x0, x1, x2].length → w.cell? ⟨b, off + j, none⟩ = some (.string ([x0, x1, x2].getD j ByteArray.empty)) := fun j hj => by
    have hj2 : j < 3 := hj
    obtain rfl | rfl | rfl : j = 0 ∨ j = 1 ∨ j = 2 := by omega
    · exact hc 0 x0 rfl 0 _ rfl
    · exact hc 1 x1 rfl 0 _ rfl
    · exact hc 2 x2 rfl 0 _ rfl
  have HCL := Lib.hid hcl
  clear r0 r2 r4 hc hR hcl hx4
  go_enter Tryz.func45, Tryz.ntmps45
  go_upto_region 1 with fail
  have hq1 : Below w.heap.size w (World.alloc w (.cells #[.int .i64 0, .int .i64 0, .int .i64 0] 25)) := bl1 w _
  have hZ : Blk (World.alloc w (.cells #[.int .i64 0, .int .i64 0, .int .i64 0] 25)) (w.heap.size) 25 #[.int .i64 0, .int .i64 0, .int .i64 0] := by repeat (first | exact Blk.new _ _ _ | exact Blk.new2 _ _ _ _ | exact Blk.new3 _ _ _ _ _ | exact Blk.new4 _ _ _ _ _ _ | refine Blk.alloc ?_ _)
  replace HT := HT.below hq1
  replace HE := HE.below hq1
  generalize World.alloc w (.cells #[.int .i64 0, .int .i64 0, .int .i64 0] 25) = wX at *
  have HB := hq1
  have z0 := (hZ.cell 0).trans (show _ = some (.int .i64 0) from rfl)
  have z1 := (hZ.cell 1).trans (show _ = some (.int .i64 0) from rfl)
  have z2 := (hZ.cell 2).trans (show _ = some (.int .i64 0) from rfl)
  have hz0' := hZ.lt
  go_wp2_with fail
  refine (Tryz.slices_Clone_string b off 3 c [x0, x1, x2] _ (Nat.le_refl _) (by decide) (fun j hj => (hq1.cell (p := ⟨b, off + j, none⟩) hbl).trans (HCL.out j hj))).mono ?_
  rintro e w1 ⟨v', rfl, hown, hvn, hb2⟩
  have hO : OwnV wX.heap.size 9 1 bC w1 v' [x0, x1, x2] := hown
  clear hown
  have HO := Lib.hid hO
  have hsz2 := hb2.size
  clear hO hvn
  go_upto_region 3 with ((at_builtin; refine wpList_app rfl _ _ 51 rfl wX.heap.size 9 i0 _ 1 16 Tryz.underlying51 hi hz0 hz1 hz2 rfl (by decide) bC bC_len bC_one _ [x0, x1, x2] rfl (HO.out.alloc _) (some ⟨w1.heap.size, 0, none⟩) 2 [(⟨#[119, 105, 116, 104]⟩ : ByteArray), (⟨#[48]⟩ : ByteArray)] rfl (rds_two _ _ _) (fun h => by cases h) (by unfold maxLen; simp) (by simp) (by simp; omega) ?_; intro v5 w4 hO4 hg4))
  have hO5 : OwnV wX.heap.size 9 1 bC w4 v5 [x0, x1, x2, (⟨#[119, 105, 116, 104]⟩ : ByteArray), (⟨#[48]⟩ : ByteArray)] := hO4
  have hq9 : Below wX.heap.size wX w4 := (bth hb2 (bl1 _ _)).trans (grown_below hg4 (by simp; omega) (fun k hk => (HO.out.lt k hk).1))
  obtain ⟨A', c', rfl, Q⟩ := own_five hO5
  rw [HX.out] at Q
  clear hO4 hO5 hg4
  have hq2 : Below wX.heap.size wX w4 := bth (by repeat (first | exact Below.refl _ _ | refine Below.alloc ?_ (by first | exact Nat.le_refl _ | (simp <;> omega)) _ | refine Below.setCell ?_ (by first | exact Nat.le_refl _ | (simp <;> omega)) _)) hq9
  replace HB := bth HB hq2
  replace HT := HT.below hq2
  replace HE := HE.below hq2
  replace hZ := hZ.below hq2 hZ.lt
  replace z0 := (hZ.cell 0).trans (show _ = some (.int .i64 0) from rfl)
  replace z1 := (hZ.cell 1).trans (show _ = some (.int .i64 0) from rfl)
  replace z2 := (hZ.cell 2).trans (show _ = some (.int .i64 0) from rfl)
  have HX0 : Hid (([x0, x1, x2, (⟨#[119, 105, 116, 104]⟩ : ByteArray), x4] : List ByteArray)[0]? = some x0) := Lib.hid rfl
  have L0 : Hid (0 < ([x0, x1, x2, (⟨#[119, 105, 116, 104]⟩ : ByteArray), x4] : List ByteArray).length) := Lib.hid (by simp)
  have HX2 : Hid (([x0, x1, x2, (⟨#[119, 105, 116, 104]⟩ : ByteArray), x4] : List ByteArray)[2]? = some x2) := Lib.hid rfl
  have L2 : Hid (2 < ([x0, x1, x2, (⟨#[119, 105, 116, 104]⟩ : ByteArray), x4] : List ByteArray).length) := Lib.hid (by simp)
  have HX4 : Hid (([x0, x1, x2, (⟨#[119, 105, 116, 104]⟩ : ByteArray), x4] : List ByteArray)[4]? = some x4) := Lib.hid rfl
  have L4 : Hid (4 < ([x0, x1, x2, (⟨#[119, 105, 116, 104]⟩ : ByteArray), x4] : List ByteArray).length) := Lib.hid (by simp)
  obtain ⟨bq, oq, y0, rfl, hbl, hy, hcy⟩ := Q.at_ (Below.refl _ _) (k := 0) L0.out
  skip
  obtain rfl : x0 = y0 := Option.some.inj (HX0.out.symm.trans hy)
  have q0 := hcy 0 _ rfl (Kin.self _)
  simp only [Nat.mul_one, Nat.add_zero, Kin.self] at q0
  clear hy hcy hbl
  have ll0 := L0.out
  go_wp2_with fail
  refine (iParseV_is x0 s0 v0 b0 H0.out _ (HT.below (by repeat (first | exact Below.refl _ _ | refine Below.alloc ?_ (by first | exact Nat.le_refl _ | (simp <;> omega)) _ | refine Below.setCell ?_ (by first | exact Nat.le_refl _ | (simp <;> omega)) _))) (HE.below (by repeat (first | exact Below.refl _ _ | refine Below.alloc ?_ (by first | exact Nat.le_refl _ | (simp <;> omega)) _ | refine Below.setCell ?_ (by first | exact Nat.le_refl _ | (simp <;> omega)) _)))).mono ?_
  rintro e w3 ⟨rfl, hb3⟩
  have hq3 : Below w4.heap.size w4 w3 := bth (by repeat (first | exact Below.refl _ _ | refine Below.alloc ?_ (by first | exact Nat.le_refl _ | (simp <;> omega)) _ | refine Below.setCell ?_ (by first | exact Nat.le_refl _ | (simp <;> omega)) _)) hb3
  replace HB := bth HB hq3
  replace HT := HT.below hq3
  replace HE := HE.below hq3
  replace Q := Q.below hq3
  replace hZ := hZ.below hq3 hZ.lt
  replace z0 := (hZ.cell 0).trans (show _ = some (.int .i64 0) from rfl)
  replace z1 := (hZ.cell 1).trans (show _ = some (.int .i64 0) from rfl)
  replace z2 := (hZ.cell 2).trans (show _ = some (.int .i64 0) from rfl)
  clear q0
  obtain ⟨b', o', y2, e', hbl, hy, hcy⟩ := Q.at_ (Below.refl _ _) (k := 2) L2.out
  simp only [Option.some.injEq, Addr.mk.injEq, and_true] at e'
  obtain ⟨rfl, rfl⟩ := e'
  obtain rfl : x2 = y2 := Option.some.inj (HX2.out.symm.trans hy)
  have q2 := hcy 0 _ rfl (Kin.self _)
  simp only [Nat.mul_one, Nat.add_zero, Kin.self] at q2
  clear hy hcy hbl
  have ll2 := L2.out
  go_wp2_with fail
  refine (iParseV_is x2 s2 v2 b2 H2.out _ (HT.below (by repeat (first | exact Below.refl _ _ | refine Below.alloc ?_ (by first | exact Nat.le_refl _ | (simp <;> omega)) _ | refine Below.setCell ?_ (by first | exact Nat.le_refl _ | (simp <;> omega)) _))) (HE.below (by repeat (first | exact Below.refl _ _ | refine Below.alloc ?_ (by first | exact Nat.le_refl _ | (simp <;> omega)) _ | refine Below.setCell ?_ (by first | exact Nat.le_refl _ | (simp <;> omega)) _)))).mono ?_
  rintro e w4 ⟨rfl, hb4⟩
  have hq4 : Below w3.heap.size w3 w4 := bth (by repeat (first | exact Below.refl _ _ | refine Below.alloc ?_ (by first | exact Nat.le_refl _ | (simp <;> omega)) _ | refine Below.setCell ?_ (by first | exact Nat.le_refl _ | (simp <;> omega)) _)) hb4
  replace HB := bth HB hq4
  replace HT := HT.below hq4
  replace HE := HE.below hq4
  replace Q := Q.below hq4
  replace hZ := hZ.below hq4 hZ.lt
  replace z0 := (hZ.cell 0).trans (show _ = some (.int .i64 0) from rfl)
  replace z1 := (hZ.cell 1).trans (show _ = some (.int .i64 0) from rfl)
  replace z2 := (hZ.cell 2).trans (show _ = some (.int .i64 0) from rfl)
  clear q2
  obtain ⟨b', o', y4, e', hbl, hy, hcy⟩ := Q.at_ (Below.refl _ _) (k := 4) L4.out
  simp only [Option.some.injEq, Addr.mk.injEq, and_true] at e'
  obtain ⟨rfl, rfl⟩ := e'
  obtain rfl : x4 = y4 := Option.some.inj (HX4.out.symm.trans hy)
  have q4 := hcy 0 _ rfl (Kin.self _)
  simp only [Nat.mul_one, Nat.add_zero, Kin.self] at q4
  clear hy hcy hbl
  have ll4 := L4.out
  go_wp2_with fail
  refine (iParseV_is x4 s4 v4 b4 H4.out _ (HT.below (by repeat (first | exact Below.refl _ _ | refine Below.alloc ?_ (by first | exact Nat.le_refl _ | (simp <;> omega)) _ | refine Below.setCell ?_ (by first | exact Nat.le_refl _ | (simp <;> omega)) _))) (HE.below (by repeat (first | exact Below.refl _ _ | refine Below.alloc ?_ (by first | exact Nat.le_refl _ | (simp <;> omega)) _ | refine Below.setCell ?_ (by first | exact Nat.le_refl _ | (simp <;> omega)) _)))).mono ?_
  rintro e w5 ⟨rfl, hb5⟩
  have hq5 : Below w4.heap.size w4 w5 := bth (by repeat (first | exact Below.refl _ _ | refine Below.alloc ?_ (by first | exact Nat.le_refl _ | (simp <;> omega)) _ | refine Below.setCell ?_ (by first | exact Nat.le_refl _ | (simp <;> omega)) _)) hb5
  replace HB := bth HB hq5
  replace HT := HT.below hq5
  replace HE := HE.below hq5
  replace Q := Q.below hq5
  replace hZ := hZ.below hq5 hZ.lt
  replace z0 := (hZ.cell 0).trans (show _ = some (.int .i64 0) from rfl)
  replace z1 := (hZ.cell 1).trans (show _ = some (.int .i64 0) from rfl)
  replace z2 := (hZ.cell 2).trans (show _ = some (.int .i64 0) from rfl)
  clear q4
  cases b0 <;> cases b2 <;> cases b4
  all_goals
    have fhZ0 := hZ.frozen 0
    have fhZ1 := hZ.frozen 1
    have fhZ2 := hZ.frozen 2
    have yhZ := hZ.lt
    go_wp2
    clear z0 z1 z2
    replace HB : Below w.heap.size w (World.setCell (World.setCell (World.setCell w5 ⟨w.heap.size, 0, none⟩ (.int .i64 v0)) ⟨w.heap.size, 1, none⟩ (.int .i64 v2)) ⟨w.heap.size, 2, none⟩ (.int .i64 v4)) := (((HB.setCell (by show w.heap.size ≤ w.heap.size; omega) (.int .i64 v0) (p := ⟨w.heap.size, 0, none⟩)).setCell (by show w.heap.size ≤ w.heap.size; omega) (.int .i64 v2) (p := ⟨w.heap.size, 1, none⟩)).setCell (by show w.heap.size ≤ w.heap.size; omega) (.int .i64 v4) (p := ⟨w.heap.size, 2, none⟩))
    replace hZ : Blk (World.setCell (World.setCell (World.setCell w5 ⟨w.heap.size, 0, none⟩ (.int .i64 v0)) ⟨w.heap.size, 1, none⟩ (.int .i64 v2)) ⟨w.heap.size, 2, none⟩ (.int .i64 v4)) (w.heap.size) 25 #[.int .i64 v0, .int .i64 v2, .int .i64 v4] := (((hZ.set_ 0 (.int .i64 v0)).set_ 1 (.int .i64 v2)).set_ 2 (.int .i64 v4))
    have szW9 : ((World.setCell (World.setCell (World.setCell w5 ⟨w.heap.size, 0, none⟩ (.int .i64 v0)) ⟨w.heap.size, 1, none⟩ (.int .i64 v2)) ⟨w.heap.size, 2, none⟩ (.int .i64 v4))).heap.size = w5.heap.size := by simp [World.setCell]
    generalize World.setCell (World.setCell (World.setCell w5 ⟨w.heap.size, 0, none⟩ (.int .i64 v0)) ⟨w.heap.size, 1, none⟩ (.int .i64 v2)) ⟨w.heap.size, 2, none⟩ (.int .i64 v4) = W9 at *
    have z0 := (hZ.cell 0).trans (show _ = some (.int .i64 v0) from rfl)
    have z1 := (hZ.cell 1).trans (show _ = some (.int .i64 v2) from rfl)
    have z2 := (hZ.cell 2).trans (show _ = some (.int .i64 v4) from rfl)
    refine bodyPost_ret (v := .tuple #[.agg #[.int .i64 v0, .int .i64 v2, .int .i64 v4], .bool _]) (by simp [results, Tryz.results45, go_sem, z0, z1, z2]; rfl) rfl ?_
    exact ⟨by rw [HV.out]; rfl, HB⟩
set_option maxHeartbeats 4000000 in
set_option maxRecDepth 100000 in
theorem parseVotes5_is (A : Option Addr) (c : Nat) (ws : List ByteArray) (hn : ws.length ≤ 1048577) (h5 : 5 ≤ ws.length) (hk : ∀ (k : Nat) (x : ByteArray), ws[k]? = some x → x.size ≤ 1048576) (w : World) (Q : Rds 1 bC w A ws) (HT : Tab w) (HE : Esy w) : Calls Tryz.prog 45 #[.slice A ws.length c] w fun e w' => e = .returned (pvV ws) ∧ Below w.heap.size w w' := by
  obtain ⟨x0, h0⟩ : ∃ x, ws[0]? = some x := ⟨_, List.getElem?_eq_getElem (by omega)⟩
  obtain ⟨x2, h2⟩ : ∃ x, ws[2]? = some x := ⟨_, List.getElem?_eq_getElem (by omega)⟩
  obtain ⟨x4, h4⟩ : ∃ x, ws[4]? = some x := ⟨_, List.getElem?_eq_getElem (by omega)⟩
  have s0 : x0.size ≤ maxLen := by have := hk 0 x0 h0; unfold maxLen; omega
  have s2 : x2.size ≤ maxLen := by have := hk 2 x2 h2; unfold maxLen; omega
  have s4 : x4.size ≤ maxLen := by have := hk 4 x4 h4; unfold maxLen; omega
  obtain ⟨v0, b0, r0⟩ := rdOut_form x0
  obtain ⟨v2, b2, r2⟩ := rdOut_form x2
  obtain ⟨v4, b4, r4⟩ := rdOut_form x4
  have HV : Hid (pvV ws = .tuple #[.agg #[.int .i64 v0, .int .i64 v2, .int .i64 v4], .bool (b0 && (b2 && b4))]) := Lib.hid (by rw [pvV_five h5 h0 h2 h4]; exact pv3_of r0 r2 r4)
  have H0 := Lib.hid r0; have H2 := Lib.hid r2; have H4 := Lib.hid r4
  have HX0 := Lib.hid h0; have HX2 := Lib.hid h2; have HX4 := Lib.hid h4
  have L0 : Hid (0 < ws.length) := Lib.hid (by omega)
  have L2 : Hid (2 < ws.length) := Lib.hid (by omega)
  have L4 : Hid (4 < ws.length) := Lib.hid (by omega)
  have n3 : ((ws.length : Int) == 3) = false := by rw [beq_eq_false_iff_ne]; omega
  have n5 : decide ((ws.length : Int) < 5) = false := by rw [decide_eq_false_iff_not]; omega
  clear r0 r2 r4 h0 h2 h4 hk
  go_enter Tryz.func45, Tryz.ntmps45
  go_upto_region 1 with fail
  have hq1 : Below w.heap.size w (World.alloc w (.cells #[.int .i64 0, .int .i64 0, .int .i64 0] 25)) := bl1 w _
  have hZ : Blk (World.alloc w (.cells #[.int .i64 0, .int .i64 0, .int .i64 0] 25)) (w.heap.size) 25 #[.int .i64 0, .int .i64 0, .int .i64 0] := by repeat (first | exact Blk.new _ _ _ | exact Blk.new2 _ _ _ _ | exact Blk.new3 _ _ _ _ _ | exact Blk.new4 _ _ _ _ _ _ | refine Blk.alloc ?_ _)
  replace Q := Q.below hq1
  replace HT := HT.below hq1
  replace HE := HE.below hq1
  generalize World.alloc w (.cells #[.int .i64 0, .int .i64 0, .int .i64 0] 25) = wX at *
  have HB := hq1
  have z0 := (hZ.cell 0).trans (show _ = some (.int .i64 0) from rfl)
  have z1 := (hZ.cell 1).trans (show _ = some (.int .i64 0) from rfl)
  have z2 := (hZ.cell 2).trans (show _ = some (.int .i64 0) from rfl)
  have hz0' := hZ.lt
  obtain ⟨bq, oq, y0, rfl, hbl, hy, hcy⟩ := Q.at_ (Below.refl _ _) (k := 0) L0.out
  skip
  obtain rfl : x0 = y0 := Option.some.inj (HX0.out.symm.trans hy)
  have q0 := hcy 0 _ rfl (Kin.self _)
  simp only [Nat.mul_one, Nat.add_zero, Kin.self] at q0
  clear hy hcy hbl
  have ll0 := L0.out
  go_wp2_with fail
  refine (iParseV_is x0 s0 v0 b0 H0.out _ (HT.below (by repeat (first | exact Below.refl _ _ | refine Below.alloc ?_ (by first | exact Nat.le_refl _ | (simp <;> omega)) _ | refine Below.setCell ?_ (by first | exact Nat.le_refl _ | (simp <;> omega)) _))) (HE.below (by repeat (first | exact Below.refl _ _ | refine Below.alloc ?_ (by first | exact Nat.le_refl _ | (simp <;> omega)) _ | refine Below.setCell ?_ (by first | exact Nat.le_refl _ | (simp <;> omega)) _)))).mono ?_
  rintro e w2 ⟨rfl, hb2⟩
  have hq2 : Below wX.heap.size wX w2 := bth (by repeat (first | exact Below.refl _ _ | refine Below.alloc ?_ (by first | exact Nat.le_refl _ | (simp <;> omega)) _ | refine Below.setCell ?_ (by first | exact Nat.le_refl _ | (simp <;> omega)) _)) hb2
  replace HB := bth HB hq2
  replace Q := Q.below hq2
  replace HT := HT.below hq2
  replace HE := HE.below hq2
  replace hZ := hZ.below hq2 hZ.lt
  replace z0 := (hZ.cell 0).trans (show _ = some (.int .i64 0) from rfl)
  replace z1 := (hZ.cell 1).trans (show _ = some (.int .i64 0) from rfl)
  replace z2 := (hZ.cell 2).trans (show _ = some (.int .i64 0) from rfl)
  clear q0
  obtain ⟨b', o', y2, e', hbl, hy, hcy⟩ := Q.at_ (Below.refl _ _) (k := 2) L2.out
  simp only [Option.some.injEq, Addr.mk.injEq, and_true] at e'
  obtain ⟨rfl, rfl⟩ := e'
  obtain rfl : x2 = y2 := Option.some.inj (HX2.out.symm.trans hy)
  have q2 := hcy 0 _ rfl (Kin.self _)
  simp only [Nat.mul_one, Nat.add_zero, Kin.self] at q2
  clear hy hcy hbl
  have ll2 := L2.out
  go_wp2_with fail
  refine (iParseV_is x2 s2 v2 b2 H2.out _ (HT.below (by repeat (first | exact Below.refl _ _ | refine Below.alloc ?_ (by first | exact Nat.le_refl _ | (simp <;> omega)) _ | refine Below.setCell ?_ (by first | exact Nat.le_refl _ | (simp <;> omega)) _))) (HE.below (by repeat (first | exact Below.refl _ _ | refine Below.alloc ?_ (by first | exact Nat.le_refl _ | (simp <;> omega)) _ | refine Below.setCell ?_ (by first | exact Nat.le_refl _ | (simp <;> omega)) _)))).mono ?_
  rintro e w3 ⟨rfl, hb3⟩
  have hq3 : Below w2.heap.size w2 w3 := bth (by repeat (first | exact Below.refl _ _ | refine Below.alloc ?_ (by first | exact Nat.le_refl _ | (simp <;> omega)) _ | refine Below.setCell ?_ (by first | exact Nat.le_refl _ | (simp <;> omega)) _)) hb3
  replace HB := bth HB hq3
  replace Q := Q.below hq3
  replace HT := HT.below hq3
  replace HE := HE.below hq3
  replace hZ := hZ.below hq3 hZ.lt
  replace z0 := (hZ.cell 0).trans (show _ = some (.int .i64 0) from rfl)
  replace z1 := (hZ.cell 1).trans (show _ = some (.int .i64 0) from rfl)
  replace z2 := (hZ.cell 2).trans (show _ = some (.int .i64 0) from rfl)
  clear q2
  obtain ⟨b', o', y4, e', hbl, hy, hcy⟩ := Q.at_ (Below.refl _ _) (k := 4) L4.out
  simp only [Option.some.injEq, Addr.mk.injEq, and_true] at e'
  obtain ⟨rfl, rfl⟩ := e'
  obtain rfl : x4 = y4 := Option.some.inj (HX4.out.symm.trans hy)
  have q4 := hcy 0 _ rfl (Kin.self _)
  simp only [Nat.mul_one, Nat.add_zero, Kin.self] at q4
  clear hy hcy hbl
  have ll4 := L4.out
  go_wp2_with fail
  refine (iParseV_is x4 s4 v4 b4 H4.out _ (HT.below (by repeat (first | exact Below.refl _ _ | refine Below.alloc ?_ (by first | exact Nat.le_refl _ | (simp <;> omega)) _ | refine Below.setCell ?_ (by first | exact Nat.le_refl _ | (simp <;> omega)) _))) (HE.below (by repeat (first | exact Below.refl _ _ | refine Below.alloc ?_ (by first | exact Nat.le_refl _ | (simp <;> omega)) _ | refine Below.setCell ?_ (by first | exact Nat.le_refl _ | (simp <;> omega)) _)))).mono ?_
  rintro e w4 ⟨rfl, hb4⟩
  have hq4 : Below w3.heap.size w3 w4 := bth (by repeat (first | exact Below.refl _ _ | refine Below.alloc ?_ (by first | exact Nat.le_refl _ | (simp <;> omega)) _ | refine Below.setCell ?_ (by first | exact Nat.le_refl _ | (simp <;> omega)) _)) hb4
  replace HB := bth HB hq4
  replace Q := Q.below hq4
  replace HT := HT.below hq4
  replace HE := HE.below hq4
  replace hZ := hZ.below hq4 hZ.lt
  replace z0 := (hZ.cell 0).trans (show _ = some (.int .i64 0) from rfl)
  replace z1 := (hZ.cell 1).trans (show _ = some (.int .i64 0) from rfl)
  replace z2 := (hZ.cell 2).trans (show _ = some (.int .i64 0) from rfl)
  clear q4
  cases b0 <;> cases b2 <;> cases b4
  all_goals
    have fhZ0 := hZ.frozen 0
    have fhZ1 := hZ.frozen 1
    have fhZ2 := hZ.frozen 2
    have yhZ := hZ.lt
    go_wp2
    clear z0 z1 z2
    replace HB : Below w.heap.size w (World.setCell (World.setCell (World.setCell w4 ⟨w.heap.size, 0, none⟩ (.int .i64 v0)) ⟨w.heap.size, 1, none⟩ (.int .i64 v2)) ⟨w.heap.size, 2, none⟩ (.int .i64 v4)) := (((HB.setCell (by show w.heap.size ≤ w.heap.size; omega) (.int .i64 v0) (p := ⟨w.heap.size, 0, none⟩)).setCell (by show w.heap.size ≤ w.heap.size; omega) (.int .i64 v2) (p := ⟨w.heap.size, 1, none⟩)).setCell (by show w.heap.size ≤ w.heap.size; omega) (.int .i64 v4) (p := ⟨w.heap.size, 2, none⟩))
    replace hZ : Blk (World.setCell (World.setCell (World.setCell w4 ⟨w.heap.size, 0, none⟩ (.int .i64 v0)) ⟨w.heap.size, 1, none⟩ (.int .i64 v2)) ⟨w.heap.size, 2, none⟩ (.int .i64 v4)) (w.heap.size) 25 #[.int .i64 v0, .int .i64 v2, .int .i64 v4] := (((hZ.set_ 0 (.int .i64 v0)).set_ 1 (.int .i64 v2)).set_ 2 (.int .i64 v4))
    have szW9 : ((World.setCell (World.setCell (World.setCell w4 ⟨w.heap.size, 0, none⟩ (.int .i64 v0)) ⟨w.heap.size, 1, none⟩ (.int .i64 v2)) ⟨w.heap.size, 2, none⟩ (.int .i64 v4))).heap.size = w4.heap.size := by simp [World.setCell]
    generalize World.setCell (World.setCell (World.setCell w4 ⟨w.heap.size, 0, none⟩ (.int .i64 v0)) ⟨w.heap.size, 1, none⟩ (.int .i64 v2)) ⟨w.heap.size, 2, none⟩ (.int .i64 v4) = W9 at *
    have z0 := (hZ.cell 0).trans (show _ = some (.int .i64 v0) from rfl)
    have z1 := (hZ.cell 1).trans (show _ = some (.int .i64 v2) from rfl)
    have z2 := (hZ.cell 2).trans (show _ = some (.int .i64 v4) from rfl)
    refine bodyPost_ret (v := .tuple #[.agg #[.int .i64 v0, .int .i64 v2, .int .i64 v4], .bool _]) (by simp [results, Tryz.results45, go_sem, z0, z1, z2]; rfl) rfl ?_
    exact ⟨by rw [HV.out]; rfl, HB⟩
set_option maxHeartbeats 4000000 in
set_option maxRecDepth 100000 in
theorem parseVotesN_is (A : Option Addr) (c : Nat) (ws : List ByteArray) (hn : ws.length ≤ 1048577) (h3 : ws.length ≠ 3) (h5 : ws.length < 5) (w : World) : Calls Tryz.prog 45 #[.slice A ws.length c] w fun e w' => e = .returned (pvV ws) ∧ Below w.heap.size w w' := by
  rw [pvV_few h3 h5]
  have n3 : ((ws.length : Int) == 3) = false := by rw [beq_eq_false_iff_ne]; omega
  go_enter Tryz.func45, Tryz.ntmps45
  go_upto_region 1 with fail
  have hq1 : Below w.heap.size w (World.alloc w (.cells #[.int .i64 0, .int .i64 0, .int .i64 0] 25)) := bl1 w _
  have hZ : Blk (World.alloc w (.cells #[.int .i64 0, .int .i64 0, .int .i64 0] 25)) (w.heap.size) 25 #[.int .i64 0, .int .i64 0, .int .i64 0] := by repeat (first | exact Blk.new _ _ _ | exact Blk.new2 _ _ _ _ | exact Blk.new3 _ _ _ _ _ | exact Blk.new4 _ _ _ _ _ _ | refine Blk.alloc ?_ _)
  generalize World.alloc w (.cells #[.int .i64 0, .int .i64 0, .int .i64 0] 25) = wX at *
  have HB := hq1
  have z0 := (hZ.cell 0).trans (show _ = some (.int .i64 0) from rfl)
  have z1 := (hZ.cell 1).trans (show _ = some (.int .i64 0) from rfl)
  have z2 := (hZ.cell 2).trans (show _ = some (.int .i64 0) from rfl)
  have fhZ0 := hZ.frozen 0
  have fhZ1 := hZ.frozen 1
  have fhZ2 := hZ.frozen 2
  have yhZ := hZ.lt
  go_wp2
  clear z0 z1 z2
  replace HB : Below w.heap.size w (World.setCell (World.setCell (World.setCell wX ⟨w.heap.size, 0, none⟩ (.int .i64 0)) ⟨w.heap.size, 1, none⟩ (.int .i64 0)) ⟨w.heap.size, 2, none⟩ (.int .i64 0)) := (((HB.setCell (by show w.heap.size ≤ w.heap.size; omega) (.int .i64 0) (p := ⟨w.heap.size, 0, none⟩)).setCell (by show w.heap.size ≤ w.heap.size; omega) (.int .i64 0) (p := ⟨w.heap.size, 1, none⟩)).setCell (by show w.heap.size ≤ w.heap.size; omega) (.int .i64 0) (p := ⟨w.heap.size, 2, none⟩))
  replace hZ : Blk (World.setCell (World.setCell (World.setCell wX ⟨w.heap.size, 0, none⟩ (.int .i64 0)) ⟨w.heap.size, 1, none⟩ (.int .i64 0)) ⟨w.heap.size, 2, none⟩ (.int .i64 0)) (w.heap.size) 25 #[.int .i64 0, .int .i64 0, .int .i64 0] := (((hZ.set_ 0 (.int .i64 0)).set_ 1 (.int .i64 0)).set_ 2 (.int .i64 0))
  have szW9 : ((World.setCell (World.setCell (World.setCell wX ⟨w.heap.size, 0, none⟩ (.int .i64 0)) ⟨w.heap.size, 1, none⟩ (.int .i64 0)) ⟨w.heap.size, 2, none⟩ (.int .i64 0))).heap.size = wX.heap.size := by simp [World.setCell]
  generalize World.setCell (World.setCell (World.setCell wX ⟨w.heap.size, 0, none⟩ (.int .i64 0)) ⟨w.heap.size, 1, none⟩ (.int .i64 0)) ⟨w.heap.size, 2, none⟩ (.int .i64 0) = W9 at *
  have z0 := (hZ.cell 0).trans (show _ = some (.int .i64 0) from rfl)
  have z1 := (hZ.cell 1).trans (show _ = some (.int .i64 0) from rfl)
  have z2 := (hZ.cell 2).trans (show _ = some (.int .i64 0) from rfl)
  refine bodyPost_ret (v := .tuple #[.agg #[.int .i64 0, .int .i64 0, .int .i64 0], .bool false]) (by simp [results, Tryz.results45, go_sem, z0, z1, z2]) rfl ?_
  exact ⟨rfl, HB⟩
theorem parseVotes_is (A : Option Addr) (c : Nat) (ws : List ByteArray) (hn : ws.length ≤ 1048577) (hk : ∀ (k : Nat) (x : ByteArray), ws[k]? = some x → x.size ≤ 1048576) (v : Value) (hv : pvV ws = v) (w : World) (Q : Rds 1 bC w A ws) (HT : Tab w) (HE : Esy w) : Calls Tryz.prog 45 #[.slice A ws.length c] w fun e w' => e = .returned v ∧ Below w.heap.size w w' := by
  rw [← hv]
  by_cases h3 : ws.length = 3
  · match ws, h3 with
    | [x0, x1, x2], _ => exact parseVotes3_is A c x0 x1 x2 (hk 0 _ rfl) (hk 2 _ rfl) w Q HT HE
  · by_cases h5 : ws.length < 5
    · exact parseVotesN_is A c ws hn h3 h5 w
    · exact parseVotes5_is A c ws hn (by omega) hk w Q HT HE
end Go.Proofs.YtbnncgahepcfnaaGreatDoor
