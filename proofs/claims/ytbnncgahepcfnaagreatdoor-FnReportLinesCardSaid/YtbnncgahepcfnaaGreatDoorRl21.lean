/- The law of report lines: results and reports are recovered from their lines. -/
import Derived.Test.YtbnncgahepcfnaaGreatDoorRl19
import Derived.Test.YtbnncgahepcfnaaGreatDoorRl17
import Derived.Test.YtbnncgahepcfnaaGreatDoorRl20
import Derived.Deep.Cut
namespace Go.Proofs.YtbnncgahepcfnaaGreatDoor
open Go.RowKit Go.G9
set_option maxHeartbeats 1000000 in
theorem rResults_is (A A' : Option Addr) (c c' : Nat) (xs : List Res) (hn : xs.length ≤ 1048576) (w : World) (hR : Rds 5 Res.cells w A xs) (hR' : Rds 5 Res.cells w A' xs) :
  Calls Tryz.prog 17 #[.slice A xs.length c, .slice A' xs.length c'] w fun e w' => e = .returned (.bool true) ∧ Below w.heap.size w w' := by
  go_enter Tryz.func17, Tryz.ntmps17
  go_wp2
  go_loopw [5] (fun i wr => ∃ (k : Nat), k ≤ xs.length ∧ i = .int .i64 k ∧ Below w.heap.size w wr) (fun i _ => xs.length - (intOf i).toNat)
  case atStart => exact ⟨0, Nat.zero_le _, rfl, Below.refl _ _⟩
  case round =>
    obtain ⟨k, hk, rfl, hb⟩ := hrel
    by_cases hlt : k < xs.length
    · obtain ⟨b, off, x, rfl, hbl, hx, hcx⟩ := hR.at_ hb hlt
      obtain ⟨b', off', x', rfl, _, hx', hcx'⟩ := hR'.at_ hb hlt
      obtain rfl : x = x' := Option.some.inj (hx.symm.trans hx')
      obtain ⟨m, nd, y, n, a, hs⟩ := x
      have f0 := hcx 0 _ rfl
      have f1 := hcx 1 _ rfl
      have f2 := hcx 2 _ rfl
      have f3 := hcx 3 _ rfl
      have f4 := hcx 4 _ rfl
      simp only [Nat.add_zero] at f0
      have e0 := hcx' 0 _ rfl
      have e1 := hcx' 1 _ rfl
      have e2 := hcx' 2 _ rfl
      have e3 := hcx' 3 _ rfl
      have e4 := hcx' 4 _ rfl
      simp only [Nat.add_zero] at e0
      clear hx hcx hx' hcx'
      go_wp2
      refine wp_region_kin (by kernel_rfl) (by kernel_rfl) ?_
      repeat (go_big_quiet_step ((fail)))
      refine wpQuiet_nil ?_
      intro K
      go_wp2
      go_roundw
      case rel => exact ⟨k + 1, by omega, by go_num, bth hb K.below⟩
      case measure => simp [intOf]; omega
    · go_wp2
      go_ret
      exact ⟨rfl, hb⟩
theorem Tbz.tp {w : World} (h : Tbz w) : TabP w := ⟨h.1, h.2.2.2.phr⟩
theorem iPOV_is (s : ByteArray) (hs : s.size ≤ 1048576) (v : Value) (hv : resV (poO s) = v) (w : World) (HT : Tbz w) : Calls Tryz.prog 9 #[.string s] w fun e w' => e = .returned v ∧ Below w.heap.size w w' := by
  subst hv; exact iParseOutcome_is s hs w HT.1 HT.2.1 HT.2.2.1 HT.2.2.2
theorem sPOV_is (s : ByteArray) (hs : s.size ≤ 1048576) (v : Value) (hv : resV (poO s) = v) (w : World) : Calls Tryz.prog 11 #[.string s] w fun e w' => e = .returned v ∧ Below w.heap.size w w' := by
  subst hv; exact sParseOutcome_is s hs w
theorem iPRV_is (s : ByteArray) (hs : s.size ≤ 1048576) (L : List Res) (hL : prL s = L) (b : Bool) (hb : prB s = b) (w : World) (HT : Tbz w) : Calls Tryz.prog 16 #[.string s] w fun e w' => ∃ A m, e = .returned (.tuple #[.slice A L.length m, .bool b]) ∧ OwnV w.heap.size 27 5 Res.cells w' (.slice A L.length m) L ∧ Below w.heap.size w w' := by
  subst hL; subst hb; exact iParseReportZ_is s hs w HT
theorem sPRV_is (s : ByteArray) (hs : s.size ≤ 1048576) (L : List Res) (hL : prL s = L) (b : Bool) (hb : prB s = b) (w : World) : Calls Tryz.prog 19 #[.string s] w fun e w' => ∃ A m, e = .returned (.tuple #[.slice A L.length m, .bool b]) ∧ OwnV w.heap.size 27 5 Res.cells w' (.slice A L.length m) L ∧ Below w.heap.size w w' := by
  subst hL; subst hb; exact sParseReport_is s hs w
set_option maxHeartbeats 16000000 in
set_option maxRecDepth 100000 in
theorem law_reportLines (A : Option Addr) (c : Nat) (cs : List UInt8) (w : World) (hR : Rds 1 u8C w A cs) (HT : Tbz w) :
  Calls Tryz.prog 3 #[.slice A cs.length c] w fun e w' => e = .returned (.bool true) ∧ Below w.heap.size w w' := by
  cases hv : decide (65536 < cs.length)
  case true =>
    go_enter Tryz.func3, Tryz.ntmps3
    go_wp2_with fail
    refine (rBigR_is A c cs.length _ hv _).mono ?_
    rintro e _ ⟨rfl, rfl⟩
    go_wp2
    go_ret
    exact ⟨rfl, (by repeat (first | exact Below.refl _ _ | refine Below.alloc ?_ (by first | exact Nat.le_refl _ | (simp <;> omega)) _ | refine Below.setCell ?_ (by first | exact Nat.le_refl _ | (simp <;> omega)) _))⟩
  have hcs : cs.length ≤ 1048576 := by have := of_decide_eq_false hv; omega
  go_enter Tryz.func3, Tryz.ntmps3
  go_wp2_with fail
  refine (rBigR_is A c cs.length _ hv _).mono ?_
  rintro e w0 ⟨rfl, h0⟩
  rw [h0]
  clear h0 w0
  go_wp2_with fail
  refine (drawOutcomeLine_is A c cs hcs _ (hR.below (by repeat (first | exact Below.refl _ _ | refine Below.alloc ?_ (by first | exact Nat.le_refl _ | (simp <;> omega)) _ | refine Below.setCell ?_ (by first | exact Nat.le_refl _ | (simp <;> omega)) _)))).mono ?_
  rintro e w1 ⟨m, nd, y, n, ab, rfl, hm, hb1⟩
  have hq1 : Below w.heap.size w w1 := bth (by repeat (first | exact Below.refl _ _ | refine Below.alloc ?_ (by first | exact Nat.le_refl _ | (simp <;> omega)) _ | refine Below.setCell ?_ (by first | exact Nat.le_refl _ | (simp <;> omega)) _)) hb1
  have HB : Below w.heap.size w w1 := hq1
  replace hR := hR.below hq1
  replace HT := HT.below hq1
  have hml : m.size ≤ maxLen := by unfold maxLen; omega
  cases hr : resB ⟨m, nd, y, n, ab, hml⟩
  · have EO : Hid (olOut ⟨m, nd, y, n, ab, hml⟩ = .tuple #[.string ⟨#[]⟩, .bool false]) := Lib.hid (by simp [olOut, hr])
    clear hr
    go_wp2_with fail
    refine (iOutcomeLine_is ⟨m, nd, y, n, ab, hml⟩ _ EO.out _ (Tbz.tp (HT.below (by repeat (first | exact Below.refl _ _ | refine Below.alloc ?_ (by first | exact Nat.le_refl _ | (simp <;> omega)) _ | refine Below.setCell ?_ (by first | exact Nat.le_refl _ | (simp <;> omega)) _))))).mono ?_
    rintro e w2 ⟨rfl, hb2⟩
    have hq2 : Below w1.heap.size w1 w2 := bth (by repeat (first | exact Below.refl _ _ | refine Below.alloc ?_ (by first | exact Nat.le_refl _ | (simp <;> omega)) _ | refine Below.setCell ?_ (by first | exact Nat.le_refl _ | (simp <;> omega)) _)) hb2
    replace HB := bth HB hq2
    replace hR := hR.below hq2
    replace HT := HT.below hq2
    have hW : Blk w2 (w1.heap.size) 27 #[.string m, .int .i64 nd, .int .i64 y, .int .i64 n, .int .i64 ab] := Blk.below (by repeat (first | exact Blk.new _ _ _ | exact Blk.new2 _ _ _ _ | exact Blk.new3 _ _ _ _ _ | exact Blk.new4 _ _ _ _ _ _ | refine Blk.alloc ?_ _)) hb2 (by simp <;> omega)
    have x0 := (hW.cell 0).trans (show _ = some (.string m) from rfl)
    have x1 := (hW.cell 1).trans (show _ = some (.int .i64 nd) from rfl)
    have x2 := (hW.cell 2).trans (show _ = some (.int .i64 y) from rfl)
    have x3 := (hW.cell 3).trans (show _ = some (.int .i64 n) from rfl)
    have x4 := (hW.cell 4).trans (show _ = some (.int .i64 ab) from rfl)
    have hwl := hW.lt
    go_wp2_with fail
    refine (sOutcomeLine_is ⟨m, nd, y, n, ab, hml⟩ _ EO.out _).mono ?_
    rintro e w3 ⟨rfl, hb3⟩
    have hq3 : Below w2.heap.size w2 w3 := bth (by repeat (first | exact Below.refl _ _ | refine Below.alloc ?_ (by first | exact Nat.le_refl _ | (simp <;> omega)) _ | refine Below.setCell ?_ (by first | exact Nat.le_refl _ | (simp <;> omega)) _)) hb3
    replace HB := bth HB hq3
    replace hR := hR.below hq3
    replace HT := HT.below hq3
    replace hW := hW.below hq3 hW.lt
    replace x0 := (hW.cell 0).trans (show _ = some (.string m) from rfl)
    replace x1 := (hW.cell 1).trans (show _ = some (.int .i64 nd) from rfl)
    replace x2 := (hW.cell 2).trans (show _ = some (.int .i64 y) from rfl)
    replace x3 := (hW.cell 3).trans (show _ = some (.int .i64 n) from rfl)
    replace x4 := (hW.cell 4).trans (show _ = some (.int .i64 ab) from rfl)
    obtain ⟨m1, nd1, y1, n1, a1, b1, hv1⟩ := resV_form (poO ⟨#[]⟩)
    have HV1 := Lib.hid hv1; clear hv1
    go_wp2_with fail
    refine (iPOV_is ⟨#[]⟩ (by decide) _ HV1.out _ (HT.below (by repeat (first | exact Below.refl _ _ | refine Below.alloc ?_ (by first | exact Nat.le_refl _ | (simp <;> omega)) _ | refine Below.setCell ?_ (by first | exact Nat.le_refl _ | (simp <;> omega)) _)))).mono ?_
    rintro e w4 ⟨rfl, hb4⟩
    have hq4 : Below w3.heap.size w3 w4 := bth (by repeat (first | exact Below.refl _ _ | refine Below.alloc ?_ (by first | exact Nat.le_refl _ | (simp <;> omega)) _ | refine Below.setCell ?_ (by first | exact Nat.le_refl _ | (simp <;> omega)) _)) hb4
    replace HB := bth HB hq4
    replace hR := hR.below hq4
    replace HT := HT.below hq4
    replace hW := hW.below hq4 hW.lt
    replace x0 := (hW.cell 0).trans (show _ = some (.string m) from rfl)
    replace x1 := (hW.cell 1).trans (show _ = some (.int .i64 nd) from rfl)
    replace x2 := (hW.cell 2).trans (show _ = some (.int .i64 y) from rfl)
    replace x3 := (hW.cell 3).trans (show _ = some (.int .i64 n) from rfl)
    replace x4 := (hW.cell 4).trans (show _ = some (.int .i64 ab) from rfl)
    have hwl4 := hW.lt
    go_wp2_with fail
    refine (drawParseOutcome_is A c cs hcs _ (hR.below (by repeat (first | exact Below.refl _ _ | refine Below.alloc ?_ (by first | exact Nat.le_refl _ | (simp <;> omega)) _ | refine Below.setCell ?_ (by first | exact Nat.le_refl _ | (simp <;> omega)) _)))).mono ?_
    rintro e w5 ⟨t, rfl, ht, hb5⟩
    have hq5 : Below w4.heap.size w4 w5 := bth (by repeat (first | exact Below.refl _ _ | refine Below.alloc ?_ (by first | exact Nat.le_refl _ | (simp <;> omega)) _ | refine Below.setCell ?_ (by first | exact Nat.le_refl _ | (simp <;> omega)) _)) hb5
    replace HB := bth HB hq5
    replace hR := hR.below hq5
    replace HT := HT.below hq5
    replace hW := hW.below hq5 hW.lt
    replace x0 := (hW.cell 0).trans (show _ = some (.string m) from rfl)
    replace x1 := (hW.cell 1).trans (show _ = some (.int .i64 nd) from rfl)
    replace x2 := (hW.cell 2).trans (show _ = some (.int .i64 y) from rfl)
    replace x3 := (hW.cell 3).trans (show _ = some (.int .i64 n) from rfl)
    replace x4 := (hW.cell 4).trans (show _ = some (.int .i64 ab) from rfl)
    clear x0 x1 x2 x3 x4
    obtain ⟨m2, nd2, y2, n2, a2, b2, hv2⟩ := resV_form (poO t)
    have HV2 := Lib.hid hv2; clear hv2
    go_wp2_with fail
    refine (iPOV_is t (by omega) _ HV2.out _ (HT.below (by repeat (first | exact Below.refl _ _ | refine Below.alloc ?_ (by first | exact Nat.le_refl _ | (simp <;> omega)) _ | refine Below.setCell ?_ (by first | exact Nat.le_refl _ | (simp <;> omega)) _)))).mono ?_
    rintro e w6 ⟨rfl, hb6⟩
    have hq6 : Below w5.heap.size w5 w6 := bth (by repeat (first | exact Below.refl _ _ | refine Below.alloc ?_ (by first | exact Nat.le_refl _ | (simp <;> omega)) _ | refine Below.setCell ?_ (by first | exact Nat.le_refl _ | (simp <;> omega)) _)) hb6
    replace HB := bth HB hq6
    replace hR := hR.below hq6
    replace HT := HT.below hq6
    go_wp2_with fail
    refine (sPOV_is t (by omega) _ HV2.out _).mono ?_
    rintro e w7 ⟨rfl, hb7⟩
    have hq7 : Below w6.heap.size w6 w7 := bth (by repeat (first | exact Below.refl _ _ | refine Below.alloc ?_ (by first | exact Nat.le_refl _ | (simp <;> omega)) _ | refine Below.setCell ?_ (by first | exact Nat.le_refl _ | (simp <;> omega)) _)) hb7
    replace HB := bth HB hq7
    replace hR := hR.below hq7
    replace HT := HT.below hq7
    have hX2 : Blk w7 (w6.heap.size) 27 #[.string m2, .int .i64 nd2, .int .i64 y2, .int .i64 n2, .int .i64 a2] := Blk.below (by repeat (first | exact Blk.new _ _ _ | exact Blk.new2 _ _ _ _ | exact Blk.new3 _ _ _ _ _ | exact Blk.new4 _ _ _ _ _ _ | refine Blk.alloc ?_ _)) hb7 (by simp <;> omega)
    have v0 := (hX2.cell 0).trans (show _ = some (.string m2) from rfl)
    have v1 := (hX2.cell 1).trans (show _ = some (.int .i64 nd2) from rfl)
    have v2 := (hX2.cell 2).trans (show _ = some (.int .i64 y2) from rfl)
    have v3 := (hX2.cell 3).trans (show _ = some (.int .i64 n2) from rfl)
    have v4 := (hX2.cell 4).trans (show _ = some (.int .i64 a2) from rfl)
    have hwl2 := hX2.lt
    go_wp2_with fail
    refine (drawReportText_is A c cs hcs _ (hR.below (by repeat (first | exact Below.refl _ _ | refine Below.alloc ?_ (by first | exact Nat.le_refl _ | (simp <;> omega)) _ | refine Below.setCell ?_ (by first | exact Nat.le_refl _ | (simp <;> omega)) _)))).mono ?_
    rintro e w8 ⟨xs, Y, yc, rfl, hl, hO, hb8⟩
    have hq8 : Below w7.heap.size w7 w8 := bth (by repeat (first | exact Below.refl _ _ | refine Below.alloc ?_ (by first | exact Nat.le_refl _ | (simp <;> omega)) _ | refine Below.setCell ?_ (by first | exact Nat.le_refl _ | (simp <;> omega)) _)) hb8
    replace HB := bth HB hq8
    replace hR := hR.below hq8
    replace HT := HT.below hq8
    replace hX2 := hX2.below hq8 hX2.lt
    replace v0 := (hX2.cell 0).trans (show _ = some (.string m2) from rfl)
    replace v1 := (hX2.cell 1).trans (show _ = some (.int .i64 nd2) from rfl)
    replace v2 := (hX2.cell 2).trans (show _ = some (.int .i64 y2) from rfl)
    replace v3 := (hX2.cell 3).trans (show _ = some (.int .i64 n2) from rfl)
    replace v4 := (hX2.cell 4).trans (show _ = some (.int .i64 a2) from rfl)
    clear v0 v1 v2 v3 v4
    have RX := hO.rds (hf := res_len)
    clear hO
    have hn : xs.length ≤ 1048576 := by omega
    cases hrep : reportB xs
    · have ER : Hid (rtOut xs = .tuple #[.string ⟨#[]⟩, .bool false]) := Lib.hid (by simp [rtOut, hrep])
      have HREP := Lib.hid hrep; clear hrep
      go_wp2_with fail
      refine (iReportText_is Y yc xs hn _ ER.out _ (RX.below (by repeat (first | exact Below.refl _ _ | refine Below.alloc ?_ (by first | exact Nat.le_refl _ | (simp <;> omega)) _ | refine Below.setCell ?_ (by first | exact Nat.le_refl _ | (simp <;> omega)) _))) (Tbz.tp (HT.below (by repeat (first | exact Below.refl _ _ | refine Below.alloc ?_ (by first | exact Nat.le_refl _ | (simp <;> omega)) _ | refine Below.setCell ?_ (by first | exact Nat.le_refl _ | (simp <;> omega)) _))))).mono ?_
      rintro e w9 ⟨rfl, hb9⟩
      have hq9 : Below w8.heap.size w8 w9 := bth (by repeat (first | exact Below.refl _ _ | refine Below.alloc ?_ (by first | exact Nat.le_refl _ | (simp <;> omega)) _ | refine Below.setCell ?_ (by first | exact Nat.le_refl _ | (simp <;> omega)) _)) hb9
      replace HB := bth HB hq9
      replace hR := hR.below hq9
      replace HT := HT.below hq9
      replace RX := RX.below hq9
      go_wp2_with fail
      refine (sReportText_is Y yc xs hn _ ER.out _ (RX.below (by repeat (first | exact Below.refl _ _ | refine Below.alloc ?_ (by first | exact Nat.le_refl _ | (simp <;> omega)) _ | refine Below.setCell ?_ (by first | exact Nat.le_refl _ | (simp <;> omega)) _)))).mono ?_
      rintro e w10 ⟨rfl, hb10⟩
      have hq10 : Below w9.heap.size w9 w10 := bth (by repeat (first | exact Below.refl _ _ | refine Below.alloc ?_ (by first | exact Nat.le_refl _ | (simp <;> omega)) _ | refine Below.setCell ?_ (by first | exact Nat.le_refl _ | (simp <;> omega)) _)) hb10
      replace HB := bth HB hq10
      replace hR := hR.below hq10
      replace HT := HT.below hq10
      replace RX := RX.below hq10
      go_wp2_with fail
      refine (isReport_is Y yc xs hn _ HREP.out _ (RX.below (by repeat (first | exact Below.refl _ _ | refine Below.alloc ?_ (by first | exact Nat.le_refl _ | (simp <;> omega)) _ | refine Below.setCell ?_ (by first | exact Nat.le_refl _ | (simp <;> omega)) _)))).mono ?_
      rintro e w11 ⟨rfl, hb11⟩
      have hq11 : Below w10.heap.size w10 w11 := bth (by repeat (first | exact Below.refl _ _ | refine Below.alloc ?_ (by first | exact Nat.le_refl _ | (simp <;> omega)) _ | refine Below.setCell ?_ (by first | exact Nat.le_refl _ | (simp <;> omega)) _)) hb11
      replace HB := bth HB hq11
      replace hR := hR.below hq11
      replace HT := HT.below hq11
      replace RX := RX.below hq11
      obtain ⟨L0, hL0⟩ : ∃ L, prL ⟨#[]⟩ = L := ⟨_, rfl⟩
      obtain ⟨lb0, hlb0⟩ : ∃ b, prB ⟨#[]⟩ = b := ⟨_, rfl⟩
      have HL0 := Lib.hid hL0; clear hL0
      have HLB0 := Lib.hid hlb0; clear hlb0
      go_wp2_with fail
      refine (iPRV_is ⟨#[]⟩ (by decide) L0 HL0.out lb0 HLB0.out _ (HT.below (by repeat (first | exact Below.refl _ _ | refine Below.alloc ?_ (by first | exact Nat.le_refl _ | (simp <;> omega)) _ | refine Below.setCell ?_ (by first | exact Nat.le_refl _ | (simp <;> omega)) _)))).mono ?_
      rintro e w12 ⟨A6, c6, rfl, O6, hb12⟩
      have hq12 : Below w11.heap.size w11 w12 := bth (by repeat (first | exact Below.refl _ _ | refine Below.alloc ?_ (by first | exact Nat.le_refl _ | (simp <;> omega)) _ | refine Below.setCell ?_ (by first | exact Nat.le_refl _ | (simp <;> omega)) _)) hb12
      replace HB := bth HB hq12
      replace hR := hR.below hq12
      replace HT := HT.below hq12
      replace RX := RX.below hq12
      clear O6
      go_wp2_with fail
      refine (drawParseReport_is A c cs hcs _ (hR.below (by repeat (first | exact Below.refl _ _ | refine Below.alloc ?_ (by first | exact Nat.le_refl _ | (simp <;> omega)) _ | refine Below.setCell ?_ (by first | exact Nat.le_refl _ | (simp <;> omega)) _)))).mono ?_
      rintro e w13 ⟨u, rfl, hu, hb13⟩
      have hq13 : Below w12.heap.size w12 w13 := bth (by repeat (first | exact Below.refl _ _ | refine Below.alloc ?_ (by first | exact Nat.le_refl _ | (simp <;> omega)) _ | refine Below.setCell ?_ (by first | exact Nat.le_refl _ | (simp <;> omega)) _)) hb13
      replace HB := bth HB hq13
      replace hR := hR.below hq13
      replace HT := HT.below hq13
      replace RX := RX.below hq13
      obtain ⟨L, hL⟩ : ∃ L, prL u = L := ⟨_, rfl⟩
      obtain ⟨lb, hlb⟩ : ∃ b, prB u = b := ⟨_, rfl⟩
      have hLl : L.length ≤ 1048576 := hL ▸ prL_len u
      have HL := Lib.hid hL; clear hL
      have HLB := Lib.hid hlb; clear hlb
      go_wp2_with fail
      refine (iPRV_is u (by omega) L HL.out lb HLB.out _ (HT.below (by repeat (first | exact Below.refl _ _ | refine Below.alloc ?_ (by first | exact Nat.le_refl _ | (simp <;> omega)) _ | refine Below.setCell ?_ (by first | exact Nat.le_refl _ | (simp <;> omega)) _)))).mono ?_
      rintro e w14 ⟨A7, c7, rfl, O7, hb14⟩
      have hq14 : Below w13.heap.size w13 w14 := bth (by repeat (first | exact Below.refl _ _ | refine Below.alloc ?_ (by first | exact Nat.le_refl _ | (simp <;> omega)) _ | refine Below.setCell ?_ (by first | exact Nat.le_refl _ | (simp <;> omega)) _)) hb14
      replace HB := bth HB hq14
      replace hR := hR.below hq14
      replace HT := HT.below hq14
      replace RX := RX.below hq14
      have R7 := O7.rds (hf := res_len)
      clear O7
      go_wp2_with fail
      refine (sPRV_is u (by omega) L HL.out lb HLB.out _).mono ?_
      rintro e w15 ⟨A8, c8, rfl, O8, hb15⟩
      have hq15 : Below w14.heap.size w14 w15 := bth (by repeat (first | exact Below.refl _ _ | refine Below.alloc ?_ (by first | exact Nat.le_refl _ | (simp <;> omega)) _ | refine Below.setCell ?_ (by first | exact Nat.le_refl _ | (simp <;> omega)) _)) hb15
      replace HB := bth HB hq15
      replace hR := hR.below hq15
      replace HT := HT.below hq15
      replace RX := RX.below hq15
      replace R7 := R7.below hq15
      have R8 := O8.rds (hf := res_len)
      clear O8
      go_wp2_with fail
      refine (rResults_is A7 A8 c7 c8 L hLl _ (R7.below (by repeat (first | exact Below.refl _ _ | refine Below.alloc ?_ (by first | exact Nat.le_refl _ | (simp <;> omega)) _ | refine Below.setCell ?_ (by first | exact Nat.le_refl _ | (simp <;> omega)) _))) (R8.below (by repeat (first | exact Below.refl _ _ | refine Below.alloc ?_ (by first | exact Nat.le_refl _ | (simp <;> omega)) _ | refine Below.setCell ?_ (by first | exact Nat.le_refl _ | (simp <;> omega)) _)))).mono ?_
      rintro e w16 ⟨rfl, hb16⟩
      have hq16 : Below w15.heap.size w15 w16 := bth (by repeat (first | exact Below.refl _ _ | refine Below.alloc ?_ (by first | exact Nat.le_refl _ | (simp <;> omega)) _ | refine Below.setCell ?_ (by first | exact Nat.le_refl _ | (simp <;> omega)) _)) hb16
      replace HB := bth HB hq16
      replace hR := hR.below hq16
      replace HT := HT.below hq16
      replace RX := RX.below hq16
      replace R7 := R7.below hq16
      replace R8 := R8.below hq16
      go_wp2
      go_ret
      exact ⟨rfl, (bth HB (by repeat (first | exact Below.refl _ _ | refine Below.alloc ?_ (by first | exact Nat.le_refl _ | (simp <;> omega)) _ | refine Below.setCell ?_ (by first | exact Nat.le_refl _ | (simp <;> omega)) _)))⟩
    · obtain ⟨s4, hs4⟩ : ∃ s, repTxt xs = s := ⟨_, rfl⟩
      have ER : Hid (rtOut xs = .tuple #[.string s4, .bool true]) := Lib.hid (by simp [rtOut, hrep, hs4])
      have HY : Hid (isRep s4 xs) := Lib.hid ⟨hrep, hs4⟩
      have hs5 : s4.size ≤ 1048576 := by have := rep_size HY.out; omega
      have HREP := Lib.hid hrep; clear hrep hs4
      go_wp2_with fail
      refine (iReportText_is Y yc xs hn _ ER.out _ (RX.below (by repeat (first | exact Below.refl _ _ | refine Below.alloc ?_ (by first | exact Nat.le_refl _ | (simp <;> omega)) _ | refine Below.setCell ?_ (by first | exact Nat.le_refl _ | (simp <;> omega)) _))) (Tbz.tp (HT.below (by repeat (first | exact Below.refl _ _ | refine Below.alloc ?_ (by first | exact Nat.le_refl _ | (simp <;> omega)) _ | refine Below.setCell ?_ (by first | exact Nat.le_refl _ | (simp <;> omega)) _))))).mono ?_
      rintro e w9 ⟨rfl, hb9⟩
      have hq9 : Below w8.heap.size w8 w9 := bth (by repeat (first | exact Below.refl _ _ | refine Below.alloc ?_ (by first | exact Nat.le_refl _ | (simp <;> omega)) _ | refine Below.setCell ?_ (by first | exact Nat.le_refl _ | (simp <;> omega)) _)) hb9
      replace HB := bth HB hq9
      replace hR := hR.below hq9
      replace HT := HT.below hq9
      replace RX := RX.below hq9
      go_wp2_with fail
      refine (sReportText_is Y yc xs hn _ ER.out _ (RX.below (by repeat (first | exact Below.refl _ _ | refine Below.alloc ?_ (by first | exact Nat.le_refl _ | (simp <;> omega)) _ | refine Below.setCell ?_ (by first | exact Nat.le_refl _ | (simp <;> omega)) _)))).mono ?_
      rintro e w10 ⟨rfl, hb10⟩
      have hq10 : Below w9.heap.size w9 w10 := bth (by repeat (first | exact Below.refl _ _ | refine Below.alloc ?_ (by first | exact Nat.le_refl _ | (simp <;> omega)) _ | refine Below.setCell ?_ (by first | exact Nat.le_refl _ | (simp <;> omega)) _)) hb10
      replace HB := bth HB hq10
      replace hR := hR.below hq10
      replace HT := HT.below hq10
      replace RX := RX.below hq10
      go_wp2_with fail
      refine (isReport_is Y yc xs hn _ HREP.out _ (RX.below (by repeat (first | exact Below.refl _ _ | refine Below.alloc ?_ (by first | exact Nat.le_refl _ | (simp <;> omega)) _ | refine Below.setCell ?_ (by first | exact Nat.le_refl _ | (simp <;> omega)) _)))).mono ?_
      rintro e w11 ⟨rfl, hb11⟩
      have hq11 : Below w10.heap.size w10 w11 := bth (by repeat (first | exact Below.refl _ _ | refine Below.alloc ?_ (by first | exact Nat.le_refl _ | (simp <;> omega)) _ | refine Below.setCell ?_ (by first | exact Nat.le_refl _ | (simp <;> omega)) _)) hb11
      replace HB := bth HB hq11
      replace hR := hR.below hq11
      replace HT := HT.below hq11
      replace RX := RX.below hq11
      go_wp2_with fail
      refine (iPRV_is s4 hs5 xs (prL_yes HY.out).1 true (prL_yes HY.out).2 _ (HT.below (by repeat (first | exact Below.refl _ _ | refine Below.alloc ?_ (by first | exact Nat.le_refl _ | (simp <;> omega)) _ | refine Below.setCell ?_ (by first | exact Nat.le_refl _ | (simp <;> omega)) _)))).mono ?_
      rintro e w12 ⟨A6, c6, rfl, O6, hb12⟩
      have hq12 : Below w11.heap.size w11 w12 := bth (by repeat (first | exact Below.refl _ _ | refine Below.alloc ?_ (by first | exact Nat.le_refl _ | (simp <;> omega)) _ | refine Below.setCell ?_ (by first | exact Nat.le_refl _ | (simp <;> omega)) _)) hb12
      replace HB := bth HB hq12
      replace hR := hR.below hq12
      replace HT := HT.below hq12
      replace RX := RX.below hq12
      have R6 := O6.rds (hf := res_len)
      clear O6
      go_wp2_with fail
      refine (rResults_is A6 Y c6 yc xs hn _ (R6.below (by repeat (first | exact Below.refl _ _ | refine Below.alloc ?_ (by first | exact Nat.le_refl _ | (simp <;> omega)) _ | refine Below.setCell ?_ (by first | exact Nat.le_refl _ | (simp <;> omega)) _))) (RX.below (by repeat (first | exact Below.refl _ _ | refine Below.alloc ?_ (by first | exact Nat.le_refl _ | (simp <;> omega)) _ | refine Below.setCell ?_ (by first | exact Nat.le_refl _ | (simp <;> omega)) _)))).mono ?_
      rintro e w13 ⟨rfl, hb13⟩
      have hq13 : Below w12.heap.size w12 w13 := bth (by repeat (first | exact Below.refl _ _ | refine Below.alloc ?_ (by first | exact Nat.le_refl _ | (simp <;> omega)) _ | refine Below.setCell ?_ (by first | exact Nat.le_refl _ | (simp <;> omega)) _)) hb13
      replace HB := bth HB hq13
      replace hR := hR.below hq13
      replace HT := HT.below hq13
      replace RX := RX.below hq13
      replace R6 := R6.below hq13
      go_wp2_with fail
      refine (drawParseReport_is A c cs hcs _ (hR.below (by repeat (first | exact Below.refl _ _ | refine Below.alloc ?_ (by first | exact Nat.le_refl _ | (simp <;> omega)) _ | refine Below.setCell ?_ (by first | exact Nat.le_refl _ | (simp <;> omega)) _)))).mono ?_
      rintro e w14 ⟨u, rfl, hu, hb14⟩
      have hq14 : Below w13.heap.size w13 w14 := bth (by repeat (first | exact Below.refl _ _ | refine Below.alloc ?_ (by first | exact Nat.le_refl _ | (simp <;> omega)) _ | refine Below.setCell ?_ (by first | exact Nat.le_refl _ | (simp <;> omega)) _)) hb14
      replace HB := bth HB hq14
      replace hR := hR.below hq14
      replace HT := HT.below hq14
      replace RX := RX.below hq14
      replace R6 := R6.below hq14
      obtain ⟨L, hL⟩ : ∃ L, prL u = L := ⟨_, rfl⟩
      obtain ⟨lb, hlb⟩ : ∃ b, prB u = b := ⟨_, rfl⟩
      have hLl : L.length ≤ 1048576 := hL ▸ prL_len u
      have HL := Lib.hid hL; clear hL
      have HLB := Lib.hid hlb; clear hlb
      go_wp2_with fail
      refine (iPRV_is u (by omega) L HL.out lb HLB.out _ (HT.below (by repeat (first | exact Below.refl _ _ | refine Below.alloc ?_ (by first | exact Nat.le_refl _ | (simp <;> omega)) _ | refine Below.setCell ?_ (by first | exact Nat.le_refl _ | (simp <;> omega)) _)))).mono ?_
      rintro e w15 ⟨A7, c7, rfl, O7, hb15⟩
      have hq15 : Below w14.heap.size w14 w15 := bth (by repeat (first | exact Below.refl _ _ | refine Below.alloc ?_ (by first | exact Nat.le_refl _ | (simp <;> omega)) _ | refine Below.setCell ?_ (by first | exact Nat.le_refl _ | (simp <;> omega)) _)) hb15
      replace HB := bth HB hq15
      replace hR := hR.below hq15
      replace HT := HT.below hq15
      replace RX := RX.below hq15
      replace R6 := R6.below hq15
      have R7 := O7.rds (hf := res_len)
      clear O7
      go_wp2_with fail
      refine (sPRV_is u (by omega) L HL.out lb HLB.out _).mono ?_
      rintro e w16 ⟨A8, c8, rfl, O8, hb16⟩
      have hq16 : Below w15.heap.size w15 w16 := bth (by repeat (first | exact Below.refl _ _ | refine Below.alloc ?_ (by first | exact Nat.le_refl _ | (simp <;> omega)) _ | refine Below.setCell ?_ (by first | exact Nat.le_refl _ | (simp <;> omega)) _)) hb16
      replace HB := bth HB hq16
      replace hR := hR.below hq16
      replace HT := HT.below hq16
      replace RX := RX.below hq16
      replace R6 := R6.below hq16
      replace R7 := R7.below hq16
      have R8 := O8.rds (hf := res_len)
      clear O8
      go_wp2_with fail
      refine (rResults_is A7 A8 c7 c8 L hLl _ (R7.below (by repeat (first | exact Below.refl _ _ | refine Below.alloc ?_ (by first | exact Nat.le_refl _ | (simp <;> omega)) _ | refine Below.setCell ?_ (by first | exact Nat.le_refl _ | (simp <;> omega)) _))) (R8.below (by repeat (first | exact Below.refl _ _ | refine Below.alloc ?_ (by first | exact Nat.le_refl _ | (simp <;> omega)) _ | refine Below.setCell ?_ (by first | exact Nat.le_refl _ | (simp <;> omega)) _)))).mono ?_
      rintro e w17 ⟨rfl, hb17⟩
      have hq17 : Below w16.heap.size w16 w17 := bth (by repeat (first | exact Below.refl _ _ | refine Below.alloc ?_ (by first | exact Nat.le_refl _ | (simp <;> omega)) _ | refine Below.setCell ?_ (by first | exact Nat.le_refl _ | (simp <;> omega)) _)) hb17
      replace HB := bth HB hq17
      replace hR := hR.below hq17
      replace HT := HT.below hq17
      replace RX := RX.below hq17
      replace R6 := R6.below hq17
      replace R7 := R7.below hq17
      replace R8 := R8.below hq17
      go_wp2
      go_ret
      exact ⟨rfl, (bth HB (by repeat (first | exact Below.refl _ _ | refine Below.alloc ?_ (by first | exact Nat.le_refl _ | (simp <;> omega)) _ | refine Below.setCell ?_ (by first | exact Nat.le_refl _ | (simp <;> omega)) _)))⟩
  · obtain ⟨s, hs⟩ : ∃ s, Res.line ⟨m, nd, y, n, ab, hml⟩ = s := ⟨_, rfl⟩
    have EO : Hid (olOut ⟨m, nd, y, n, ab, hml⟩ = .tuple #[.string s, .bool true]) := Lib.hid (by simp [olOut, hr, hs])
    have hss : s.size ≤ 1048576 := by have := Res.line_size ⟨m, nd, y, n, ab, hml⟩ hr; rw [hs] at this; omega
    have HV1 : Hid (resV (poO s) = .tuple #[.agg #[.string m, .int .i64 nd, .int .i64 y, .int .i64 n, .int .i64 ab], .bool true]) := Lib.hid (by rw [poO_yes (show isR s ⟨m, nd, y, n, ab, hml⟩ from ⟨hr, hs⟩)]; rfl)
    clear hr hs
    go_wp2_with fail
    refine (iOutcomeLine_is ⟨m, nd, y, n, ab, hml⟩ _ EO.out _ (Tbz.tp (HT.below (by repeat (first | exact Below.refl _ _ | refine Below.alloc ?_ (by first | exact Nat.le_refl _ | (simp <;> omega)) _ | refine Below.setCell ?_ (by first | exact Nat.le_refl _ | (simp <;> omega)) _))))).mono ?_
    rintro e w2 ⟨rfl, hb2⟩
    have hq2 : Below w1.heap.size w1 w2 := bth (by repeat (first | exact Below.refl _ _ | refine Below.alloc ?_ (by first | exact Nat.le_refl _ | (simp <;> omega)) _ | refine Below.setCell ?_ (by first | exact Nat.le_refl _ | (simp <;> omega)) _)) hb2
    replace HB := bth HB hq2
    replace hR := hR.below hq2
    replace HT := HT.below hq2
    have hW : Blk w2 (w1.heap.size) 27 #[.string m, .int .i64 nd, .int .i64 y, .int .i64 n, .int .i64 ab] := Blk.below (by repeat (first | exact Blk.new _ _ _ | exact Blk.new2 _ _ _ _ | exact Blk.new3 _ _ _ _ _ | exact Blk.new4 _ _ _ _ _ _ | refine Blk.alloc ?_ _)) hb2 (by simp <;> omega)
    have x0 := (hW.cell 0).trans (show _ = some (.string m) from rfl)
    have x1 := (hW.cell 1).trans (show _ = some (.int .i64 nd) from rfl)
    have x2 := (hW.cell 2).trans (show _ = some (.int .i64 y) from rfl)
    have x3 := (hW.cell 3).trans (show _ = some (.int .i64 n) from rfl)
    have x4 := (hW.cell 4).trans (show _ = some (.int .i64 ab) from rfl)
    have hwl := hW.lt
    go_wp2_with fail
    refine (sOutcomeLine_is ⟨m, nd, y, n, ab, hml⟩ _ EO.out _).mono ?_
    rintro e w3 ⟨rfl, hb3⟩
    have hq3 : Below w2.heap.size w2 w3 := bth (by repeat (first | exact Below.refl _ _ | refine Below.alloc ?_ (by first | exact Nat.le_refl _ | (simp <;> omega)) _ | refine Below.setCell ?_ (by first | exact Nat.le_refl _ | (simp <;> omega)) _)) hb3
    replace HB := bth HB hq3
    replace hR := hR.below hq3
    replace HT := HT.below hq3
    replace hW := hW.below hq3 hW.lt
    replace x0 := (hW.cell 0).trans (show _ = some (.string m) from rfl)
    replace x1 := (hW.cell 1).trans (show _ = some (.int .i64 nd) from rfl)
    replace x2 := (hW.cell 2).trans (show _ = some (.int .i64 y) from rfl)
    replace x3 := (hW.cell 3).trans (show _ = some (.int .i64 n) from rfl)
    replace x4 := (hW.cell 4).trans (show _ = some (.int .i64 ab) from rfl)
    go_wp2_with fail
    refine (iPOV_is s hss _ HV1.out _ (HT.below (by repeat (first | exact Below.refl _ _ | refine Below.alloc ?_ (by first | exact Nat.le_refl _ | (simp <;> omega)) _ | refine Below.setCell ?_ (by first | exact Nat.le_refl _ | (simp <;> omega)) _)))).mono ?_
    rintro e w4 ⟨rfl, hb4⟩
    have hq4 : Below w3.heap.size w3 w4 := bth (by repeat (first | exact Below.refl _ _ | refine Below.alloc ?_ (by first | exact Nat.le_refl _ | (simp <;> omega)) _ | refine Below.setCell ?_ (by first | exact Nat.le_refl _ | (simp <;> omega)) _)) hb4
    replace HB := bth HB hq4
    replace hR := hR.below hq4
    replace HT := HT.below hq4
    replace hW := hW.below hq4 hW.lt
    replace x0 := (hW.cell 0).trans (show _ = some (.string m) from rfl)
    replace x1 := (hW.cell 1).trans (show _ = some (.int .i64 nd) from rfl)
    replace x2 := (hW.cell 2).trans (show _ = some (.int .i64 y) from rfl)
    replace x3 := (hW.cell 3).trans (show _ = some (.int .i64 n) from rfl)
    replace x4 := (hW.cell 4).trans (show _ = some (.int .i64 ab) from rfl)
    have hwl4 := hW.lt
    go_wp2_with fail
    refine (drawParseOutcome_is A c cs hcs _ (hR.below (by repeat (first | exact Below.refl _ _ | refine Below.alloc ?_ (by first | exact Nat.le_refl _ | (simp <;> omega)) _ | refine Below.setCell ?_ (by first | exact Nat.le_refl _ | (simp <;> omega)) _)))).mono ?_
    rintro e w5 ⟨t, rfl, ht, hb5⟩
    have hq5 : Below w4.heap.size w4 w5 := bth (by repeat (first | exact Below.refl _ _ | refine Below.alloc ?_ (by first | exact Nat.le_refl _ | (simp <;> omega)) _ | refine Below.setCell ?_ (by first | exact Nat.le_refl _ | (simp <;> omega)) _)) hb5
    replace HB := bth HB hq5
    replace hR := hR.below hq5
    replace HT := HT.below hq5
    replace hW := hW.below hq5 hW.lt
    replace x0 := (hW.cell 0).trans (show _ = some (.string m) from rfl)
    replace x1 := (hW.cell 1).trans (show _ = some (.int .i64 nd) from rfl)
    replace x2 := (hW.cell 2).trans (show _ = some (.int .i64 y) from rfl)
    replace x3 := (hW.cell 3).trans (show _ = some (.int .i64 n) from rfl)
    replace x4 := (hW.cell 4).trans (show _ = some (.int .i64 ab) from rfl)
    clear x0 x1 x2 x3 x4
    obtain ⟨m2, nd2, y2, n2, a2, b2, hv2⟩ := resV_form (poO t)
    have HV2 := Lib.hid hv2; clear hv2
    go_wp2_with fail
    refine (iPOV_is t (by omega) _ HV2.out _ (HT.below (by repeat (first | exact Below.refl _ _ | refine Below.alloc ?_ (by first | exact Nat.le_refl _ | (simp <;> omega)) _ | refine Below.setCell ?_ (by first | exact Nat.le_refl _ | (simp <;> omega)) _)))).mono ?_
    rintro e w6 ⟨rfl, hb6⟩
    have hq6 : Below w5.heap.size w5 w6 := bth (by repeat (first | exact Below.refl _ _ | refine Below.alloc ?_ (by first | exact Nat.le_refl _ | (simp <;> omega)) _ | refine Below.setCell ?_ (by first | exact Nat.le_refl _ | (simp <;> omega)) _)) hb6
    replace HB := bth HB hq6
    replace hR := hR.below hq6
    replace HT := HT.below hq6
    go_wp2_with fail
    refine (sPOV_is t (by omega) _ HV2.out _).mono ?_
    rintro e w7 ⟨rfl, hb7⟩
    have hq7 : Below w6.heap.size w6 w7 := bth (by repeat (first | exact Below.refl _ _ | refine Below.alloc ?_ (by first | exact Nat.le_refl _ | (simp <;> omega)) _ | refine Below.setCell ?_ (by first | exact Nat.le_refl _ | (simp <;> omega)) _)) hb7
    replace HB := bth HB hq7
    replace hR := hR.below hq7
    replace HT := HT.below hq7
    have hX2 : Blk w7 (w6.heap.size) 27 #[.string m2, .int .i64 nd2, .int .i64 y2, .int .i64 n2, .int .i64 a2] := Blk.below (by repeat (first | exact Blk.new _ _ _ | exact Blk.new2 _ _ _ _ | exact Blk.new3 _ _ _ _ _ | exact Blk.new4 _ _ _ _ _ _ | refine Blk.alloc ?_ _)) hb7 (by simp <;> omega)
    have v0 := (hX2.cell 0).trans (show _ = some (.string m2) from rfl)
    have v1 := (hX2.cell 1).trans (show _ = some (.int .i64 nd2) from rfl)
    have v2 := (hX2.cell 2).trans (show _ = some (.int .i64 y2) from rfl)
    have v3 := (hX2.cell 3).trans (show _ = some (.int .i64 n2) from rfl)
    have v4 := (hX2.cell 4).trans (show _ = some (.int .i64 a2) from rfl)
    have hwl2 := hX2.lt
    go_wp2_with fail
    refine (drawReportText_is A c cs hcs _ (hR.below (by repeat (first | exact Below.refl _ _ | refine Below.alloc ?_ (by first | exact Nat.le_refl _ | (simp <;> omega)) _ | refine Below.setCell ?_ (by first | exact Nat.le_refl _ | (simp <;> omega)) _)))).mono ?_
    rintro e w8 ⟨xs, Y, yc, rfl, hl, hO, hb8⟩
    have hq8 : Below w7.heap.size w7 w8 := bth (by repeat (first | exact Below.refl _ _ | refine Below.alloc ?_ (by first | exact Nat.le_refl _ | (simp <;> omega)) _ | refine Below.setCell ?_ (by first | exact Nat.le_refl _ | (simp <;> omega)) _)) hb8
    replace HB := bth HB hq8
    replace hR := hR.below hq8
    replace HT := HT.below hq8
    replace hX2 := hX2.below hq8 hX2.lt
    replace v0 := (hX2.cell 0).trans (show _ = some (.string m2) from rfl)
    replace v1 := (hX2.cell 1).trans (show _ = some (.int .i64 nd2) from rfl)
    replace v2 := (hX2.cell 2).trans (show _ = some (.int .i64 y2) from rfl)
    replace v3 := (hX2.cell 3).trans (show _ = some (.int .i64 n2) from rfl)
    replace v4 := (hX2.cell 4).trans (show _ = some (.int .i64 a2) from rfl)
    clear v0 v1 v2 v3 v4
    have RX := hO.rds (hf := res_len)
    clear hO
    have hn : xs.length ≤ 1048576 := by omega
    cases hrep : reportB xs
    · have ER : Hid (rtOut xs = .tuple #[.string ⟨#[]⟩, .bool false]) := Lib.hid (by simp [rtOut, hrep])
      have HREP := Lib.hid hrep; clear hrep
      go_wp2_with fail
      refine (iReportText_is Y yc xs hn _ ER.out _ (RX.below (by repeat (first | exact Below.refl _ _ | refine Below.alloc ?_ (by first | exact Nat.le_refl _ | (simp <;> omega)) _ | refine Below.setCell ?_ (by first | exact Nat.le_refl _ | (simp <;> omega)) _))) (Tbz.tp (HT.below (by repeat (first | exact Below.refl _ _ | refine Below.alloc ?_ (by first | exact Nat.le_refl _ | (simp <;> omega)) _ | refine Below.setCell ?_ (by first | exact Nat.le_refl _ | (simp <;> omega)) _))))).mono ?_
      rintro e w9 ⟨rfl, hb9⟩
      have hq9 : Below w8.heap.size w8 w9 := bth (by repeat (first | exact Below.refl _ _ | refine Below.alloc ?_ (by first | exact Nat.le_refl _ | (simp <;> omega)) _ | refine Below.setCell ?_ (by first | exact Nat.le_refl _ | (simp <;> omega)) _)) hb9
      replace HB := bth HB hq9
      replace hR := hR.below hq9
      replace HT := HT.below hq9
      replace RX := RX.below hq9
      go_wp2_with fail
      refine (sReportText_is Y yc xs hn _ ER.out _ (RX.below (by repeat (first | exact Below.refl _ _ | refine Below.alloc ?_ (by first | exact Nat.le_refl _ | (simp <;> omega)) _ | refine Below.setCell ?_ (by first | exact Nat.le_refl _ | (simp <;> omega)) _)))).mono ?_
      rintro e w10 ⟨rfl, hb10⟩
      have hq10 : Below w9.heap.size w9 w10 := bth (by repeat (first | exact Below.refl _ _ | refine Below.alloc ?_ (by first | exact Nat.le_refl _ | (simp <;> omega)) _ | refine Below.setCell ?_ (by first | exact Nat.le_refl _ | (simp <;> omega)) _)) hb10
      replace HB := bth HB hq10
      replace hR := hR.below hq10
      replace HT := HT.below hq10
      replace RX := RX.below hq10
      go_wp2_with fail
      refine (isReport_is Y yc xs hn _ HREP.out _ (RX.below (by repeat (first | exact Below.refl _ _ | refine Below.alloc ?_ (by first | exact Nat.le_refl _ | (simp <;> omega)) _ | refine Below.setCell ?_ (by first | exact Nat.le_refl _ | (simp <;> omega)) _)))).mono ?_
      rintro e w11 ⟨rfl, hb11⟩
      have hq11 : Below w10.heap.size w10 w11 := bth (by repeat (first | exact Below.refl _ _ | refine Below.alloc ?_ (by first | exact Nat.le_refl _ | (simp <;> omega)) _ | refine Below.setCell ?_ (by first | exact Nat.le_refl _ | (simp <;> omega)) _)) hb11
      replace HB := bth HB hq11
      replace hR := hR.below hq11
      replace HT := HT.below hq11
      replace RX := RX.below hq11
      obtain ⟨L0, hL0⟩ : ∃ L, prL ⟨#[]⟩ = L := ⟨_, rfl⟩
      obtain ⟨lb0, hlb0⟩ : ∃ b, prB ⟨#[]⟩ = b := ⟨_, rfl⟩
      have HL0 := Lib.hid hL0; clear hL0
      have HLB0 := Lib.hid hlb0; clear hlb0
      go_wp2_with fail
      refine (iPRV_is ⟨#[]⟩ (by decide) L0 HL0.out lb0 HLB0.out _ (HT.below (by repeat (first | exact Below.refl _ _ | refine Below.alloc ?_ (by first | exact Nat.le_refl _ | (simp <;> omega)) _ | refine Below.setCell ?_ (by first | exact Nat.le_refl _ | (simp <;> omega)) _)))).mono ?_
      rintro e w12 ⟨A6, c6, rfl, O6, hb12⟩
      have hq12 : Below w11.heap.size w11 w12 := bth (by repeat (first | exact Below.refl _ _ | refine Below.alloc ?_ (by first | exact Nat.le_refl _ | (simp <;> omega)) _ | refine Below.setCell ?_ (by first | exact Nat.le_refl _ | (simp <;> omega)) _)) hb12
      replace HB := bth HB hq12
      replace hR := hR.below hq12
      replace HT := HT.below hq12
      replace RX := RX.below hq12
      clear O6
      go_wp2_with fail
      refine (drawParseReport_is A c cs hcs _ (hR.below (by repeat (first | exact Below.refl _ _ | refine Below.alloc ?_ (by first | exact Nat.le_refl _ | (simp <;> omega)) _ | refine Below.setCell ?_ (by first | exact Nat.le_refl _ | (simp <;> omega)) _)))).mono ?_
      rintro e w13 ⟨u, rfl, hu, hb13⟩
      have hq13 : Below w12.heap.size w12 w13 := bth (by repeat (first | exact Below.refl _ _ | refine Below.alloc ?_ (by first | exact Nat.le_refl _ | (simp <;> omega)) _ | refine Below.setCell ?_ (by first | exact Nat.le_refl _ | (simp <;> omega)) _)) hb13
      replace HB := bth HB hq13
      replace hR := hR.below hq13
      replace HT := HT.below hq13
      replace RX := RX.below hq13
      obtain ⟨L, hL⟩ : ∃ L, prL u = L := ⟨_, rfl⟩
      obtain ⟨lb, hlb⟩ : ∃ b, prB u = b := ⟨_, rfl⟩
      have hLl : L.length ≤ 1048576 := hL ▸ prL_len u
      have HL := Lib.hid hL; clear hL
      have HLB := Lib.hid hlb; clear hlb
      go_wp2_with fail
      refine (iPRV_is u (by omega) L HL.out lb HLB.out _ (HT.below (by repeat (first | exact Below.refl _ _ | refine Below.alloc ?_ (by first | exact Nat.le_refl _ | (simp <;> omega)) _ | refine Below.setCell ?_ (by first | exact Nat.le_refl _ | (simp <;> omega)) _)))).mono ?_
      rintro e w14 ⟨A7, c7, rfl, O7, hb14⟩
      have hq14 : Below w13.heap.size w13 w14 := bth (by repeat (first | exact Below.refl _ _ | refine Below.alloc ?_ (by first | exact Nat.le_refl _ | (simp <;> omega)) _ | refine Below.setCell ?_ (by first | exact Nat.le_refl _ | (simp <;> omega)) _)) hb14
      replace HB := bth HB hq14
      replace hR := hR.below hq14
      replace HT := HT.below hq14
      replace RX := RX.below hq14
      have R7 := O7.rds (hf := res_len)
      clear O7
      go_wp2_with fail
      refine (sPRV_is u (by omega) L HL.out lb HLB.out _).mono ?_
      rintro e w15 ⟨A8, c8, rfl, O8, hb15⟩
      have hq15 : Below w14.heap.size w14 w15 := bth (by repeat (first | exact Below.refl _ _ | refine Below.alloc ?_ (by first | exact Nat.le_refl _ | (simp <;> omega)) _ | refine Below.setCell ?_ (by first | exact Nat.le_refl _ | (simp <;> omega)) _)) hb15
      replace HB := bth HB hq15
      replace hR := hR.below hq15
      replace HT := HT.below hq15
      replace RX := RX.below hq15
      replace R7 := R7.below hq15
      have R8 := O8.rds (hf := res_len)
      clear O8
      go_wp2_with fail
      refine (rResults_is A7 A8 c7 c8 L hLl _ (R7.below (by repeat (first | exact Below.refl _ _ | refine Below.alloc ?_ (by first | exact Nat.le_refl _ | (simp <;> omega)) _ | refine Below.setCell ?_ (by first | exact Nat.le_refl _ | (simp <;> omega)) _))) (R8.below (by repeat (first | exact Below.refl _ _ | refine Below.alloc ?_ (by first | exact Nat.le_refl _ | (simp <;> omega)) _ | refine Below.setCell ?_ (by first | exact Nat.le_refl _ | (simp <;> omega)) _)))).mono ?_
      rintro e w16 ⟨rfl, hb16⟩
      have hq16 : Below w15.heap.size w15 w16 := bth (by repeat (first | exact Below.refl _ _ | refine Below.alloc ?_ (by first | exact Nat.le_refl _ | (simp <;> omega)) _ | refine Below.setCell ?_ (by first | exact Nat.le_refl _ | (simp <;> omega)) _)) hb16
      replace HB := bth HB hq16
      replace hR := hR.below hq16
      replace HT := HT.below hq16
      replace RX := RX.below hq16
      replace R7 := R7.below hq16
      replace R8 := R8.below hq16
      go_wp2
      go_ret
      exact ⟨rfl, (bth HB (by repeat (first | exact Below.refl _ _ | refine Below.alloc ?_ (by first | exact Nat.le_refl _ | (simp <;> omega)) _ | refine Below.setCell ?_ (by first | exact Nat.le_refl _ | (simp <;> omega)) _)))⟩
    · obtain ⟨s4, hs4⟩ : ∃ s, repTxt xs = s := ⟨_, rfl⟩
      have ER : Hid (rtOut xs = .tuple #[.string s4, .bool true]) := Lib.hid (by simp [rtOut, hrep, hs4])
      have HY : Hid (isRep s4 xs) := Lib.hid ⟨hrep, hs4⟩
      have hs5 : s4.size ≤ 1048576 := by have := rep_size HY.out; omega
      have HREP := Lib.hid hrep; clear hrep hs4
      go_wp2_with fail
      refine (iReportText_is Y yc xs hn _ ER.out _ (RX.below (by repeat (first | exact Below.refl _ _ | refine Below.alloc ?_ (by first | exact Nat.le_refl _ | (simp <;> omega)) _ | refine Below.setCell ?_ (by first | exact Nat.le_refl _ | (simp <;> omega)) _))) (Tbz.tp (HT.below (by repeat (first | exact Below.refl _ _ | refine Below.alloc ?_ (by first | exact Nat.le_refl _ | (simp <;> omega)) _ | refine Below.setCell ?_ (by first | exact Nat.le_refl _ | (simp <;> omega)) _))))).mono ?_
      rintro e w9 ⟨rfl, hb9⟩
      have hq9 : Below w8.heap.size w8 w9 := bth (by repeat (first | exact Below.refl _ _ | refine Below.alloc ?_ (by first | exact Nat.le_refl _ | (simp <;> omega)) _ | refine Below.setCell ?_ (by first | exact Nat.le_refl _ | (simp <;> omega)) _)) hb9
      replace HB := bth HB hq9
      replace hR := hR.below hq9
      replace HT := HT.below hq9
      replace RX := RX.below hq9
      go_wp2_with fail
      refine (sReportText_is Y yc xs hn _ ER.out _ (RX.below (by repeat (first | exact Below.refl _ _ | refine Below.alloc ?_ (by first | exact Nat.le_refl _ | (simp <;> omega)) _ | refine Below.setCell ?_ (by first | exact Nat.le_refl _ | (simp <;> omega)) _)))).mono ?_
      rintro e w10 ⟨rfl, hb10⟩
      have hq10 : Below w9.heap.size w9 w10 := bth (by repeat (first | exact Below.refl _ _ | refine Below.alloc ?_ (by first | exact Nat.le_refl _ | (simp <;> omega)) _ | refine Below.setCell ?_ (by first | exact Nat.le_refl _ | (simp <;> omega)) _)) hb10
      replace HB := bth HB hq10
      replace hR := hR.below hq10
      replace HT := HT.below hq10
      replace RX := RX.below hq10
      go_wp2_with fail
      refine (isReport_is Y yc xs hn _ HREP.out _ (RX.below (by repeat (first | exact Below.refl _ _ | refine Below.alloc ?_ (by first | exact Nat.le_refl _ | (simp <;> omega)) _ | refine Below.setCell ?_ (by first | exact Nat.le_refl _ | (simp <;> omega)) _)))).mono ?_
      rintro e w11 ⟨rfl, hb11⟩
      have hq11 : Below w10.heap.size w10 w11 := bth (by repeat (first | exact Below.refl _ _ | refine Below.alloc ?_ (by first | exact Nat.le_refl _ | (simp <;> omega)) _ | refine Below.setCell ?_ (by first | exact Nat.le_refl _ | (simp <;> omega)) _)) hb11
      replace HB := bth HB hq11
      replace hR := hR.below hq11
      replace HT := HT.below hq11
      replace RX := RX.below hq11
      go_wp2_with fail
      refine (iPRV_is s4 hs5 xs (prL_yes HY.out).1 true (prL_yes HY.out).2 _ (HT.below (by repeat (first | exact Below.refl _ _ | refine Below.alloc ?_ (by first | exact Nat.le_refl _ | (simp <;> omega)) _ | refine Below.setCell ?_ (by first | exact Nat.le_refl _ | (simp <;> omega)) _)))).mono ?_
      rintro e w12 ⟨A6, c6, rfl, O6, hb12⟩
      have hq12 : Below w11.heap.size w11 w12 := bth (by repeat (first | exact Below.refl _ _ | refine Below.alloc ?_ (by first | exact Nat.le_refl _ | (simp <;> omega)) _ | refine Below.setCell ?_ (by first | exact Nat.le_refl _ | (simp <;> omega)) _)) hb12
      replace HB := bth HB hq12
      replace hR := hR.below hq12
      replace HT := HT.below hq12
      replace RX := RX.below hq12
      have R6 := O6.rds (hf := res_len)
      clear O6
      go_wp2_with fail
      refine (rResults_is A6 Y c6 yc xs hn _ (R6.below (by repeat (first | exact Below.refl _ _ | refine Below.alloc ?_ (by first | exact Nat.le_refl _ | (simp <;> omega)) _ | refine Below.setCell ?_ (by first | exact Nat.le_refl _ | (simp <;> omega)) _))) (RX.below (by repeat (first | exact Below.refl _ _ | refine Below.alloc ?_ (by first | exact Nat.le_refl _ | (simp <;> omega)) _ | refine Below.setCell ?_ (by first | exact Nat.le_refl _ | (simp <;> omega)) _)))).mono ?_
      rintro e w13 ⟨rfl, hb13⟩
      have hq13 : Below w12.heap.size w12 w13 := bth (by repeat (first | exact Below.refl _ _ | refine Below.alloc ?_ (by first | exact Nat.le_refl _ | (simp <;> omega)) _ | refine Below.setCell ?_ (by first | exact Nat.le_refl _ | (simp <;> omega)) _)) hb13
      replace HB := bth HB hq13
      replace hR := hR.below hq13
      replace HT := HT.below hq13
      replace RX := RX.below hq13
      replace R6 := R6.below hq13
      go_wp2_with fail
      refine (drawParseReport_is A c cs hcs _ (hR.below (by repeat (first | exact Below.refl _ _ | refine Below.alloc ?_ (by first | exact Nat.le_refl _ | (simp <;> omega)) _ | refine Below.setCell ?_ (by first | exact Nat.le_refl _ | (simp <;> omega)) _)))).mono ?_
      rintro e w14 ⟨u, rfl, hu, hb14⟩
      have hq14 : Below w13.heap.size w13 w14 := bth (by repeat (first | exact Below.refl _ _ | refine Below.alloc ?_ (by first | exact Nat.le_refl _ | (simp <;> omega)) _ | refine Below.setCell ?_ (by first | exact Nat.le_refl _ | (simp <;> omega)) _)) hb14
      replace HB := bth HB hq14
      replace hR := hR.below hq14
      replace HT := HT.below hq14
      replace RX := RX.below hq14
      replace R6 := R6.below hq14
      obtain ⟨L, hL⟩ : ∃ L, prL u = L := ⟨_, rfl⟩
      obtain ⟨lb, hlb⟩ : ∃ b, prB u = b := ⟨_, rfl⟩
      have hLl : L.length ≤ 1048576 := hL ▸ prL_len u
      have HL := Lib.hid hL; clear hL
      have HLB := Lib.hid hlb; clear hlb
      go_wp2_with fail
      refine (iPRV_is u (by omega) L HL.out lb HLB.out _ (HT.below (by repeat (first | exact Below.refl _ _ | refine Below.alloc ?_ (by first | exact Nat.le_refl _ | (simp <;> omega)) _ | refine Below.setCell ?_ (by first | exact Nat.le_refl _ | (simp <;> omega)) _)))).mono ?_
      rintro e w15 ⟨A7, c7, rfl, O7, hb15⟩
      have hq15 : Below w14.heap.size w14 w15 := bth (by repeat (first | exact Below.refl _ _ | refine Below.alloc ?_ (by first | exact Nat.le_refl _ | (simp <;> omega)) _ | refine Below.setCell ?_ (by first | exact Nat.le_refl _ | (simp <;> omega)) _)) hb15
      replace HB := bth HB hq15
      replace hR := hR.below hq15
      replace HT := HT.below hq15
      replace RX := RX.below hq15
      replace R6 := R6.below hq15
      have R7 := O7.rds (hf := res_len)
      clear O7
      go_wp2_with fail
      refine (sPRV_is u (by omega) L HL.out lb HLB.out _).mono ?_
      rintro e w16 ⟨A8, c8, rfl, O8, hb16⟩
      have hq16 : Below w15.heap.size w15 w16 := bth (by repeat (first | exact Below.refl _ _ | refine Below.alloc ?_ (by first | exact Nat.le_refl _ | (simp <;> omega)) _ | refine Below.setCell ?_ (by first | exact Nat.le_refl _ | (simp <;> omega)) _)) hb16
      replace HB := bth HB hq16
      replace hR := hR.below hq16
      replace HT := HT.below hq16
      replace RX := RX.below hq16
      replace R6 := R6.below hq16
      replace R7 := R7.below hq16
      have R8 := O8.rds (hf := res_len)
      clear O8
      go_wp2_with fail
      refine (rResults_is A7 A8 c7 c8 L hLl _ (R7.below (by repeat (first | exact Below.refl _ _ | refine Below.alloc ?_ (by first | exact Nat.le_refl _ | (simp <;> omega)) _ | refine Below.setCell ?_ (by first | exact Nat.le_refl _ | (simp <;> omega)) _))) (R8.below (by repeat (first | exact Below.refl _ _ | refine Below.alloc ?_ (by first | exact Nat.le_refl _ | (simp <;> omega)) _ | refine Below.setCell ?_ (by first | exact Nat.le_refl _ | (simp <;> omega)) _)))).mono ?_
      rintro e w17 ⟨rfl, hb17⟩
      have hq17 : Below w16.heap.size w16 w17 := bth (by repeat (first | exact Below.refl _ _ | refine Below.alloc ?_ (by first | exact Nat.le_refl _ | (simp <;> omega)) _ | refine Below.setCell ?_ (by first | exact Nat.le_refl _ | (simp <;> omega)) _)) hb17
      replace HB := bth HB hq17
      replace hR := hR.below hq17
      replace HT := HT.below hq17
      replace RX := RX.below hq17
      replace R6 := R6.below hq17
      replace R7 := R7.below hq17
      replace R8 := R8.below hq17
      go_wp2
      go_ret
      exact ⟨rfl, (bth HB (by repeat (first | exact Below.refl _ _ | refine Below.alloc ?_ (by first | exact Nat.le_refl _ | (simp <;> omega)) _ | refine Below.setCell ?_ (by first | exact Nat.le_refl _ | (simp <;> omega)) _)))⟩
end Go.Proofs.YtbnncgahepcfnaaGreatDoor
