/- The law of notices: they are recovered from their texts, and on the first meeting all topics are ripe and not all of them the day before. -/
import Derived.Test.YtbnncgahepcfnaaGreatDoorNo23
import Derived.Test.YtbnncgahepcfnaaGreatDoorNo11
import Derived.Test.YtbnncgahepcfnaaGreatDoorNo19
import Derived.Test.YtbnncgahepcfnaaGreatDoorNo9
import Derived.Test.YtbnncgahepcfnaaGreatDoorNo15
import Derived.Test.YtbnncgahepcfnaaGreatDoorNo24
import Derived.Deep.Cut
namespace Go.Proofs.YtbnncgahepcfnaaGreatDoor
open Go.RowKit Go.G9
set_option maxHeartbeats 1000000 in
theorem rNotices_is (A A' : Option Addr) (c c' : Nat) (xs : List Ntc) (hn : xs.length ≤ 1048576) (w : World) (hR : Rds 4 Ntc.cells w A xs) (hR' : Rds 4 Ntc.cells w A' xs) :
  Calls Tryz.prog 35 #[.slice A xs.length c, .slice A' xs.length c'] w fun e w' => e = .returned (.bool true) ∧ Below w.heap.size w w' := by
  go_enter Tryz.func35, Tryz.ntmps35
  go_wp2
  go_loopw [5] (fun i wr => ∃ (k : Nat), k ≤ xs.length ∧ i = .int .i64 k ∧ Below w.heap.size w wr) (fun i _ => xs.length - (intOf i).toNat)
  case atStart => exact ⟨0, Nat.zero_le _, rfl, Below.refl _ _⟩
  case round =>
    obtain ⟨k, hk, rfl, hb⟩ := hrel
    by_cases hlt : k < xs.length
    · obtain ⟨b, off, x, rfl, hbl, hx, hcx⟩ := hR.at_ hb hlt
      obtain ⟨b', off', x', rfl, _, hx', hcx'⟩ := hR'.at_ hb hlt
      obtain rfl : x = x' := Option.some.inj (hx.symm.trans hx')
      obtain ⟨i, t, g, d, hs⟩ := x
      have f0 := hcx 0 _ rfl
      have f1 := hcx 1 _ rfl
      have f2 := hcx 2 _ rfl
      have f3 := hcx 3 _ rfl
      simp only [Nat.add_zero] at f0
      have e0 := hcx' 0 _ rfl
      have e1 := hcx' 1 _ rfl
      have e2 := hcx' 2 _ rfl
      have e3 := hcx' 3 _ rfl
      simp only [Nat.add_zero] at e0
      clear hx hcx hx' hcx'
      go_wp2
      refine wp_region_kin (by kernel_rfl) (by kernel_rfl) ?_
      repeat (go_big_quiet_step ((fail)))
      refine wpQuiet_nil ?_
      intro K
      go_wp2
      go_roundw
      case rel => exact ⟨k + 1, by omega, by go_num, bth hb K.below⟩
      case measure => simp [intOf]; omega
    · go_wp2
      go_ret
      exact ⟨rfl, hb⟩
set_option maxHeartbeats 1000000 in
theorem rTexts_is (A A' : Option Addr) (c c' : Nat) (xs : List S8) (hn : xs.length ≤ 1048576) (w : World) (hR : Rds 1 sC w A xs) (hR' : Rds 1 sC w A' xs) :
  Calls Tryz.prog 38 #[.slice A xs.length c, .slice A' xs.length c'] w fun e w' => e = .returned (.bool true) ∧ Below w.heap.size w w' := by
  go_enter Tryz.func38, Tryz.ntmps38
  go_wp2
  go_loopw [5] (fun i wr => ∃ (k : Nat), k ≤ xs.length ∧ i = .int .i64 k ∧ Below w.heap.size w wr) (fun i _ => xs.length - (intOf i).toNat)
  case atStart => exact ⟨0, Nat.zero_le _, rfl, Below.refl _ _⟩
  case round =>
    obtain ⟨k, hk, rfl, hb⟩ := hrel
    by_cases hlt : k < xs.length
    · obtain ⟨b, off, x, rfl, hbl, hx, hcx⟩ := hR.at_ hb hlt
      obtain ⟨b', off', x', rfl, _, hx', hcx'⟩ := hR'.at_ hb hlt
      obtain rfl : x = x' := Option.some.inj (hx.symm.trans hx')
      have f0 := hcx 0 _ rfl
      have e0 := hcx' 0 _ rfl
      simp only [Nat.mul_one, Nat.add_zero] at f0 e0
      clear hx hcx hx' hcx'
      go_wp2
      refine wp_region_kin (by kernel_rfl) (by kernel_rfl) ?_
      repeat (go_big_quiet_step ((fail)))
      refine wpQuiet_nil ?_
      intro K
      go_wp2
      go_roundw
      case rel => exact ⟨k + 1, by omega, by go_num, bth hb K.below⟩
      case measure => simp [intOf]; omega
    · go_wp2
      go_ret
      exact ⟨rfl, hb⟩
set_option maxHeartbeats 1000000 in
theorem rHasText_is (A : Option Addr) (c : Nat) (xs : List S8) (s : ByteArray) (hn : xs.length ≤ 1048576) (hs : s.data.toList ∈ xs) (w : World) (hR : Rds 1 sC w A xs) :
  Calls Tryz.prog 30 #[.slice A xs.length c, .string s] w fun e w' => e = .returned (.bool true) ∧ w' = w := by
  have HS := Lib.hid hs; clear hs
  go_enter Tryz.func30, Tryz.ntmps30
  go_wp2
  go_loop [5] (fun i => ∃ k : Nat, k ≤ xs.length ∧ i = .int .i64 k ∧ ∀ j x, j < k → xs[j]? = some x → x ≠ s.data.toList) (fun i => xs.length - (intOf i).toNat)
  case atStart => exact ⟨0, Nat.zero_le _, rfl, fun j x h => absurd h (by omega)⟩
  case round =>
    obtain ⟨k, hk, rfl, hl⟩ := hrel
    have HL := Lib.hid hl; clear hl
    by_cases hlt : k < xs.length
    · obtain ⟨b, off, x, rfl, hbl, hx, hcx⟩ := hR.at_ (Below.refl _ _) hlt
      have g0 := hcx 0 _ rfl (Kin.self _)
      simp only [Nat.mul_one, Nat.add_zero, Kin.self] at g0
      have HX := Lib.hid hx; clear hx hcx
      by_cases he : x = s.data.toList
      · have he' : (x == s.toList) = true := beq_iff_eq.2 (by rw [ByteArray.toList_eq]; exact he)
        clear he
        go_wp2
        go_ret
        exact ⟨rfl, rfl⟩
      · have he' : (x == s.toList) = false := beq_eq_false_iff_ne.2 (by rw [ByteArray.toList_eq]; exact he)
        have HE := Lib.hid he; clear he
        go_wp2
        go_round
        case rel =>
          refine ⟨k + 1, by omega, by go_num, fun j y hj hy => ?_⟩
          by_cases hjk : j = k
          · subst hjk
            cases HX.out.symm.trans hy
            exact HE.out
          · exact HL.out j y (by omega) hy
        case measure => simp [intOf]; omega
    · exfalso
      obtain ⟨j, hj⟩ := List.mem_iff_getElem?.1 HS.out
      exact HL.out j _ (by have := (List.getElem?_eq_some_iff.1 hj).1; omega) hj rfl
theorem own_cap {T : Type} {sz : Nat} {f : T → List Value} {B : Nat} {e : TypeId} {w : World} {A : Option Addr} {n c : Nat} {xs : List T} (h : OwnV B e sz f w (.slice A n c) xs) (hf : ∀ y, (f y).length = sz) : xs.length ≤ c := by
  obtain ⟨A', c', e', hc, _, _⟩ := h.form hf
  injection e' with _ _ e3
  subst e3; exact hc
def Tbn (w : World) : Prop := Tab w ∧ Esy w ∧ Mxl w
theorem Tbn.below {w w' : World} (h : Tbn w) (hb : Below w.heap.size w w') : Tbn w' := ⟨h.1.below hb, h.2.1.below hb, h.2.2.below hb⟩
theorem Tbn.tab {w : World} (h : Tbn w) : Tab w := h.1
theorem iPNV_is (s : ByteArray) (hs : s.size ≤ 1048576) (v : Value) (hv : pnV s = v) (w : World) (HT : Tbn w) : Calls Tryz.prog 23 #[.string s] w fun e w' => e = .returned v ∧ Below w.heap.size w w' := by
  subst hv; exact iParseNotice_is s hs w HT.1 HT.2.1 HT.2.2
theorem sPNV_is (s : ByteArray) (hs : s.size ≤ 1048576) (v : Value) (hv : pnV s = v) (w : World) : Calls Tryz.prog 25 #[.string s] w fun e w' => e = .returned v ∧ Below w.heap.size w w' := by
  subst hv; exact sParseNotice_is s hs w
theorem iRipeV_is (A : Option Addr) (c : Nat) (xs : List Ntc) (hn : xs.length ≤ 1048576) (day : Int) (L : List S8) (hL : rpL xs day = L) (b : Bool) (hb : rpOk xs day = b) (w : World) (hR : Rds 4 Ntc.cells w A xs) :
  Calls Tryz.prog 29 #[.slice A xs.length c, .int .i64 day] w fun e w' => ∃ A c, e = .returned (.tuple #[.slice A L.length c, .bool b]) ∧ OwnV w.heap.size 9 1 sC w' (.slice A L.length c) L ∧ Below w.heap.size w w' := by
  subst hL; subst hb; exact iRipe_is A c xs hn day w hR
theorem sRipeV_is (A : Option Addr) (c : Nat) (xs : List Ntc) (hn : xs.length ≤ 1048576) (day : Int) (L : List S8) (hL : rpL xs day = L) (b : Bool) (hb : rpOk xs day = b) (w : World) (hR : Rds 4 Ntc.cells w A xs) :
  Calls Tryz.prog 37 #[.slice A xs.length c, .int .i64 day] w fun e w' => ∃ A c, e = .returned (.tuple #[.slice A L.length c, .bool b]) ∧ OwnV w.heap.size 9 1 sC w' (.slice A L.length c) L ∧ Below w.heap.size w w' := by
  subst hL; subst hb; exact sRipe_is A c xs hn day w hR
theorem iWdV_is (A : Option Addr) (c : Nat) (xs : List Ntc) (hn : xs.length ≤ 1048576) (id : Int) (L : List Ntc) (hL : wnL xs id = L) (b : Bool) (hb : wnOk xs id = b) (w : World) (hR : Rds 4 Ntc.cells w A xs) :
  Calls Tryz.prog 33 #[.slice A xs.length c, .int .i64 id] w fun e w' => ∃ A c, e = .returned (.tuple #[.slice A L.length c, .bool b]) ∧ OwnV w.heap.size 42 4 Ntc.cells w' (.slice A L.length c) L ∧ Below w.heap.size w w' := by
  subst hL; subst hb; exact iWithdraw_is A c xs hn id w hR
theorem sWdV_is (A : Option Addr) (c : Nat) (xs : List Ntc) (hn : xs.length ≤ 1048576) (id : Int) (L : List Ntc) (hL : wnL xs id = L) (b : Bool) (hb : wnOk xs id = b) (w : World) (hR : Rds 4 Ntc.cells w A xs) (hcap : xs.length ≤ c) :
  Calls Tryz.prog 34 #[.slice A xs.length c, .int .i64 id] w fun e w' => ∃ A c, e = .returned (.tuple #[.slice A L.length c, .bool b]) ∧ OwnV w.heap.size 42 4 Ntc.cells w' (.slice A L.length c) L ∧ Below w.heap.size w w' := by
  subst hL; subst hb; exact sWithdraw_is A c xs hn id w hR hcap
set_option maxHeartbeats 16000000 in
set_option maxRecDepth 100000 in
theorem law_notices (A : Option Addr) (c : Nat) (cs : List UInt8) (w : World) (hR : Rds 1 u8C w A cs) (HT : Tbn w) :
  Calls Tryz.prog 4 #[.slice A cs.length c] w fun e w' => e = .returned (.bool true) ∧ Below w.heap.size w w' := by
  cases hv : decide (65536 < cs.length)
  case true =>
    go_enter Tryz.func4, Tryz.ntmps4
    go_wp2_with fail
    refine (rBigR_is A c cs.length _ hv _).mono ?_
    rintro e _ ⟨rfl, rfl⟩
    go_wp2
    go_ret
    exact ⟨rfl, (by repeat (first | exact Below.refl _ _ | refine Below.alloc ?_ (by first | exact Nat.le_refl _ | (simp <;> omega)) _ | refine Below.setCell ?_ (by first | exact Nat.le_refl _ | (simp <;> omega)) _))⟩
  have hcs : cs.length ≤ 1048576 := by have := of_decide_eq_false hv; omega
  go_enter Tryz.func4, Tryz.ntmps4
  go_wp2_with fail
  refine (rBigR_is A c cs.length _ hv _).mono ?_
  rintro e w0 ⟨rfl, h0⟩
  rw [h0]
  clear h0 w0
  go_wp2_with fail
  refine (drawNoticeText_is A c cs hcs _ (hR.below (by repeat (first | exact Below.refl _ _ | refine Below.alloc ?_ (by first | exact Nat.le_refl _ | (simp <;> omega)) _ | refine Below.setCell ?_ (by first | exact Nat.le_refl _ | (simp <;> omega)) _)))).mono ?_
  rintro e w1 ⟨i, t, g, d, rfl, ht, hb1⟩
  have hq1 : Below w.heap.size w w1 := bth (by repeat (first | exact Below.refl _ _ | refine Below.alloc ?_ (by first | exact Nat.le_refl _ | (simp <;> omega)) _ | refine Below.setCell ?_ (by first | exact Nat.le_refl _ | (simp <;> omega)) _)) hb1
  have HB : Below w.heap.size w w1 := hq1
  replace hR := hR.below hq1
  replace HT := HT.below hq1
  have hml : t.size ≤ maxLen := by unfold maxLen; omega
  cases hr : noticeB ⟨i, t, g, d, hml⟩
  · have EO : Hid (ntOut ⟨i, t, g, d, hml⟩ = .tuple #[.string ⟨#[]⟩, .bool false]) := Lib.hid (by simp [ntOut, hr])
    clear hr
    go_wp2_with fail
    refine (iNoticeText_is ⟨i, t, g, d, hml⟩ _ EO.out _ (Tbn.tab (HT.below (by repeat (first | exact Below.refl _ _ | refine Below.alloc ?_ (by first | exact Nat.le_refl _ | (simp <;> omega)) _ | refine Below.setCell ?_ (by first | exact Nat.le_refl _ | (simp <;> omega)) _))))).mono ?_
    rintro e w2 ⟨rfl, hb2⟩
    have hq2 : Below w1.heap.size w1 w2 := bth (by repeat (first | exact Below.refl _ _ | refine Below.alloc ?_ (by first | exact Nat.le_refl _ | (simp <;> omega)) _ | refine Below.setCell ?_ (by first | exact Nat.le_refl _ | (simp <;> omega)) _)) hb2
    replace HB := bth HB hq2
    replace hR := hR.below hq2
    replace HT := HT.below hq2
    have hW : Blk w2 (w1.heap.size) 42 #[.int .i64 i, .string t, .int .i64 g, .int .i64 d] := Blk.below (by repeat (first | exact Blk.new _ _ _ | exact Blk.new2 _ _ _ _ | exact Blk.new3 _ _ _ _ _ | exact Blk.new4 _ _ _ _ _ _ | refine Blk.alloc ?_ _)) hb2 (by simp <;> omega)
    have x0 := (hW.cell 0).trans (show _ = some (.int .i64 i) from rfl)
    have x1 := (hW.cell 1).trans (show _ = some (.string t) from rfl)
    have x2 := (hW.cell 2).trans (show _ = some (.int .i64 g) from rfl)
    have x3 := (hW.cell 3).trans (show _ = some (.int .i64 d) from rfl)
    have hwl := hW.lt
    go_wp2_with fail
    refine (sNoticeText_is ⟨i, t, g, d, hml⟩ _ EO.out _).mono ?_
    rintro e w3 ⟨rfl, hb3⟩
    have hq3 : Below w2.heap.size w2 w3 := bth (by repeat (first | exact Below.refl _ _ | refine Below.alloc ?_ (by first | exact Nat.le_refl _ | (simp <;> omega)) _ | refine Below.setCell ?_ (by first | exact Nat.le_refl _ | (simp <;> omega)) _)) hb3
    replace HB := bth HB hq3
    replace hR := hR.below hq3
    replace HT := HT.below hq3
    replace hW := hW.below hq3 hW.lt
    replace x0 := (hW.cell 0).trans (show _ = some (.int .i64 i) from rfl)
    replace x1 := (hW.cell 1).trans (show _ = some (.string t) from rfl)
    replace x2 := (hW.cell 2).trans (show _ = some (.int .i64 g) from rfl)
    replace x3 := (hW.cell 3).trans (show _ = some (.int .i64 d) from rfl)
    obtain ⟨i1, t1, g1, d1, b1, hv1⟩ := pnV_form ⟨#[]⟩
    have HV1 := Lib.hid hv1; clear hv1
    go_wp2_with fail
    refine (iPNV_is ⟨#[]⟩ (by decide) _ HV1.out _ (HT.below (by repeat (first | exact Below.refl _ _ | refine Below.alloc ?_ (by first | exact Nat.le_refl _ | (simp <;> omega)) _ | refine Below.setCell ?_ (by first | exact Nat.le_refl _ | (simp <;> omega)) _)))).mono ?_
    rintro e w4 ⟨rfl, hb4⟩
    have hq4 : Below w3.heap.size w3 w4 := bth (by repeat (first | exact Below.refl _ _ | refine Below.alloc ?_ (by first | exact Nat.le_refl _ | (simp <;> omega)) _ | refine Below.setCell ?_ (by first | exact Nat.le_refl _ | (simp <;> omega)) _)) hb4
    replace HB := bth HB hq4
    replace hR := hR.below hq4
    replace HT := HT.below hq4
    replace hW := hW.below hq4 hW.lt
    replace x0 := (hW.cell 0).trans (show _ = some (.int .i64 i) from rfl)
    replace x1 := (hW.cell 1).trans (show _ = some (.string t) from rfl)
    replace x2 := (hW.cell 2).trans (show _ = some (.int .i64 g) from rfl)
    replace x3 := (hW.cell 3).trans (show _ = some (.int .i64 d) from rfl)
    have hwl4 := hW.lt
    go_wp2_with fail
    refine (drawParseNotice_is A c cs hcs _ (hR.below (by repeat (first | exact Below.refl _ _ | refine Below.alloc ?_ (by first | exact Nat.le_refl _ | (simp <;> omega)) _ | refine Below.setCell ?_ (by first | exact Nat.le_refl _ | (simp <;> omega)) _)))).mono ?_
    rintro e w5 ⟨s2, rfl, hs2, hb5⟩
    have hq5 : Below w4.heap.size w4 w5 := bth (by repeat (first | exact Below.refl _ _ | refine Below.alloc ?_ (by first | exact Nat.le_refl _ | (simp <;> omega)) _ | refine Below.setCell ?_ (by first | exact Nat.le_refl _ | (simp <;> omega)) _)) hb5
    replace HB := bth HB hq5
    replace hR := hR.below hq5
    replace HT := HT.below hq5
    replace hW := hW.below hq5 hW.lt
    replace x0 := (hW.cell 0).trans (show _ = some (.int .i64 i) from rfl)
    replace x1 := (hW.cell 1).trans (show _ = some (.string t) from rfl)
    replace x2 := (hW.cell 2).trans (show _ = some (.int .i64 g) from rfl)
    replace x3 := (hW.cell 3).trans (show _ = some (.int .i64 d) from rfl)
    clear x0 x1 x2 x3
    obtain ⟨i2, t2, g2, d2, b2, hv2⟩ := pnV_form s2
    have HV2 := Lib.hid hv2; clear hv2
    go_wp2_with fail
    refine (iPNV_is s2 (by omega) _ HV2.out _ (HT.below (by repeat (first | exact Below.refl _ _ | refine Below.alloc ?_ (by first | exact Nat.le_refl _ | (simp <;> omega)) _ | refine Below.setCell ?_ (by first | exact Nat.le_refl _ | (simp <;> omega)) _)))).mono ?_
    rintro e w6 ⟨rfl, hb6⟩
    have hq6 : Below w5.heap.size w5 w6 := bth (by repeat (first | exact Below.refl _ _ | refine Below.alloc ?_ (by first | exact Nat.le_refl _ | (simp <;> omega)) _ | refine Below.setCell ?_ (by first | exact Nat.le_refl _ | (simp <;> omega)) _)) hb6
    replace HB := bth HB hq6
    replace hR := hR.below hq6
    replace HT := HT.below hq6
    go_wp2_with fail
    refine (sPNV_is s2 (by omega) _ HV2.out _).mono ?_
    rintro e w7 ⟨rfl, hb7⟩
    have hq7 : Below w6.heap.size w6 w7 := bth (by repeat (first | exact Below.refl _ _ | refine Below.alloc ?_ (by first | exact Nat.le_refl _ | (simp <;> omega)) _ | refine Below.setCell ?_ (by first | exact Nat.le_refl _ | (simp <;> omega)) _)) hb7
    replace HB := bth HB hq7
    replace hR := hR.below hq7
    replace HT := HT.below hq7
    have hX2 : Blk w7 (w6.heap.size) 42 #[.int .i64 i2, .string t2, .int .i64 g2, .int .i64 d2] := Blk.below (by repeat (first | exact Blk.new _ _ _ | exact Blk.new2 _ _ _ _ | exact Blk.new3 _ _ _ _ _ | exact Blk.new4 _ _ _ _ _ _ | refine Blk.alloc ?_ _)) hb7 (by simp <;> omega)
    have v0 := (hX2.cell 0).trans (show _ = some (.int .i64 i2) from rfl)
    have v1 := (hX2.cell 1).trans (show _ = some (.string t2) from rfl)
    have v2 := (hX2.cell 2).trans (show _ = some (.int .i64 g2) from rfl)
    have v3 := (hX2.cell 3).trans (show _ = some (.int .i64 d2) from rfl)
    have hwl2 := hX2.lt
    go_wp2_with fail
    refine (drawFirstMeeting_is A c cs hcs _ (hR.below (by repeat (first | exact Below.refl _ _ | refine Below.alloc ?_ (by first | exact Nat.le_refl _ | (simp <;> omega)) _ | refine Below.setCell ?_ (by first | exact Nat.le_refl _ | (simp <;> omega)) _)))).mono ?_
    rintro e w8 ⟨xs, Y, yc, rfl, hl, hO, hb8⟩
    have hq8 : Below w7.heap.size w7 w8 := bth (by repeat (first | exact Below.refl _ _ | refine Below.alloc ?_ (by first | exact Nat.le_refl _ | (simp <;> omega)) _ | refine Below.setCell ?_ (by first | exact Nat.le_refl _ | (simp <;> omega)) _)) hb8
    replace HB := bth HB hq8
    replace hR := hR.below hq8
    replace HT := HT.below hq8
    replace hX2 := hX2.below hq8 hX2.lt
    replace v0 := (hX2.cell 0).trans (show _ = some (.int .i64 i2) from rfl)
    replace v1 := (hX2.cell 1).trans (show _ = some (.string t2) from rfl)
    replace v2 := (hX2.cell 2).trans (show _ = some (.int .i64 g2) from rfl)
    replace v3 := (hX2.cell 3).trans (show _ = some (.int .i64 d2) from rfl)
    clear v0 v1 v2 v3
    have RX := hO.rds (hf := ntc_len)
    clear hO
    have hn : xs.length ≤ 1048576 := by omega
    obtain ⟨day, told, hfm⟩ := fmOut_form xs
    have HFM := Lib.hid hfm; clear hfm
    go_wp2_with fail
    refine (firstMeeting_is Y yc xs hn _ HFM.out _ (RX.below (by repeat (first | exact Below.refl _ _ | refine Below.alloc ?_ (by first | exact Nat.le_refl _ | (simp <;> omega)) _ | refine Below.setCell ?_ (by first | exact Nat.le_refl _ | (simp <;> omega)) _)))).mono ?_
    rintro e w9 ⟨rfl, hb9⟩
    have hq9 : Below w8.heap.size w8 w9 := bth (by repeat (first | exact Below.refl _ _ | refine Below.alloc ?_ (by first | exact Nat.le_refl _ | (simp <;> omega)) _ | refine Below.setCell ?_ (by first | exact Nat.le_refl _ | (simp <;> omega)) _)) hb9
    replace HB := bth HB hq9
    replace hR := hR.below hq9
    replace HT := HT.below hq9
    replace RX := RX.below hq9
    go_wp2_with fail
    refine (sFirstMeeting_is Y yc xs hn _ HFM.out _ (RX.below (by repeat (first | exact Below.refl _ _ | refine Below.alloc ?_ (by first | exact Nat.le_refl _ | (simp <;> omega)) _ | refine Below.setCell ?_ (by first | exact Nat.le_refl _ | (simp <;> omega)) _)))).mono ?_
    rintro e w10 ⟨rfl, hb10⟩
    have hq10 : Below w9.heap.size w9 w10 := bth (by repeat (first | exact Below.refl _ _ | refine Below.alloc ?_ (by first | exact Nat.le_refl _ | (simp <;> omega)) _ | refine Below.setCell ?_ (by first | exact Nat.le_refl _ | (simp <;> omega)) _)) hb10
    replace HB := bth HB hq10
    replace hR := hR.below hq10
    replace HT := HT.below hq10
    replace RX := RX.below hq10
    cases told
    · skip
      go_wp2_with fail
      refine (drawWithdrawNotice_is A c cs hcs _ (hR.below (by repeat (first | exact Below.refl _ _ | refine Below.alloc ?_ (by first | exact Nat.le_refl _ | (simp <;> omega)) _ | refine Below.setCell ?_ (by first | exact Nat.le_refl _ | (simp <;> omega)) _)))).mono ?_
      rintro e w11 ⟨ws, Y5, y5, wid, rfl, hwl5, O5, hb11⟩
      have hq11 : Below w10.heap.size w10 w11 := bth (by repeat (first | exact Below.refl _ _ | refine Below.alloc ?_ (by first | exact Nat.le_refl _ | (simp <;> omega)) _ | refine Below.setCell ?_ (by first | exact Nat.le_refl _ | (simp <;> omega)) _)) hb11
      replace HB := bth HB hq11
      replace hR := hR.below hq11
      replace HT := HT.below hq11
      replace RX := RX.below hq11
      have kc5 := own_cap O5 ntc_len
      have R5 := O5.rds (hf := ntc_len)
      clear O5
      have hw5 : ws.length ≤ 1048576 := by omega
      obtain ⟨LW, hLW⟩ : ∃ L, wnL ws wid = L := ⟨_, rfl⟩
      obtain ⟨bw, hbw⟩ : ∃ b, wnOk ws wid = b := ⟨_, rfl⟩
      have hLWl : LW.length ≤ 1048576 := hLW ▸ wnL_len ws wid hw5
      have HLW := Lib.hid hLW; clear hLW
      have HBW := Lib.hid hbw; clear hbw
      go_wp2_with fail
      refine (iWdV_is Y5 y5 ws hw5 wid LW HLW.out bw HBW.out _ (R5.below (by repeat (first | exact Below.refl _ _ | refine Below.alloc ?_ (by first | exact Nat.le_refl _ | (simp <;> omega)) _ | refine Below.setCell ?_ (by first | exact Nat.le_refl _ | (simp <;> omega)) _)))).mono ?_
      rintro e w12 ⟨A6, c6, rfl, O6, hb12⟩
      have hq12 : Below w11.heap.size w11 w12 := bth (by repeat (first | exact Below.refl _ _ | refine Below.alloc ?_ (by first | exact Nat.le_refl _ | (simp <;> omega)) _ | refine Below.setCell ?_ (by first | exact Nat.le_refl _ | (simp <;> omega)) _)) hb12
      replace HB := bth HB hq12
      replace hR := hR.below hq12
      replace HT := HT.below hq12
      replace RX := RX.below hq12
      replace R5 := R5.below hq12
      have R6 := O6.rds (hf := ntc_len)
      clear O6
      go_wp2_with fail
      refine (sWdV_is Y5 y5 ws hw5 wid LW HLW.out bw HBW.out _ (R5.below (by repeat (first | exact Below.refl _ _ | refine Below.alloc ?_ (by first | exact Nat.le_refl _ | (simp <;> omega)) _ | refine Below.setCell ?_ (by first | exact Nat.le_refl _ | (simp <;> omega)) _))) kc5).mono ?_
      rintro e w13 ⟨A7, c7, rfl, O7, hb13⟩
      have hq13 : Below w12.heap.size w12 w13 := bth (by repeat (first | exact Below.refl _ _ | refine Below.alloc ?_ (by first | exact Nat.le_refl _ | (simp <;> omega)) _ | refine Below.setCell ?_ (by first | exact Nat.le_refl _ | (simp <;> omega)) _)) hb13
      replace HB := bth HB hq13
      replace hR := hR.below hq13
      replace HT := HT.below hq13
      replace RX := RX.below hq13
      replace R5 := R5.below hq13
      replace R6 := R6.below hq13
      have R7 := O7.rds (hf := ntc_len)
      clear O7
      go_wp2_with fail
      refine (rNotices_is A6 A7 c6 c7 LW hLWl _ (R6.below (by repeat (first | exact Below.refl _ _ | refine Below.alloc ?_ (by first | exact Nat.le_refl _ | (simp <;> omega)) _ | refine Below.setCell ?_ (by first | exact Nat.le_refl _ | (simp <;> omega)) _))) (R7.below (by repeat (first | exact Below.refl _ _ | refine Below.alloc ?_ (by first | exact Nat.le_refl _ | (simp <;> omega)) _ | refine Below.setCell ?_ (by first | exact Nat.le_refl _ | (simp <;> omega)) _)))).mono ?_
      rintro e w14 ⟨rfl, hb14⟩
      have hq14 : Below w13.heap.size w13 w14 := bth (by repeat (first | exact Below.refl _ _ | refine Below.alloc ?_ (by first | exact Nat.le_refl _ | (simp <;> omega)) _ | refine Below.setCell ?_ (by first | exact Nat.le_refl _ | (simp <;> omega)) _)) hb14
      replace HB := bth HB hq14
      replace hR := hR.below hq14
      replace HT := HT.below hq14
      replace RX := RX.below hq14
      replace R5 := R5.below hq14
      replace R6 := R6.below hq14
      replace R7 := R7.below hq14
      go_wp2_with fail
      refine (drawRipeTopics_is A c cs hcs _ (hR.below (by repeat (first | exact Below.refl _ _ | refine Below.alloc ?_ (by first | exact Nat.le_refl _ | (simp <;> omega)) _ | refine Below.setCell ?_ (by first | exact Nat.le_refl _ | (simp <;> omega)) _)))).mono ?_
      rintro e w15 ⟨us, Y8, y8, ud, rfl, hul, hud, O8, hb15⟩
      have hq15 : Below w14.heap.size w14 w15 := bth (by repeat (first | exact Below.refl _ _ | refine Below.alloc ?_ (by first | exact Nat.le_refl _ | (simp <;> omega)) _ | refine Below.setCell ?_ (by first | exact Nat.le_refl _ | (simp <;> omega)) _)) hb15
      replace HB := bth HB hq15
      replace hR := hR.below hq15
      replace HT := HT.below hq15
      replace RX := RX.below hq15
      have R8 := O8.rds (hf := ntc_len)
      clear O8
      have hu8 : us.length ≤ 1048576 := by omega
      obtain ⟨LU, hLU⟩ : ∃ L, rpL us ud = L := ⟨_, rfl⟩
      obtain ⟨bu, hbu⟩ : ∃ b, rpOk us ud = b := ⟨_, rfl⟩
      have hLUl : LU.length ≤ 1048576 := by
        rw [← hLU]; unfold rpL; split
        · have := rpIns_len us ud us.length; omega
        · simp
      have HLU := Lib.hid hLU; clear hLU
      have HBU := Lib.hid hbu; clear hbu
      go_wp2_with fail
      refine (iRipeV_is Y8 y8 us hu8 ud LU HLU.out bu HBU.out _ (R8.below (by repeat (first | exact Below.refl _ _ | refine Below.alloc ?_ (by first | exact Nat.le_refl _ | (simp <;> omega)) _ | refine Below.setCell ?_ (by first | exact Nat.le_refl _ | (simp <;> omega)) _)))).mono ?_
      rintro e w16 ⟨A9, c9, rfl, O9, hb16⟩
      have hq16 : Below w15.heap.size w15 w16 := bth (by repeat (first | exact Below.refl _ _ | refine Below.alloc ?_ (by first | exact Nat.le_refl _ | (simp <;> omega)) _ | refine Below.setCell ?_ (by first | exact Nat.le_refl _ | (simp <;> omega)) _)) hb16
      replace HB := bth HB hq16
      replace hR := hR.below hq16
      replace HT := HT.below hq16
      replace RX := RX.below hq16
      replace R8 := R8.below hq16
      have R9 := O9.rds (hf := sC_len)
      clear O9
      go_wp2_with fail
      refine (sRipeV_is Y8 y8 us hu8 ud LU HLU.out bu HBU.out _ (R8.below (by repeat (first | exact Below.refl _ _ | refine Below.alloc ?_ (by first | exact Nat.le_refl _ | (simp <;> omega)) _ | refine Below.setCell ?_ (by first | exact Nat.le_refl _ | (simp <;> omega)) _)))).mono ?_
      rintro e w17 ⟨Aa, ca, rfl, Oa, hb17⟩
      have hq17 : Below w16.heap.size w16 w17 := bth (by repeat (first | exact Below.refl _ _ | refine Below.alloc ?_ (by first | exact Nat.le_refl _ | (simp <;> omega)) _ | refine Below.setCell ?_ (by first | exact Nat.le_refl _ | (simp <;> omega)) _)) hb17
      replace HB := bth HB hq17
      replace hR := hR.below hq17
      replace HT := HT.below hq17
      replace RX := RX.below hq17
      replace R8 := R8.below hq17
      replace R9 := R9.below hq17
      have Ra := Oa.rds (hf := sC_len)
      clear Oa
      go_wp2_with fail
      refine (rTexts_is A9 Aa c9 ca LU hLUl _ (R9.below (by repeat (first | exact Below.refl _ _ | refine Below.alloc ?_ (by first | exact Nat.le_refl _ | (simp <;> omega)) _ | refine Below.setCell ?_ (by first | exact Nat.le_refl _ | (simp <;> omega)) _))) (Ra.below (by repeat (first | exact Below.refl _ _ | refine Below.alloc ?_ (by first | exact Nat.le_refl _ | (simp <;> omega)) _ | refine Below.setCell ?_ (by first | exact Nat.le_refl _ | (simp <;> omega)) _)))).mono ?_
      rintro e w18 ⟨rfl, hb18⟩
      have hq18 : Below w17.heap.size w17 w18 := bth (by repeat (first | exact Below.refl _ _ | refine Below.alloc ?_ (by first | exact Nat.le_refl _ | (simp <;> omega)) _ | refine Below.setCell ?_ (by first | exact Nat.le_refl _ | (simp <;> omega)) _)) hb18
      replace HB := bth HB hq18
      replace hR := hR.below hq18
      replace HT := HT.below hq18
      replace RX := RX.below hq18
      replace R8 := R8.below hq18
      replace R9 := R9.below hq18
      replace Ra := Ra.below hq18
      go_wp2
      go_ret
      exact ⟨rfl, (bth HB (by repeat (first | exact Below.refl _ _ | refine Below.alloc ?_ (by first | exact Nat.le_refl _ | (simp <;> omega)) _ | refine Below.setCell ?_ (by first | exact Nat.le_refl _ | (simp <;> omega)) _)))⟩
    · have HY := Lib.hid (fmOut_yes HFM.out)
      have hday : 0 ≤ day ∧ day ≤ 3650 := inB_iff.1 HY.out.2.1
      obtain ⟨LR, hLR⟩ : ∃ L, rpL xs day = L := ⟨_, rfl⟩
      have hLRl : LR.length ≤ 1048576 := by
        rw [← hLR]; unfold rpL; split
        · have := rpIns_len xs day xs.length; omega
        · simp
      have HLR := Lib.hid hLR; clear hLR
      have HOK : Hid (rpOk xs day = true) := Lib.hid (by unfold rpOk; rw [HY.out.1, HY.out.2.1]; rfl)
      go_wp2_with fail
      refine (iRipeV_is Y yc xs hn day LR HLR.out true HOK.out _ (RX.below (by repeat (first | exact Below.refl _ _ | refine Below.alloc ?_ (by first | exact Nat.le_refl _ | (simp <;> omega)) _ | refine Below.setCell ?_ (by first | exact Nat.le_refl _ | (simp <;> omega)) _)))).mono ?_
      rintro e w11 ⟨AR, cR, rfl, OR, hb11⟩
      have hq11 : Below w10.heap.size w10 w11 := bth (by repeat (first | exact Below.refl _ _ | refine Below.alloc ?_ (by first | exact Nat.le_refl _ | (simp <;> omega)) _ | refine Below.setCell ?_ (by first | exact Nat.le_refl _ | (simp <;> omega)) _)) hb11
      replace HB := bth HB hq11
      replace hR := hR.below hq11
      replace HT := HT.below hq11
      replace RX := RX.below hq11
      have RR := OR.rds (hf := sC_len)
      clear OR
      go_wp2
      go_loopw [22, 23] (fun l i wr => ∃ (k L : Nat), k ≤ xs.length ∧ l = .int .i64 L ∧ i = .int .i64 k ∧ L ≤ k ∧ (fmt xs k = day → 0 < day → 0 < L) ∧ Below w11.heap.size w11 wr) (fun _ i _ => xs.length - (intOf i).toNat)
      case atStart => exact ⟨0, 0, Nat.zero_le _, rfl, rfl, Nat.le_refl _, fun h1 h2 => by rw [fmt_zero] at h1; omega, Below.refl _ _⟩
      case round =>
        obtain ⟨k, L, hk, rfl, rfl, hLk, hF, hb⟩ := hrel
        have HFF := Lib.hid hF; clear hF
        by_cases hlt : k < xs.length
        · obtain ⟨bx, off, x, rfl, hbl, hx, hcx⟩ := RX.at_ hb hlt
          have hvx := noticesB_at HY.out.1 hx
          have HM : Hid (ripeT x ∈ LR) := Lib.hid (HLR.out ▸ ripe_all HY.out.1 HY.out.2.1 HY.out.2.2 hx)
          obtain ⟨xi, xt, xg, xd, xs'⟩ := x
          obtain ⟨q1, q2, q3, q4, _, _⟩ := noticeB_bdN hvx
          clear hvx
          have f0 := hcx 0 _ rfl
          have f1 := hcx 1 _ rfl
          have f2 := hcx 2 _ rfl
          have f3 := hcx 3 _ rfl
          simp only [Nat.add_zero] at f0
          have z0 := f0 (Kin.self _)
          have z1 := f1 (Kin.self _)
          have z2 := f2 (Kin.self _)
          have z3 := f3 (Kin.self _)
          simp only [Kin.self] at z0
          simp only [Kin.self] at z1
          simp only [Kin.self] at z2
          simp only [Kin.self] at z3
          have HX := Lib.hid hx; clear hx hcx
          go_wp2_with fail
          refine (rHasText_is AR cR LR xt hLRl HM.out _ (RR.below hb)).mono ?_
          rintro e wq ⟨rfl, rfl⟩
          by_cases he : xg + xd = day
          · have he' : (xg + xd == day) = true := beq_iff_eq.2 he
            have HE := Lib.hid he; clear he
            go_wp2
            refine wp_region_kin (by kernel_rfl) (by kernel_rfl) ?_
            repeat (go_big_quiet_step ((fail)))
            refine wpQuiet_nil ?_
            intro K
            go_wp2
            go_roundw
            case rel => exact ⟨k + 1, L + 1, by omega, by go_num, by go_num, by omega, fun _ _ => by omega, bth hb K.below⟩
            case measure => simp [intOf]; omega
          · have he' : (xg + xd == day) = false := beq_eq_false_iff_ne.2 he
            have HE := Lib.hid he; clear he
            go_wp2
            refine wp_region_kin (by kernel_rfl) (by kernel_rfl) ?_
            repeat (go_big_quiet_step ((fail)))
            refine wpQuiet_nil ?_
            intro K
            go_wp2
            go_roundw
            case rel => exact ⟨k + 1, L, by omega, rfl, by go_num, by omega, late_no HX.out HE.out HFF.out, bth hb K.below⟩
            case measure => simp [intOf]; omega
        · obtain rfl : k = xs.length := by omega
          have hL0 : 0 < day → ((L : Int) == 0) = false := fun h => beq_eq_false_iff_ne.2 (by have := HFF.out HY.out.2.2 h; omega)
          have HLZ := Lib.hid hL0; clear hL0
          replace hR := hR.below hb
          replace HT := HT.below hb
          replace RX := RX.below hb
          replace RR := RR.below hb
          replace HB := bth HB hb
          by_cases hd0 : 0 < day
          · have hLb := HLZ.out hd0
            go_wp2_with fail
            refine (areNotices_is Y yc xs hn true HY.out.1 _ (RX.below (by repeat (first | exact Below.refl _ _ | refine Below.alloc ?_ (by first | exact Nat.le_refl _ | (simp <;> omega)) _ | refine Below.setCell ?_ (by first | exact Nat.le_refl _ | (simp <;> omega)) _)))).mono ?_
            rintro e w12 ⟨rfl, hb12⟩
            have hq12 : Below wr.heap.size wr w12 := bth (by repeat (first | exact Below.refl _ _ | refine Below.alloc ?_ (by first | exact Nat.le_refl _ | (simp <;> omega)) _ | refine Below.setCell ?_ (by first | exact Nat.le_refl _ | (simp <;> omega)) _)) hb12
            replace HB := bth HB hq12
            replace hR := hR.below hq12
            replace HT := HT.below hq12
            replace RX := RX.below hq12
            replace RR := RR.below hq12
            go_wp2_with fail
            refine (drawWithdrawNotice_is A c cs hcs _ (hR.below (by repeat (first | exact Below.refl _ _ | refine Below.alloc ?_ (by first | exact Nat.le_refl _ | (simp <;> omega)) _ | refine Below.setCell ?_ (by first | exact Nat.le_refl _ | (simp <;> omega)) _)))).mono ?_
            rintro e w13 ⟨ws, Y5, y5, wid, rfl, hwl5, O5, hb13⟩
            have hq13 : Below w12.heap.size w12 w13 := bth (by repeat (first | exact Below.refl _ _ | refine Below.alloc ?_ (by first | exact Nat.le_refl _ | (simp <;> omega)) _ | refine Below.setCell ?_ (by first | exact Nat.le_refl _ | (simp <;> omega)) _)) hb13
            replace HB := bth HB hq13
            replace hR := hR.below hq13
            replace HT := HT.below hq13
            replace RX := RX.below hq13
            replace RR := RR.below hq13
            have kc5 := own_cap O5 ntc_len
            have R5 := O5.rds (hf := ntc_len)
            clear O5
            have hw5 : ws.length ≤ 1048576 := by omega
            obtain ⟨LW, hLW⟩ : ∃ L, wnL ws wid = L := ⟨_, rfl⟩
            obtain ⟨bw, hbw⟩ : ∃ b, wnOk ws wid = b := ⟨_, rfl⟩
            have hLWl : LW.length ≤ 1048576 := hLW ▸ wnL_len ws wid hw5
            have HLW := Lib.hid hLW; clear hLW
            have HBW := Lib.hid hbw; clear hbw
            go_wp2_with fail
            refine (iWdV_is Y5 y5 ws hw5 wid LW HLW.out bw HBW.out _ (R5.below (by repeat (first | exact Below.refl _ _ | refine Below.alloc ?_ (by first | exact Nat.le_refl _ | (simp <;> omega)) _ | refine Below.setCell ?_ (by first | exact Nat.le_refl _ | (simp <;> omega)) _)))).mono ?_
            rintro e w14 ⟨A6, c6, rfl, O6, hb14⟩
            have hq14 : Below w13.heap.size w13 w14 := bth (by repeat (first | exact Below.refl _ _ | refine Below.alloc ?_ (by first | exact Nat.le_refl _ | (simp <;> omega)) _ | refine Below.setCell ?_ (by first | exact Nat.le_refl _ | (simp <;> omega)) _)) hb14
            replace HB := bth HB hq14
            replace hR := hR.below hq14
            replace HT := HT.below hq14
            replace RX := RX.below hq14
            replace RR := RR.below hq14
            replace R5 := R5.below hq14
            have R6 := O6.rds (hf := ntc_len)
            clear O6
            go_wp2_with fail
            refine (sWdV_is Y5 y5 ws hw5 wid LW HLW.out bw HBW.out _ (R5.below (by repeat (first | exact Below.refl _ _ | refine Below.alloc ?_ (by first | exact Nat.le_refl _ | (simp <;> omega)) _ | refine Below.setCell ?_ (by first | exact Nat.le_refl _ | (simp <;> omega)) _))) kc5).mono ?_
            rintro e w15 ⟨A7, c7, rfl, O7, hb15⟩
            have hq15 : Below w14.heap.size w14 w15 := bth (by repeat (first | exact Below.refl _ _ | refine Below.alloc ?_ (by first | exact Nat.le_refl _ | (simp <;> omega)) _ | refine Below.setCell ?_ (by first | exact Nat.le_refl _ | (simp <;> omega)) _)) hb15
            replace HB := bth HB hq15
            replace hR := hR.below hq15
            replace HT := HT.below hq15
            replace RX := RX.below hq15
            replace RR := RR.below hq15
            replace R5 := R5.below hq15
            replace R6 := R6.below hq15
            have R7 := O7.rds (hf := ntc_len)
            clear O7
            go_wp2_with fail
            refine (rNotices_is A6 A7 c6 c7 LW hLWl _ (R6.below (by repeat (first | exact Below.refl _ _ | refine Below.alloc ?_ (by first | exact Nat.le_refl _ | (simp <;> omega)) _ | refine Below.setCell ?_ (by first | exact Nat.le_refl _ | (simp <;> omega)) _))) (R7.below (by repeat (first | exact Below.refl _ _ | refine Below.alloc ?_ (by first | exact Nat.le_refl _ | (simp <;> omega)) _ | refine Below.setCell ?_ (by first | exact Nat.le_refl _ | (simp <;> omega)) _)))).mono ?_
            rintro e w16 ⟨rfl, hb16⟩
            have hq16 : Below w15.heap.size w15 w16 := bth (by repeat (first | exact Below.refl _ _ | refine Below.alloc ?_ (by first | exact Nat.le_refl _ | (simp <;> omega)) _ | refine Below.setCell ?_ (by first | exact Nat.le_refl _ | (simp <;> omega)) _)) hb16
            replace HB := bth HB hq16
            replace hR := hR.below hq16
            replace HT := HT.below hq16
            replace RX := RX.below hq16
            replace RR := RR.below hq16
            replace R5 := R5.below hq16
            replace R6 := R6.below hq16
            replace R7 := R7.below hq16
            go_wp2_with fail
            refine (drawRipeTopics_is A c cs hcs _ (hR.below (by repeat (first | exact Below.refl _ _ | refine Below.alloc ?_ (by first | exact Nat.le_refl _ | (simp <;> omega)) _ | refine Below.setCell ?_ (by first | exact Nat.le_refl _ | (simp <;> omega)) _)))).mono ?_
            rintro e w17 ⟨us, Y8, y8, ud, rfl, hul, hud, O8, hb17⟩
            have hq17 : Below w16.heap.size w16 w17 := bth (by repeat (first | exact Below.refl _ _ | refine Below.alloc ?_ (by first | exact Nat.le_refl _ | (simp <;> omega)) _ | refine Below.setCell ?_ (by first | exact Nat.le_refl _ | (simp <;> omega)) _)) hb17
            replace HB := bth HB hq17
            replace hR := hR.below hq17
            replace HT := HT.below hq17
            replace RX := RX.below hq17
            replace RR := RR.below hq17
            have R8 := O8.rds (hf := ntc_len)
            clear O8
            have hu8 : us.length ≤ 1048576 := by omega
            obtain ⟨LU, hLU⟩ : ∃ L, rpL us ud = L := ⟨_, rfl⟩
            obtain ⟨bu, hbu⟩ : ∃ b, rpOk us ud = b := ⟨_, rfl⟩
            have hLUl : LU.length ≤ 1048576 := by
              rw [← hLU]; unfold rpL; split
              · have := rpIns_len us ud us.length; omega
              · simp
            have HLU := Lib.hid hLU; clear hLU
            have HBU := Lib.hid hbu; clear hbu
            go_wp2_with fail
            refine (iRipeV_is Y8 y8 us hu8 ud LU HLU.out bu HBU.out _ (R8.below (by repeat (first | exact Below.refl _ _ | refine Below.alloc ?_ (by first | exact Nat.le_refl _ | (simp <;> omega)) _ | refine Below.setCell ?_ (by first | exact Nat.le_refl _ | (simp <;> omega)) _)))).mono ?_
            rintro e w18 ⟨A9, c9, rfl, O9, hb18⟩
            have hq18 : Below w17.heap.size w17 w18 := bth (by repeat (first | exact Below.refl _ _ | refine Below.alloc ?_ (by first | exact Nat.le_refl _ | (simp <;> omega)) _ | refine Below.setCell ?_ (by first | exact Nat.le_refl _ | (simp <;> omega)) _)) hb18
            replace HB := bth HB hq18
            replace hR := hR.below hq18
            replace HT := HT.below hq18
            replace RX := RX.below hq18
            replace RR := RR.below hq18
            replace R8 := R8.below hq18
            have R9 := O9.rds (hf := sC_len)
            clear O9
            go_wp2_with fail
            refine (sRipeV_is Y8 y8 us hu8 ud LU HLU.out bu HBU.out _ (R8.below (by repeat (first | exact Below.refl _ _ | refine Below.alloc ?_ (by first | exact Nat.le_refl _ | (simp <;> omega)) _ | refine Below.setCell ?_ (by first | exact Nat.le_refl _ | (simp <;> omega)) _)))).mono ?_
            rintro e w19 ⟨Aa, ca, rfl, Oa, hb19⟩
            have hq19 : Below w18.heap.size w18 w19 := bth (by repeat (first | exact Below.refl _ _ | refine Below.alloc ?_ (by first | exact Nat.le_refl _ | (simp <;> omega)) _ | refine Below.setCell ?_ (by first | exact Nat.le_refl _ | (simp <;> omega)) _)) hb19
            replace HB := bth HB hq19
            replace hR := hR.below hq19
            replace HT := HT.below hq19
            replace RX := RX.below hq19
            replace RR := RR.below hq19
            replace R8 := R8.below hq19
            replace R9 := R9.below hq19
            have Ra := Oa.rds (hf := sC_len)
            clear Oa
            go_wp2_with fail
            refine (rTexts_is A9 Aa c9 ca LU hLUl _ (R9.below (by repeat (first | exact Below.refl _ _ | refine Below.alloc ?_ (by first | exact Nat.le_refl _ | (simp <;> omega)) _ | refine Below.setCell ?_ (by first | exact Nat.le_refl _ | (simp <;> omega)) _))) (Ra.below (by repeat (first | exact Below.refl _ _ | refine Below.alloc ?_ (by first | exact Nat.le_refl _ | (simp <;> omega)) _ | refine Below.setCell ?_ (by first | exact Nat.le_refl _ | (simp <;> omega)) _)))).mono ?_
            rintro e w20 ⟨rfl, hb20⟩
            have hq20 : Below w19.heap.size w19 w20 := bth (by repeat (first | exact Below.refl _ _ | refine Below.alloc ?_ (by first | exact Nat.le_refl _ | (simp <;> omega)) _ | refine Below.setCell ?_ (by first | exact Nat.le_refl _ | (simp <;> omega)) _)) hb20
            replace HB := bth HB hq20
            replace hR := hR.below hq20
            replace HT := HT.below hq20
            replace RX := RX.below hq20
            replace RR := RR.below hq20
            replace R8 := R8.below hq20
            replace R9 := R9.below hq20
            replace Ra := Ra.below hq20
            go_wp2
            go_ret
            exact ⟨rfl, (bth HB (by repeat (first | exact Below.refl _ _ | refine Below.alloc ?_ (by first | exact Nat.le_refl _ | (simp <;> omega)) _ | refine Below.setCell ?_ (by first | exact Nat.le_refl _ | (simp <;> omega)) _)))⟩
          · go_wp2_with fail
            refine (areNotices_is Y yc xs hn true HY.out.1 _ (RX.below (by repeat (first | exact Below.refl _ _ | refine Below.alloc ?_ (by first | exact Nat.le_refl _ | (simp <;> omega)) _ | refine Below.setCell ?_ (by first | exact Nat.le_refl _ | (simp <;> omega)) _)))).mono ?_
            rintro e w12 ⟨rfl, hb12⟩
            have hq12 : Below wr.heap.size wr w12 := bth (by repeat (first | exact Below.refl _ _ | refine Below.alloc ?_ (by first | exact Nat.le_refl _ | (simp <;> omega)) _ | refine Below.setCell ?_ (by first | exact Nat.le_refl _ | (simp <;> omega)) _)) hb12
            replace HB := bth HB hq12
            replace hR := hR.below hq12
            replace HT := HT.below hq12
            replace RX := RX.below hq12
            replace RR := RR.below hq12
            go_wp2_with fail
            refine (drawWithdrawNotice_is A c cs hcs _ (hR.below (by repeat (first | exact Below.refl _ _ | refine Below.alloc ?_ (by first | exact Nat.le_refl _ | (simp <;> omega)) _ | refine Below.setCell ?_ (by first | exact Nat.le_refl _ | (simp <;> omega)) _)))).mono ?_
            rintro e w13 ⟨ws, Y5, y5, wid, rfl, hwl5, O5, hb13⟩
            have hq13 : Below w12.heap.size w12 w13 := bth (by repeat (first | exact Below.refl _ _ | refine Below.alloc ?_ (by first | exact Nat.le_refl _ | (simp <;> omega)) _ | refine Below.setCell ?_ (by first | exact Nat.le_refl _ | (simp <;> omega)) _)) hb13
            replace HB := bth HB hq13
            replace hR := hR.below hq13
            replace HT := HT.below hq13
            replace RX := RX.below hq13
            replace RR := RR.below hq13
            have kc5 := own_cap O5 ntc_len
            have R5 := O5.rds (hf := ntc_len)
            clear O5
            have hw5 : ws.length ≤ 1048576 := by omega
            obtain ⟨LW, hLW⟩ : ∃ L, wnL ws wid = L := ⟨_, rfl⟩
            obtain ⟨bw, hbw⟩ : ∃ b, wnOk ws wid = b := ⟨_, rfl⟩
            have hLWl : LW.length ≤ 1048576 := hLW ▸ wnL_len ws wid hw5
            have HLW := Lib.hid hLW; clear hLW
            have HBW := Lib.hid hbw; clear hbw
            go_wp2_with fail
            refine (iWdV_is Y5 y5 ws hw5 wid LW HLW.out bw HBW.out _ (R5.below (by repeat (first | exact Below.refl _ _ | refine Below.alloc ?_ (by first | exact Nat.le_refl _ | (simp <;> omega)) _ | refine Below.setCell ?_ (by first | exact Nat.le_refl _ | (simp <;> omega)) _)))).mono ?_
            rintro e w14 ⟨A6, c6, rfl, O6, hb14⟩
            have hq14 : Below w13.heap.size w13 w14 := bth (by repeat (first | exact Below.refl _ _ | refine Below.alloc ?_ (by first | exact Nat.le_refl _ | (simp <;> omega)) _ | refine Below.setCell ?_ (by first | exact Nat.le_refl _ | (simp <;> omega)) _)) hb14
            replace HB := bth HB hq14
            replace hR := hR.below hq14
            replace HT := HT.below hq14
            replace RX := RX.below hq14
            replace RR := RR.below hq14
            replace R5 := R5.below hq14
            have R6 := O6.rds (hf := ntc_len)
            clear O6
            go_wp2_with fail
            refine (sWdV_is Y5 y5 ws hw5 wid LW HLW.out bw HBW.out _ (R5.below (by repeat (first | exact Below.refl _ _ | refine Below.alloc ?_ (by first | exact Nat.le_refl _ | (simp <;> omega)) _ | refine Below.setCell ?_ (by first | exact Nat.le_refl _ | (simp <;> omega)) _))) kc5).mono ?_
            rintro e w15 ⟨A7, c7, rfl, O7, hb15⟩
            have hq15 : Below w14.heap.size w14 w15 := bth (by repeat (first | exact Below.refl _ _ | refine Below.alloc ?_ (by first | exact Nat.le_refl _ | (simp <;> omega)) _ | refine Below.setCell ?_ (by first | exact Nat.le_refl _ | (simp <;> omega)) _)) hb15
            replace HB := bth HB hq15
            replace hR := hR.below hq15
            replace HT := HT.below hq15
            replace RX := RX.below hq15
            replace RR := RR.below hq15
            replace R5 := R5.below hq15
            replace R6 := R6.below hq15
            have R7 := O7.rds (hf := ntc_len)
            clear O7
            go_wp2_with fail
            refine (rNotices_is A6 A7 c6 c7 LW hLWl _ (R6.below (by repeat (first | exact Below.refl _ _ | refine Below.alloc ?_ (by first | exact Nat.le_refl _ | (simp <;> omega)) _ | refine Below.setCell ?_ (by first | exact Nat.le_refl _ | (simp <;> omega)) _))) (R7.below (by repeat (first | exact Below.refl _ _ | refine Below.alloc ?_ (by first | exact Nat.le_refl _ | (simp <;> omega)) _ | refine Below.setCell ?_ (by first | exact Nat.le_refl _ | (simp <;> omega)) _)))).mono ?_
            rintro e w16 ⟨rfl, hb16⟩
            have hq16 : Below w15.heap.size w15 w16 := bth (by repeat (first | exact Below.refl _ _ | refine Below.alloc ?_ (by first | exact Nat.le_refl _ | (simp <;> omega)) _ | refine Below.setCell ?_ (by first | exact Nat.le_refl _ | (simp <;> omega)) _)) hb16
            replace HB := bth HB hq16
            replace hR := hR.below hq16
            replace HT := HT.below hq16
            replace RX := RX.below hq16
            replace RR := RR.below hq16
            replace R5 := R5.below hq16
            replace R6 := R6.below hq16
            replace R7 := R7.below hq16
            go_wp2_with fail
            refine (drawRipeTopics_is A c cs hcs _ (hR.below (by repeat (first | exact Below.refl _ _ | refine Below.alloc ?_ (by first | exact Nat.le_refl _ | (simp <;> omega)) _ | refine Below.setCell ?_ (by first | exact Nat.le_refl _ | (simp <;> omega)) _)))).mono ?_
            rintro e w17 ⟨us, Y8, y8, ud, rfl, hul, hud, O8, hb17⟩
            have hq17 : Below w16.heap.size w16 w17 := bth (by repeat (first | exact Below.refl _ _ | refine Below.alloc ?_ (by first | exact Nat.le_refl _ | (simp <;> omega)) _ | refine Below.setCell ?_ (by first | exact Nat.le_refl _ | (simp <;> omega)) _)) hb17
            replace HB := bth HB hq17
            replace hR := hR.below hq17
            replace HT := HT.below hq17
            replace RX := RX.below hq17
            replace RR := RR.below hq17
            have R8 := O8.rds (hf := ntc_len)
            clear O8
            have hu8 : us.length ≤ 1048576 := by omega
            obtain ⟨LU, hLU⟩ : ∃ L, rpL us ud = L := ⟨_, rfl⟩
            obtain ⟨bu, hbu⟩ : ∃ b, rpOk us ud = b := ⟨_, rfl⟩
            have hLUl : LU.length ≤ 1048576 := by
              rw [← hLU]; unfold rpL; split
              · have := rpIns_len us ud us.length; omega
              · simp
            have HLU := Lib.hid hLU; clear hLU
            have HBU := Lib.hid hbu; clear hbu
            go_wp2_with fail
            refine (iRipeV_is Y8 y8 us hu8 ud LU HLU.out bu HBU.out _ (R8.below (by repeat (first | exact Below.refl _ _ | refine Below.alloc ?_ (by first | exact Nat.le_refl _ | (simp <;> omega)) _ | refine Below.setCell ?_ (by first | exact Nat.le_refl _ | (simp <;> omega)) _)))).mono ?_
            rintro e w18 ⟨A9, c9, rfl, O9, hb18⟩
            have hq18 : Below w17.heap.size w17 w18 := bth (by repeat (first | exact Below.refl _ _ | refine Below.alloc ?_ (by first | exact Nat.le_refl _ | (simp <;> omega)) _ | refine Below.setCell ?_ (by first | exact Nat.le_refl _ | (simp <;> omega)) _)) hb18
            replace HB := bth HB hq18
            replace hR := hR.below hq18
            replace HT := HT.below hq18
            replace RX := RX.below hq18
            replace RR := RR.below hq18
            replace R8 := R8.below hq18
            have R9 := O9.rds (hf := sC_len)
            clear O9
            go_wp2_with fail
            refine (sRipeV_is Y8 y8 us hu8 ud LU HLU.out bu HBU.out _ (R8.below (by repeat (first | exact Below.refl _ _ | refine Below.alloc ?_ (by first | exact Nat.le_refl _ | (simp <;> omega)) _ | refine Below.setCell ?_ (by first | exact Nat.le_refl _ | (simp <;> omega)) _)))).mono ?_
            rintro e w19 ⟨Aa, ca, rfl, Oa, hb19⟩
            have hq19 : Below w18.heap.size w18 w19 := bth (by repeat (first | exact Below.refl _ _ | refine Below.alloc ?_ (by first | exact Nat.le_refl _ | (simp <;> omega)) _ | refine Below.setCell ?_ (by first | exact Nat.le_refl _ | (simp <;> omega)) _)) hb19
            replace HB := bth HB hq19
            replace hR := hR.below hq19
            replace HT := HT.below hq19
            replace RX := RX.below hq19
            replace RR := RR.below hq19
            replace R8 := R8.below hq19
            replace R9 := R9.below hq19
            have Ra := Oa.rds (hf := sC_len)
            clear Oa
            go_wp2_with fail
            refine (rTexts_is A9 Aa c9 ca LU hLUl _ (R9.below (by repeat (first | exact Below.refl _ _ | refine Below.alloc ?_ (by first | exact Nat.le_refl _ | (simp <;> omega)) _ | refine Below.setCell ?_ (by first | exact Nat.le_refl _ | (simp <;> omega)) _))) (Ra.below (by repeat (first | exact Below.refl _ _ | refine Below.alloc ?_ (by first | exact Nat.le_refl _ | (simp <;> omega)) _ | refine Below.setCell ?_ (by first | exact Nat.le_refl _ | (simp <;> omega)) _)))).mono ?_
            rintro e w20 ⟨rfl, hb20⟩
            have hq20 : Below w19.heap.size w19 w20 := bth (by repeat (first | exact Below.refl _ _ | refine Below.alloc ?_ (by first | exact Nat.le_refl _ | (simp <;> omega)) _ | refine Below.setCell ?_ (by first | exact Nat.le_refl _ | (simp <;> omega)) _)) hb20
            replace HB := bth HB hq20
            replace hR := hR.below hq20
            replace HT := HT.below hq20
            replace RX := RX.below hq20
            replace RR := RR.below hq20
            replace R8 := R8.below hq20
            replace R9 := R9.below hq20
            replace Ra := Ra.below hq20
            go_wp2
            go_ret
            exact ⟨rfl, (bth HB (by repeat (first | exact Below.refl _ _ | refine Below.alloc ?_ (by first | exact Nat.le_refl _ | (simp <;> omega)) _ | refine Below.setCell ?_ (by first | exact Nat.le_refl _ | (simp <;> omega)) _)))⟩
  · obtain ⟨s, hs⟩ : ∃ s, Ntc.txt ⟨i, t, g, d, hml⟩ = s := ⟨_, rfl⟩
    have EO : Hid (ntOut ⟨i, t, g, d, hml⟩ = .tuple #[.string s, .bool true]) := Lib.hid (by simp [ntOut, hr, hs])
    have hss : s.size ≤ 1048576 := by have := txt_size hr; rw [hs] at this; omega
    have HV1 : Hid (pnV s = .tuple #[.agg #[.int .i64 i, .string t, .int .i64 g, .int .i64 d], .bool true]) := Lib.hid (pnV_yes (show isT s ⟨i, t, g, d, hml⟩ from ⟨hr, hs⟩))
    clear hr hs
    go_wp2_with fail
    refine (iNoticeText_is ⟨i, t, g, d, hml⟩ _ EO.out _ (Tbn.tab (HT.below (by repeat (first | exact Below.refl _ _ | refine Below.alloc ?_ (by first | exact Nat.le_refl _ | (simp <;> omega)) _ | refine Below.setCell ?_ (by first | exact Nat.le_refl _ | (simp <;> omega)) _))))).mono ?_
    rintro e w2 ⟨rfl, hb2⟩
    have hq2 : Below w1.heap.size w1 w2 := bth (by repeat (first | exact Below.refl _ _ | refine Below.alloc ?_ (by first | exact Nat.le_refl _ | (simp <;> omega)) _ | refine Below.setCell ?_ (by first | exact Nat.le_refl _ | (simp <;> omega)) _)) hb2
    replace HB := bth HB hq2
    replace hR := hR.below hq2
    replace HT := HT.below hq2
    have hW : Blk w2 (w1.heap.size) 42 #[.int .i64 i, .string t, .int .i64 g, .int .i64 d] := Blk.below (by repeat (first | exact Blk.new _ _ _ | exact Blk.new2 _ _ _ _ | exact Blk.new3 _ _ _ _ _ | exact Blk.new4 _ _ _ _ _ _ | refine Blk.alloc ?_ _)) hb2 (by simp <;> omega)
    have x0 := (hW.cell 0).trans (show _ = some (.int .i64 i) from rfl)
    have x1 := (hW.cell 1).trans (show _ = some (.string t) from rfl)
    have x2 := (hW.cell 2).trans (show _ = some (.int .i64 g) from rfl)
    have x3 := (hW.cell 3).trans (show _ = some (.int .i64 d) from rfl)
    have hwl := hW.lt
    go_wp2_with fail
    refine (sNoticeText_is ⟨i, t, g, d, hml⟩ _ EO.out _).mono ?_
    rintro e w3 ⟨rfl, hb3⟩
    have hq3 : Below w2.heap.size w2 w3 := bth (by repeat (first | exact Below.refl _ _ | refine Below.alloc ?_ (by first | exact Nat.le_refl _ | (simp <;> omega)) _ | refine Below.setCell ?_ (by first | exact Nat.le_refl _ | (simp <;> omega)) _)) hb3
    replace HB := bth HB hq3
    replace hR := hR.below hq3
    replace HT := HT.below hq3
    replace hW := hW.below hq3 hW.lt
    replace x0 := (hW.cell 0).trans (show _ = some (.int .i64 i) from rfl)
    replace x1 := (hW.cell 1).trans (show _ = some (.string t) from rfl)
    replace x2 := (hW.cell 2).trans (show _ = some (.int .i64 g) from rfl)
    replace x3 := (hW.cell 3).trans (show _ = some (.int .i64 d) from rfl)
    go_wp2_with fail
    refine (iPNV_is s hss _ HV1.out _ (HT.below (by repeat (first | exact Below.refl _ _ | refine Below.alloc ?_ (by first | exact Nat.le_refl _ | (simp <;> omega)) _ | refine Below.setCell ?_ (by first | exact Nat.le_refl _ | (simp <;> omega)) _)))).mono ?_
    rintro e w4 ⟨rfl, hb4⟩
    have hq4 : Below w3.heap.size w3 w4 := bth (by repeat (first | exact Below.refl _ _ | refine Below.alloc ?_ (by first | exact Nat.le_refl _ | (simp <;> omega)) _ | refine Below.setCell ?_ (by first | exact Nat.le_refl _ | (simp <;> omega)) _)) hb4
    replace HB := bth HB hq4
    replace hR := hR.below hq4
    replace HT := HT.below hq4
    replace hW := hW.below hq4 hW.lt
    replace x0 := (hW.cell 0).trans (show _ = some (.int .i64 i) from rfl)
    replace x1 := (hW.cell 1).trans (show _ = some (.string t) from rfl)
    replace x2 := (hW.cell 2).trans (show _ = some (.int .i64 g) from rfl)
    replace x3 := (hW.cell 3).trans (show _ = some (.int .i64 d) from rfl)
    have hwl4 := hW.lt
    go_wp2_with fail
    refine (drawParseNotice_is A c cs hcs _ (hR.below (by repeat (first | exact Below.refl _ _ | refine Below.alloc ?_ (by first | exact Nat.le_refl _ | (simp <;> omega)) _ | refine Below.setCell ?_ (by first | exact Nat.le_refl _ | (simp <;> omega)) _)))).mono ?_
    rintro e w5 ⟨s2, rfl, hs2, hb5⟩
    have hq5 : Below w4.heap.size w4 w5 := bth (by repeat (first | exact Below.refl _ _ | refine Below.alloc ?_ (by first | exact Nat.le_refl _ | (simp <;> omega)) _ | refine Below.setCell ?_ (by first | exact Nat.le_refl _ | (simp <;> omega)) _)) hb5
    replace HB := bth HB hq5
    replace hR := hR.below hq5
    replace HT := HT.below hq5
    replace hW := hW.below hq5 hW.lt
    replace x0 := (hW.cell 0).trans (show _ = some (.int .i64 i) from rfl)
    replace x1 := (hW.cell 1).trans (show _ = some (.string t) from rfl)
    replace x2 := (hW.cell 2).trans (show _ = some (.int .i64 g) from rfl)
    replace x3 := (hW.cell 3).trans (show _ = some (.int .i64 d) from rfl)
    clear x0 x1 x2 x3
    obtain ⟨i2, t2, g2, d2, b2, hv2⟩ := pnV_form s2
    have HV2 := Lib.hid hv2; clear hv2
    go_wp2_with fail
    refine (iPNV_is s2 (by omega) _ HV2.out _ (HT.below (by repeat (first | exact Below.refl _ _ | refine Below.alloc ?_ (by first | exact Nat.le_refl _ | (simp <;> omega)) _ | refine Below.setCell ?_ (by first | exact Nat.le_refl _ | (simp <;> omega)) _)))).mono ?_
    rintro e w6 ⟨rfl, hb6⟩
    have hq6 : Below w5.heap.size w5 w6 := bth (by repeat (first | exact Below.refl _ _ | refine Below.alloc ?_ (by first | exact Nat.le_refl _ | (simp <;> omega)) _ | refine Below.setCell ?_ (by first | exact Nat.le_refl _ | (simp <;> omega)) _)) hb6
    replace HB := bth HB hq6
    replace hR := hR.below hq6
    replace HT := HT.below hq6
    go_wp2_with fail
    refine (sPNV_is s2 (by omega) _ HV2.out _).mono ?_
    rintro e w7 ⟨rfl, hb7⟩
    have hq7 : Below w6.heap.size w6 w7 := bth (by repeat (first | exact Below.refl _ _ | refine Below.alloc ?_ (by first | exact Nat.le_refl _ | (simp <;> omega)) _ | refine Below.setCell ?_ (by first | exact Nat.le_refl _ | (simp <;> omega)) _)) hb7
    replace HB := bth HB hq7
    replace hR := hR.below hq7
    replace HT := HT.below hq7
    have hX2 : Blk w7 (w6.heap.size) 42 #[.int .i64 i2, .string t2, .int .i64 g2, .int .i64 d2] := Blk.below (by repeat (first | exact Blk.new _ _ _ | exact Blk.new2 _ _ _ _ | exact Blk.new3 _ _ _ _ _ | exact Blk.new4 _ _ _ _ _ _ | refine Blk.alloc ?_ _)) hb7 (by simp <;> omega)
    have v0 := (hX2.cell 0).trans (show _ = some (.int .i64 i2) from rfl)
    have v1 := (hX2.cell 1).trans (show _ = some (.string t2) from rfl)
    have v2 := (hX2.cell 2).trans (show _ = some (.int .i64 g2) from rfl)
    have v3 := (hX2.cell 3).trans (show _ = some (.int .i64 d2) from rfl)
    have hwl2 := hX2.lt
    go_wp2_with fail
    refine (drawFirstMeeting_is A c cs hcs _ (hR.below (by repeat (first | exact Below.refl _ _ | refine Below.alloc ?_ (by first | exact Nat.le_refl _ | (simp <;> omega)) _ | refine Below.setCell ?_ (by first | exact Nat.le_refl _ | (simp <;> omega)) _)))).mono ?_
    rintro e w8 ⟨xs, Y, yc, rfl, hl, hO, hb8⟩
    have hq8 : Below w7.heap.size w7 w8 := bth (by repeat (first | exact Below.refl _ _ | refine Below.alloc ?_ (by first | exact Nat.le_refl _ | (simp <;> omega)) _ | refine Below.setCell ?_ (by first | exact Nat.le_refl _ | (simp <;> omega)) _)) hb8
    replace HB := bth HB hq8
    replace hR := hR.below hq8
    replace HT := HT.below hq8
    replace hX2 := hX2.below hq8 hX2.lt
    replace v0 := (hX2.cell 0).trans (show _ = some (.int .i64 i2) from rfl)
    replace v1 := (hX2.cell 1).trans (show _ = some (.string t2) from rfl)
    replace v2 := (hX2.cell 2).trans (show _ = some (.int .i64 g2) from rfl)
    replace v3 := (hX2.cell 3).trans (show _ = some (.int .i64 d2) from rfl)
    clear v0 v1 v2 v3
    have RX := hO.rds (hf := ntc_len)
    clear hO
    have hn : xs.length ≤ 1048576 := by omega
    obtain ⟨day, told, hfm⟩ := fmOut_form xs
    have HFM := Lib.hid hfm; clear hfm
    go_wp2_with fail
    refine (firstMeeting_is Y yc xs hn _ HFM.out _ (RX.below (by repeat (first | exact Below.refl _ _ | refine Below.alloc ?_ (by first | exact Nat.le_refl _ | (simp <;> omega)) _ | refine Below.setCell ?_ (by first | exact Nat.le_refl _ | (simp <;> omega)) _)))).mono ?_
    rintro e w9 ⟨rfl, hb9⟩
    have hq9 : Below w8.heap.size w8 w9 := bth (by repeat (first | exact Below.refl _ _ | refine Below.alloc ?_ (by first | exact Nat.le_refl _ | (simp <;> omega)) _ | refine Below.setCell ?_ (by first | exact Nat.le_refl _ | (simp <;> omega)) _)) hb9
    replace HB := bth HB hq9
    replace hR := hR.below hq9
    replace HT := HT.below hq9
    replace RX := RX.below hq9
    go_wp2_with fail
    refine (sFirstMeeting_is Y yc xs hn _ HFM.out _ (RX.below (by repeat (first | exact Below.refl _ _ | refine Below.alloc ?_ (by first | exact Nat.le_refl _ | (simp <;> omega)) _ | refine Below.setCell ?_ (by first | exact Nat.le_refl _ | (simp <;> omega)) _)))).mono ?_
    rintro e w10 ⟨rfl, hb10⟩
    have hq10 : Below w9.heap.size w9 w10 := bth (by repeat (first | exact Below.refl _ _ | refine Below.alloc ?_ (by first | exact Nat.le_refl _ | (simp <;> omega)) _ | refine Below.setCell ?_ (by first | exact Nat.le_refl _ | (simp <;> omega)) _)) hb10
    replace HB := bth HB hq10
    replace hR := hR.below hq10
    replace HT := HT.below hq10
    replace RX := RX.below hq10
    cases told
    · skip
      go_wp2_with fail
      refine (drawWithdrawNotice_is A c cs hcs _ (hR.below (by repeat (first | exact Below.refl _ _ | refine Below.alloc ?_ (by first | exact Nat.le_refl _ | (simp <;> omega)) _ | refine Below.setCell ?_ (by first | exact Nat.le_refl _ | (simp <;> omega)) _)))).mono ?_
      rintro e w11 ⟨ws, Y5, y5, wid, rfl, hwl5, O5, hb11⟩
      have hq11 : Below w10.heap.size w10 w11 := bth (by repeat (first | exact Below.refl _ _ | refine Below.alloc ?_ (by first | exact Nat.le_refl _ | (simp <;> omega)) _ | refine Below.setCell ?_ (by first | exact Nat.le_refl _ | (simp <;> omega)) _)) hb11
      replace HB := bth HB hq11
      replace hR := hR.below hq11
      replace HT := HT.below hq11
      replace RX := RX.below hq11
      have kc5 := own_cap O5 ntc_len
      have R5 := O5.rds (hf := ntc_len)
      clear O5
      have hw5 : ws.length ≤ 1048576 := by omega
      obtain ⟨LW, hLW⟩ : ∃ L, wnL ws wid = L := ⟨_, rfl⟩
      obtain ⟨bw, hbw⟩ : ∃ b, wnOk ws wid = b := ⟨_, rfl⟩
      have hLWl : LW.length ≤ 1048576 := hLW ▸ wnL_len ws wid hw5
      have HLW := Lib.hid hLW; clear hLW
      have HBW := Lib.hid hbw; clear hbw
      go_wp2_with fail
      refine (iWdV_is Y5 y5 ws hw5 wid LW HLW.out bw HBW.out _ (R5.below (by repeat (first | exact Below.refl _ _ | refine Below.alloc ?_ (by first | exact Nat.le_refl _ | (simp <;> omega)) _ | refine Below.setCell ?_ (by first | exact Nat.le_refl _ | (simp <;> omega)) _)))).mono ?_
      rintro e w12 ⟨A6, c6, rfl, O6, hb12⟩
      have hq12 : Below w11.heap.size w11 w12 := bth (by repeat (first | exact Below.refl _ _ | refine Below.alloc ?_ (by first | exact Nat.le_refl _ | (simp <;> omega)) _ | refine Below.setCell ?_ (by first | exact Nat.le_refl _ | (simp <;> omega)) _)) hb12
      replace HB := bth HB hq12
      replace hR := hR.below hq12
      replace HT := HT.below hq12
      replace RX := RX.below hq12
      replace R5 := R5.below hq12
      have R6 := O6.rds (hf := ntc_len)
      clear O6
      go_wp2_with fail
      refine (sWdV_is Y5 y5 ws hw5 wid LW HLW.out bw HBW.out _ (R5.below (by repeat (first | exact Below.refl _ _ | refine Below.alloc ?_ (by first | exact Nat.le_refl _ | (simp <;> omega)) _ | refine Below.setCell ?_ (by first | exact Nat.le_refl _ | (simp <;> omega)) _))) kc5).mono ?_
      rintro e w13 ⟨A7, c7, rfl, O7, hb13⟩
      have hq13 : Below w12.heap.size w12 w13 := bth (by repeat (first | exact Below.refl _ _ | refine Below.alloc ?_ (by first | exact Nat.le_refl _ | (simp <;> omega)) _ | refine Below.setCell ?_ (by first | exact Nat.le_refl _ | (simp <;> omega)) _)) hb13
      replace HB := bth HB hq13
      replace hR := hR.below hq13
      replace HT := HT.below hq13
      replace RX := RX.below hq13
      replace R5 := R5.below hq13
      replace R6 := R6.below hq13
      have R7 := O7.rds (hf := ntc_len)
      clear O7
      go_wp2_with fail
      refine (rNotices_is A6 A7 c6 c7 LW hLWl _ (R6.below (by repeat (first | exact Below.refl _ _ | refine Below.alloc ?_ (by first | exact Nat.le_refl _ | (simp <;> omega)) _ | refine Below.setCell ?_ (by first | exact Nat.le_refl _ | (simp <;> omega)) _))) (R7.below (by repeat (first | exact Below.refl _ _ | refine Below.alloc ?_ (by first | exact Nat.le_refl _ | (simp <;> omega)) _ | refine Below.setCell ?_ (by first | exact Nat.le_refl _ | (simp <;> omega)) _)))).mono ?_
      rintro e w14 ⟨rfl, hb14⟩
      have hq14 : Below w13.heap.size w13 w14 := bth (by repeat (first | exact Below.refl _ _ | refine Below.alloc ?_ (by first | exact Nat.le_refl _ | (simp <;> omega)) _ | refine Below.setCell ?_ (by first | exact Nat.le_refl _ | (simp <;> omega)) _)) hb14
      replace HB := bth HB hq14
      replace hR := hR.below hq14
      replace HT := HT.below hq14
      replace RX := RX.below hq14
      replace R5 := R5.below hq14
      replace R6 := R6.below hq14
      replace R7 := R7.below hq14
      go_wp2_with fail
      refine (drawRipeTopics_is A c cs hcs _ (hR.below (by repeat (first | exact Below.refl _ _ | refine Below.alloc ?_ (by first | exact Nat.le_refl _ | (simp <;> omega)) _ | refine Below.setCell ?_ (by first | exact Nat.le_refl _ | (simp <;> omega)) _)))).mono ?_
      rintro e w15 ⟨us, Y8, y8, ud, rfl, hul, hud, O8, hb15⟩
      have hq15 : Below w14.heap.size w14 w15 := bth (by repeat (first | exact Below.refl _ _ | refine Below.alloc ?_ (by first | exact Nat.le_refl _ | (simp <;> omega)) _ | refine Below.setCell ?_ (by first | exact Nat.le_refl _ | (simp <;> omega)) _)) hb15
      replace HB := bth HB hq15
      replace hR := hR.below hq15
      replace HT := HT.below hq15
      replace RX := RX.below hq15
      have R8 := O8.rds (hf := ntc_len)
      clear O8
      have hu8 : us.length ≤ 1048576 := by omega
      obtain ⟨LU, hLU⟩ : ∃ L, rpL us ud = L := ⟨_, rfl⟩
      obtain ⟨bu, hbu⟩ : ∃ b, rpOk us ud = b := ⟨_, rfl⟩
      have hLUl : LU.length ≤ 1048576 := by
        rw [← hLU]; unfold rpL; split
        · have := rpIns_len us ud us.length; omega
        · simp
      have HLU := Lib.hid hLU; clear hLU
      have HBU := Lib.hid hbu; clear hbu
      go_wp2_with fail
      refine (iRipeV_is Y8 y8 us hu8 ud LU HLU.out bu HBU.out _ (R8.below (by repeat (first | exact Below.refl _ _ | refine Below.alloc ?_ (by first | exact Nat.le_refl _ | (simp <;> omega)) _ | refine Below.setCell ?_ (by first | exact Nat.le_refl _ | (simp <;> omega)) _)))).mono ?_
      rintro e w16 ⟨A9, c9, rfl, O9, hb16⟩
      have hq16 : Below w15.heap.size w15 w16 := bth (by repeat (first | exact Below.refl _ _ | refine Below.alloc ?_ (by first | exact Nat.le_refl _ | (simp <;> omega)) _ | refine Below.setCell ?_ (by first | exact Nat.le_refl _ | (simp <;> omega)) _)) hb16
      replace HB := bth HB hq16
      replace hR := hR.below hq16
      replace HT := HT.below hq16
      replace RX := RX.below hq16
      replace R8 := R8.below hq16
      have R9 := O9.rds (hf := sC_len)
      clear O9
      go_wp2_with fail
      refine (sRipeV_is Y8 y8 us hu8 ud LU HLU.out bu HBU.out _ (R8.below (by repeat (first | exact Below.refl _ _ | refine Below.alloc ?_ (by first | exact Nat.le_refl _ | (simp <;> omega)) _ | refine Below.setCell ?_ (by first | exact Nat.le_refl _ | (simp <;> omega)) _)))).mono ?_
      rintro e w17 ⟨Aa, ca, rfl, Oa, hb17⟩
      have hq17 : Below w16.heap.size w16 w17 := bth (by repeat (first | exact Below.refl _ _ | refine Below.alloc ?_ (by first | exact Nat.le_refl _ | (simp <;> omega)) _ | refine Below.setCell ?_ (by first | exact Nat.le_refl _ | (simp <;> omega)) _)) hb17
      replace HB := bth HB hq17
      replace hR := hR.below hq17
      replace HT := HT.below hq17
      replace RX := RX.below hq17
      replace R8 := R8.below hq17
      replace R9 := R9.below hq17
      have Ra := Oa.rds (hf := sC_len)
      clear Oa
      go_wp2_with fail
      refine (rTexts_is A9 Aa c9 ca LU hLUl _ (R9.below (by repeat (first | exact Below.refl _ _ | refine Below.alloc ?_ (by first | exact Nat.le_refl _ | (simp <;> omega)) _ | refine Below.setCell ?_ (by first | exact Nat.le_refl _ | (simp <;> omega)) _))) (Ra.below (by repeat (first | exact Below.refl _ _ | refine Below.alloc ?_ (by first | exact Nat.le_refl _ | (simp <;> omega)) _ | refine Below.setCell ?_ (by first | exact Nat.le_refl _ | (simp <;> omega)) _)))).mono ?_
      rintro e w18 ⟨rfl, hb18⟩
      have hq18 : Below w17.heap.size w17 w18 := bth (by repeat (first | exact Below.refl _ _ | refine Below.alloc ?_ (by first | exact Nat.le_refl _ | (simp <;> omega)) _ | refine Below.setCell ?_ (by first | exact Nat.le_refl _ | (simp <;> omega)) _)) hb18
      replace HB := bth HB hq18
      replace hR := hR.below hq18
      replace HT := HT.below hq18
      replace RX := RX.below hq18
      replace R8 := R8.below hq18
      replace R9 := R9.below hq18
      replace Ra := Ra.below hq18
      go_wp2
      go_ret
      exact ⟨rfl, (bth HB (by repeat (first | exact Below.refl _ _ | refine Below.alloc ?_ (by first | exact Nat.le_refl _ | (simp <;> omega)) _ | refine Below.setCell ?_ (by first | exact Nat.le_refl _ | (simp <;> omega)) _)))⟩
    · have HY := Lib.hid (fmOut_yes HFM.out)
      have hday : 0 ≤ day ∧ day ≤ 3650 := inB_iff.1 HY.out.2.1
      obtain ⟨LR, hLR⟩ : ∃ L, rpL xs day = L := ⟨_, rfl⟩
      have hLRl : LR.length ≤ 1048576 := by
        rw [← hLR]; unfold rpL; split
        · have := rpIns_len xs day xs.length; omega
        · simp
      have HLR := Lib.hid hLR; clear hLR
      have HOK : Hid (rpOk xs day = true) := Lib.hid (by unfold rpOk; rw [HY.out.1, HY.out.2.1]; rfl)
      go_wp2_with fail
      refine (iRipeV_is Y yc xs hn day LR HLR.out true HOK.out _ (RX.below (by repeat (first | exact Below.refl _ _ | refine Below.alloc ?_ (by first | exact Nat.le_refl _ | (simp <;> omega)) _ | refine Below.setCell ?_ (by first | exact Nat.le_refl _ | (simp <;> omega)) _)))).mono ?_
      rintro e w11 ⟨AR, cR, rfl, OR, hb11⟩
      have hq11 : Below w10.heap.size w10 w11 := bth (by repeat (first | exact Below.refl _ _ | refine Below.alloc ?_ (by first | exact Nat.le_refl _ | (simp <;> omega)) _ | refine Below.setCell ?_ (by first | exact Nat.le_refl _ | (simp <;> omega)) _)) hb11
      replace HB := bth HB hq11
      replace hR := hR.below hq11
      replace HT := HT.below hq11
      replace RX := RX.below hq11
      have RR := OR.rds (hf := sC_len)
      clear OR
      go_wp2
      go_loopw [22, 23] (fun l i wr => ∃ (k L : Nat), k ≤ xs.length ∧ l = .int .i64 L ∧ i = .int .i64 k ∧ L ≤ k ∧ (fmt xs k = day → 0 < day → 0 < L) ∧ Below w11.heap.size w11 wr) (fun _ i _ => xs.length - (intOf i).toNat)
      case atStart => exact ⟨0, 0, Nat.zero_le _, rfl, rfl, Nat.le_refl _, fun h1 h2 => by rw [fmt_zero] at h1; omega, Below.refl _ _⟩
      case round =>
        obtain ⟨k, L, hk, rfl, rfl, hLk, hF, hb⟩ := hrel
        have HFF := Lib.hid hF; clear hF
        by_cases hlt : k < xs.length
        · obtain ⟨bx, off, x, rfl, hbl, hx, hcx⟩ := RX.at_ hb hlt
          have hvx := noticesB_at HY.out.1 hx
          have HM : Hid (ripeT x ∈ LR) := Lib.hid (HLR.out ▸ ripe_all HY.out.1 HY.out.2.1 HY.out.2.2 hx)
          obtain ⟨xi, xt, xg, xd, xs'⟩ := x
          obtain ⟨q1, q2, q3, q4, _, _⟩ := noticeB_bdN hvx
          clear hvx
          have f0 := hcx 0 _ rfl
          have f1 := hcx 1 _ rfl
          have f2 := hcx 2 _ rfl
          have f3 := hcx 3 _ rfl
          simp only [Nat.add_zero] at f0
          have z0 := f0 (Kin.self _)
          have z1 := f1 (Kin.self _)
          have z2 := f2 (Kin.self _)
          have z3 := f3 (Kin.self _)
          simp only [Kin.self] at z0
          simp only [Kin.self] at z1
          simp only [Kin.self] at z2
          simp only [Kin.self] at z3
          have HX := Lib.hid hx; clear hx hcx
          go_wp2_with fail
          refine (rHasText_is AR cR LR xt hLRl HM.out _ (RR.below hb)).mono ?_
          rintro e wq ⟨rfl, rfl⟩
          by_cases he : xg + xd = day
          · have he' : (xg + xd == day) = true := beq_iff_eq.2 he
            have HE := Lib.hid he; clear he
            go_wp2
            refine wp_region_kin (by kernel_rfl) (by kernel_rfl) ?_
            repeat (go_big_quiet_step ((fail)))
            refine wpQuiet_nil ?_
            intro K
            go_wp2
            go_roundw
            case rel => exact ⟨k + 1, L + 1, by omega, by go_num, by go_num, by omega, fun _ _ => by omega, bth hb K.below⟩
            case measure => simp [intOf]; omega
          · have he' : (xg + xd == day) = false := beq_eq_false_iff_ne.2 he
            have HE := Lib.hid he; clear he
            go_wp2
            refine wp_region_kin (by kernel_rfl) (by kernel_rfl) ?_
            repeat (go_big_quiet_step ((fail)))
            refine wpQuiet_nil ?_
            intro K
            go_wp2
            go_roundw
            case rel => exact ⟨k + 1, L, by omega, rfl, by go_num, by omega, late_no HX.out HE.out HFF.out, bth hb K.below⟩
            case measure => simp [intOf]; omega
        · obtain rfl : k = xs.length := by omega
          have hL0 : 0 < day → ((L : Int) == 0) = false := fun h => beq_eq_false_iff_ne.2 (by have := HFF.out HY.out.2.2 h; omega)
          have HLZ := Lib.hid hL0; clear hL0
          replace hR := hR.below hb
          replace HT := HT.below hb
          replace RX := RX.below hb
          replace RR := RR.below hb
          replace HB := bth HB hb
          by_cases hd0 : 0 < day
          · have hLb := HLZ.out hd0
            go_wp2_with fail
            refine (areNotices_is Y yc xs hn true HY.out.1 _ (RX.below (by repeat (first | exact Below.refl _ _ | refine Below.alloc ?_ (by first | exact Nat.le_refl _ | (simp <;> omega)) _ | refine Below.setCell ?_ (by first | exact Nat.le_refl _ | (simp <;> omega)) _)))).mono ?_
            rintro e w12 ⟨rfl, hb12⟩
            have hq12 : Below wr.heap.size wr w12 := bth (by repeat (first | exact Below.refl _ _ | refine Below.alloc ?_ (by first | exact Nat.le_refl _ | (simp <;> omega)) _ | refine Below.setCell ?_ (by first | exact Nat.le_refl _ | (simp <;> omega)) _)) hb12
            replace HB := bth HB hq12
            replace hR := hR.below hq12
            replace HT := HT.below hq12
            replace RX := RX.below hq12
            replace RR := RR.below hq12
            go_wp2_with fail
            refine (drawWithdrawNotice_is A c cs hcs _ (hR.below (by repeat (first | exact Below.refl _ _ | refine Below.alloc ?_ (by first | exact Nat.le_refl _ | (simp <;> omega)) _ | refine Below.setCell ?_ (by first | exact Nat.le_refl _ | (simp <;> omega)) _)))).mono ?_
            rintro e w13 ⟨ws, Y5, y5, wid, rfl, hwl5, O5, hb13⟩
            have hq13 : Below w12.heap.size w12 w13 := bth (by repeat (first | exact Below.refl _ _ | refine Below.alloc ?_ (by first | exact Nat.le_refl _ | (simp <;> omega)) _ | refine Below.setCell ?_ (by first | exact Nat.le_refl _ | (simp <;> omega)) _)) hb13
            replace HB := bth HB hq13
            replace hR := hR.below hq13
            replace HT := HT.below hq13
            replace RX := RX.below hq13
            replace RR := RR.below hq13
            have kc5 := own_cap O5 ntc_len
            have R5 := O5.rds (hf := ntc_len)
            clear O5
            have hw5 : ws.length ≤ 1048576 := by omega
            obtain ⟨LW, hLW⟩ : ∃ L, wnL ws wid = L := ⟨_, rfl⟩
            obtain ⟨bw, hbw⟩ : ∃ b, wnOk ws wid = b := ⟨_, rfl⟩
            have hLWl : LW.length ≤ 1048576 := hLW ▸ wnL_len ws wid hw5
            have HLW := Lib.hid hLW; clear hLW
            have HBW := Lib.hid hbw; clear hbw
            go_wp2_with fail
            refine (iWdV_is Y5 y5 ws hw5 wid LW HLW.out bw HBW.out _ (R5.below (by repeat (first | exact Below.refl _ _ | refine Below.alloc ?_ (by first | exact Nat.le_refl _ | (simp <;> omega)) _ | refine Below.setCell ?_ (by first | exact Nat.le_refl _ | (simp <;> omega)) _)))).mono ?_
            rintro e w14 ⟨A6, c6, rfl, O6, hb14⟩
            have hq14 : Below w13.heap.size w13 w14 := bth (by repeat (first | exact Below.refl _ _ | refine Below.alloc ?_ (by first | exact Nat.le_refl _ | (simp <;> omega)) _ | refine Below.setCell ?_ (by first | exact Nat.le_refl _ | (simp <;> omega)) _)) hb14
            replace HB := bth HB hq14
            replace hR := hR.below hq14
            replace HT := HT.below hq14
            replace RX := RX.below hq14
            replace RR := RR.below hq14
            replace R5 := R5.below hq14
            have R6 := O6.rds (hf := ntc_len)
            clear O6
            go_wp2_with fail
            refine (sWdV_is Y5 y5 ws hw5 wid LW HLW.out bw HBW.out _ (R5.below (by repeat (first | exact Below.refl _ _ | refine Below.alloc ?_ (by first | exact Nat.le_refl _ | (simp <;> omega)) _ | refine Below.setCell ?_ (by first | exact Nat.le_refl _ | (simp <;> omega)) _))) kc5).mono ?_
            rintro e w15 ⟨A7, c7, rfl, O7, hb15⟩
            have hq15 : Below w14.heap.size w14 w15 := bth (by repeat (first | exact Below.refl _ _ | refine Below.alloc ?_ (by first | exact Nat.le_refl _ | (simp <;> omega)) _ | refine Below.setCell ?_ (by first | exact Nat.le_refl _ | (simp <;> omega)) _)) hb15
            replace HB := bth HB hq15
            replace hR := hR.below hq15
            replace HT := HT.below hq15
            replace RX := RX.below hq15
            replace RR := RR.below hq15
            replace R5 := R5.below hq15
            replace R6 := R6.below hq15
            have R7 := O7.rds (hf := ntc_len)
            clear O7
            go_wp2_with fail
            refine (rNotices_is A6 A7 c6 c7 LW hLWl _ (R6.below (by repeat (first | exact Below.refl _ _ | refine Below.alloc ?_ (by first | exact Nat.le_refl _ | (simp <;> omega)) _ | refine Below.setCell ?_ (by first | exact Nat.le_refl _ | (simp <;> omega)) _))) (R7.below (by repeat (first | exact Below.refl _ _ | refine Below.alloc ?_ (by first | exact Nat.le_refl _ | (simp <;> omega)) _ | refine Below.setCell ?_ (by first | exact Nat.le_refl _ | (simp <;> omega)) _)))).mono ?_
            rintro e w16 ⟨rfl, hb16⟩
            have hq16 : Below w15.heap.size w15 w16 := bth (by repeat (first | exact Below.refl _ _ | refine Below.alloc ?_ (by first | exact Nat.le_refl _ | (simp <;> omega)) _ | refine Below.setCell ?_ (by first | exact Nat.le_refl _ | (simp <;> omega)) _)) hb16
            replace HB := bth HB hq16
            replace hR := hR.below hq16
            replace HT := HT.below hq16
            replace RX := RX.below hq16
            replace RR := RR.below hq16
            replace R5 := R5.below hq16
            replace R6 := R6.below hq16
            replace R7 := R7.below hq16
            go_wp2_with fail
            refine (drawRipeTopics_is A c cs hcs _ (hR.below (by repeat (first | exact Below.refl _ _ | refine Below.alloc ?_ (by first | exact Nat.le_refl _ | (simp <;> omega)) _ | refine Below.setCell ?_ (by first | exact Nat.le_refl _ | (simp <;> omega)) _)))).mono ?_
            rintro e w17 ⟨us, Y8, y8, ud, rfl, hul, hud, O8, hb17⟩
            have hq17 : Below w16.heap.size w16 w17 := bth (by repeat (first | exact Below.refl _ _ | refine Below.alloc ?_ (by first | exact Nat.le_refl _ | (simp <;> omega)) _ | refine Below.setCell ?_ (by first | exact Nat.le_refl _ | (simp <;> omega)) _)) hb17
            replace HB := bth HB hq17
            replace hR := hR.below hq17
            replace HT := HT.below hq17
            replace RX := RX.below hq17
            replace RR := RR.below hq17
            have R8 := O8.rds (hf := ntc_len)
            clear O8
            have hu8 : us.length ≤ 1048576 := by omega
            obtain ⟨LU, hLU⟩ : ∃ L, rpL us ud = L := ⟨_, rfl⟩
            obtain ⟨bu, hbu⟩ : ∃ b, rpOk us ud = b := ⟨_, rfl⟩
            have hLUl : LU.length ≤ 1048576 := by
              rw [← hLU]; unfold rpL; split
              · have := rpIns_len us ud us.length; omega
              · simp
            have HLU := Lib.hid hLU; clear hLU
            have HBU := Lib.hid hbu; clear hbu
            go_wp2_with fail
            refine (iRipeV_is Y8 y8 us hu8 ud LU HLU.out bu HBU.out _ (R8.below (by repeat (first | exact Below.refl _ _ | refine Below.alloc ?_ (by first | exact Nat.le_refl _ | (simp <;> omega)) _ | refine Below.setCell ?_ (by first | exact Nat.le_refl _ | (simp <;> omega)) _)))).mono ?_
            rintro e w18 ⟨A9, c9, rfl, O9, hb18⟩
            have hq18 : Below w17.heap.size w17 w18 := bth (by repeat (first | exact Below.refl _ _ | refine Below.alloc ?_ (by first | exact Nat.le_refl _ | (simp <;> omega)) _ | refine Below.setCell ?_ (by first | exact Nat.le_refl _ | (simp <;> omega)) _)) hb18
            replace HB := bth HB hq18
            replace hR := hR.below hq18
            replace HT := HT.below hq18
            replace RX := RX.below hq18
            replace RR := RR.below hq18
            replace R8 := R8.below hq18
            have R9 := O9.rds (hf := sC_len)
            clear O9
            go_wp2_with fail
            refine (sRipeV_is Y8 y8 us hu8 ud LU HLU.out bu HBU.out _ (R8.below (by repeat (first | exact Below.refl _ _ | refine Below.alloc ?_ (by first | exact Nat.le_refl _ | (simp <;> omega)) _ | refine Below.setCell ?_ (by first | exact Nat.le_refl _ | (simp <;> omega)) _)))).mono ?_
            rintro e w19 ⟨Aa, ca, rfl, Oa, hb19⟩
            have hq19 : Below w18.heap.size w18 w19 := bth (by repeat (first | exact Below.refl _ _ | refine Below.alloc ?_ (by first | exact Nat.le_refl _ | (simp <;> omega)) _ | refine Below.setCell ?_ (by first | exact Nat.le_refl _ | (simp <;> omega)) _)) hb19
            replace HB := bth HB hq19
            replace hR := hR.below hq19
            replace HT := HT.below hq19
            replace RX := RX.below hq19
            replace RR := RR.below hq19
            replace R8 := R8.below hq19
            replace R9 := R9.below hq19
            have Ra := Oa.rds (hf := sC_len)
            clear Oa
            go_wp2_with fail
            refine (rTexts_is A9 Aa c9 ca LU hLUl _ (R9.below (by repeat (first | exact Below.refl _ _ | refine Below.alloc ?_ (by first | exact Nat.le_refl _ | (simp <;> omega)) _ | refine Below.setCell ?_ (by first | exact Nat.le_refl _ | (simp <;> omega)) _))) (Ra.below (by repeat (first | exact Below.refl _ _ | refine Below.alloc ?_ (by first | exact Nat.le_refl _ | (simp <;> omega)) _ | refine Below.setCell ?_ (by first | exact Nat.le_refl _ | (simp <;> omega)) _)))).mono ?_
            rintro e w20 ⟨rfl, hb20⟩
            have hq20 : Below w19.heap.size w19 w20 := bth (by repeat (first | exact Below.refl _ _ | refine Below.alloc ?_ (by first | exact Nat.le_refl _ | (simp <;> omega)) _ | refine Below.setCell ?_ (by first | exact Nat.le_refl _ | (simp <;> omega)) _)) hb20
            replace HB := bth HB hq20
            replace hR := hR.below hq20
            replace HT := HT.below hq20
            replace RX := RX.below hq20
            replace RR := RR.below hq20
            replace R8 := R8.below hq20
            replace R9 := R9.below hq20
            replace Ra := Ra.below hq20
            go_wp2
            go_ret
            exact ⟨rfl, (bth HB (by repeat (first | exact Below.refl _ _ | refine Below.alloc ?_ (by first | exact Nat.le_refl _ | (simp <;> omega)) _ | refine Below.setCell ?_ (by first | exact Nat.le_refl _ | (simp <;> omega)) _)))⟩
          · go_wp2_with fail
            refine (areNotices_is Y yc xs hn true HY.out.1 _ (RX.below (by repeat (first | exact Below.refl _ _ | refine Below.alloc ?_ (by first | exact Nat.le_refl _ | (simp <;> omega)) _ | refine Below.setCell ?_ (by first | exact Nat.le_refl _ | (simp <;> omega)) _)))).mono ?_
            rintro e w12 ⟨rfl, hb12⟩
            have hq12 : Below wr.heap.size wr w12 := bth (by repeat (first | exact Below.refl _ _ | refine Below.alloc ?_ (by first | exact Nat.le_refl _ | (simp <;> omega)) _ | refine Below.setCell ?_ (by first | exact Nat.le_refl _ | (simp <;> omega)) _)) hb12
            replace HB := bth HB hq12
            replace hR := hR.below hq12
            replace HT := HT.below hq12
            replace RX := RX.below hq12
            replace RR := RR.below hq12
            go_wp2_with fail
            refine (drawWithdrawNotice_is A c cs hcs _ (hR.below (by repeat (first | exact Below.refl _ _ | refine Below.alloc ?_ (by first | exact Nat.le_refl _ | (simp <;> omega)) _ | refine Below.setCell ?_ (by first | exact Nat.le_refl _ | (simp <;> omega)) _)))).mono ?_
            rintro e w13 ⟨ws, Y5, y5, wid, rfl, hwl5, O5, hb13⟩
            have hq13 : Below w12.heap.size w12 w13 := bth (by repeat (first | exact Below.refl _ _ | refine Below.alloc ?_ (by first | exact Nat.le_refl _ | (simp <;> omega)) _ | refine Below.setCell ?_ (by first | exact Nat.le_refl _ | (simp <;> omega)) _)) hb13
            replace HB := bth HB hq13
            replace hR := hR.below hq13
            replace HT := HT.below hq13
            replace RX := RX.below hq13
            replace RR := RR.below hq13
            have kc5 := own_cap O5 ntc_len
            have R5 := O5.rds (hf := ntc_len)
            clear O5
            have hw5 : ws.length ≤ 1048576 := by omega
            obtain ⟨LW, hLW⟩ : ∃ L, wnL ws wid = L := ⟨_, rfl⟩
            obtain ⟨bw, hbw⟩ : ∃ b, wnOk ws wid = b := ⟨_, rfl⟩
            have hLWl : LW.length ≤ 1048576 := hLW ▸ wnL_len ws wid hw5
            have HLW := Lib.hid hLW; clear hLW
            have HBW := Lib.hid hbw; clear hbw
            go_wp2_with fail
            refine (iWdV_is Y5 y5 ws hw5 wid LW HLW.out bw HBW.out _ (R5.below (by repeat (first | exact Below.refl _ _ | refine Below.alloc ?_ (by first | exact Nat.le_refl _ | (simp <;> omega)) _ | refine Below.setCell ?_ (by first | exact Nat.le_refl _ | (simp <;> omega)) _)))).mono ?_
            rintro e w14 ⟨A6, c6, rfl, O6, hb14⟩
            have hq14 : Below w13.heap.size w13 w14 := bth (by repeat (first | exact Below.refl _ _ | refine Below.alloc ?_ (by first | exact Nat.le_refl _ | (simp <;> omega)) _ | refine Below.setCell ?_ (by first | exact Nat.le_refl _ | (simp <;> omega)) _)) hb14
            replace HB := bth HB hq14
            replace hR := hR.below hq14
            replace HT := HT.below hq14
            replace RX := RX.below hq14
            replace RR := RR.below hq14
            replace R5 := R5.below hq14
            have R6 := O6.rds (hf := ntc_len)
            clear O6
            go_wp2_with fail
            refine (sWdV_is Y5 y5 ws hw5 wid LW HLW.out bw HBW.out _ (R5.below (by repeat (first | exact Below.refl _ _ | refine Below.alloc ?_ (by first | exact Nat.le_refl _ | (simp <;> omega)) _ | refine Below.setCell ?_ (by first | exact Nat.le_refl _ | (simp <;> omega)) _))) kc5).mono ?_
            rintro e w15 ⟨A7, c7, rfl, O7, hb15⟩
            have hq15 : Below w14.heap.size w14 w15 := bth (by repeat (first | exact Below.refl _ _ | refine Below.alloc ?_ (by first | exact Nat.le_refl _ | (simp <;> omega)) _ | refine Below.setCell ?_ (by first | exact Nat.le_refl _ | (simp <;> omega)) _)) hb15
            replace HB := bth HB hq15
            replace hR := hR.below hq15
            replace HT := HT.below hq15
            replace RX := RX.below hq15
            replace RR := RR.below hq15
            replace R5 := R5.below hq15
            replace R6 := R6.below hq15
            have R7 := O7.rds (hf := ntc_len)
            clear O7
            go_wp2_with fail
            refine (rNotices_is A6 A7 c6 c7 LW hLWl _ (R6.below (by repeat (first | exact Below.refl _ _ | refine Below.alloc ?_ (by first | exact Nat.le_refl _ | (simp <;> omega)) _ | refine Below.setCell ?_ (by first | exact Nat.le_refl _ | (simp <;> omega)) _))) (R7.below (by repeat (first | exact Below.refl _ _ | refine Below.alloc ?_ (by first | exact Nat.le_refl _ | (simp <;> omega)) _ | refine Below.setCell ?_ (by first | exact Nat.le_refl _ | (simp <;> omega)) _)))).mono ?_
            rintro e w16 ⟨rfl, hb16⟩
            have hq16 : Below w15.heap.size w15 w16 := bth (by repeat (first | exact Below.refl _ _ | refine Below.alloc ?_ (by first | exact Nat.le_refl _ | (simp <;> omega)) _ | refine Below.setCell ?_ (by first | exact Nat.le_refl _ | (simp <;> omega)) _)) hb16
            replace HB := bth HB hq16
            replace hR := hR.below hq16
            replace HT := HT.below hq16
            replace RX := RX.below hq16
            replace RR := RR.below hq16
            replace R5 := R5.below hq16
            replace R6 := R6.below hq16
            replace R7 := R7.below hq16
            go_wp2_with fail
            refine (drawRipeTopics_is A c cs hcs _ (hR.below (by repeat (first | exact Below.refl _ _ | refine Below.alloc ?_ (by first | exact Nat.le_refl _ | (simp <;> omega)) _ | refine Below.setCell ?_ (by first | exact Nat.le_refl _ | (simp <;> omega)) _)))).mono ?_
            rintro e w17 ⟨us, Y8, y8, ud, rfl, hul, hud, O8, hb17⟩
            have hq17 : Below w16.heap.size w16 w17 := bth (by repeat (first | exact Below.refl _ _ | refine Below.alloc ?_ (by first | exact Nat.le_refl _ | (simp <;> omega)) _ | refine Below.setCell ?_ (by first | exact Nat.le_refl _ | (simp <;> omega)) _)) hb17
            replace HB := bth HB hq17
            replace hR := hR.below hq17
            replace HT := HT.below hq17
            replace RX := RX.below hq17
            replace RR := RR.below hq17
            have R8 := O8.rds (hf := ntc_len)
            clear O8
            have hu8 : us.length ≤ 1048576 := by omega
            obtain ⟨LU, hLU⟩ : ∃ L, rpL us ud = L := ⟨_, rfl⟩
            obtain ⟨bu, hbu⟩ : ∃ b, rpOk us ud = b := ⟨_, rfl⟩
            have hLUl : LU.length ≤ 1048576 := by
              rw [← hLU]; unfold rpL; split
              · have := rpIns_len us ud us.length; omega
              · simp
            have HLU := Lib.hid hLU; clear hLU
            have HBU := Lib.hid hbu; clear hbu
            go_wp2_with fail
            refine (iRipeV_is Y8 y8 us hu8 ud LU HLU.out bu HBU.out _ (R8.below (by repeat (first | exact Below.refl _ _ | refine Below.alloc ?_ (by first | exact Nat.le_refl _ | (simp <;> omega)) _ | refine Below.setCell ?_ (by first | exact Nat.le_refl _ | (simp <;> omega)) _)))).mono ?_
            rintro e w18 ⟨A9, c9, rfl, O9, hb18⟩
            have hq18 : Below w17.heap.size w17 w18 := bth (by repeat (first | exact Below.refl _ _ | refine Below.alloc ?_ (by first | exact Nat.le_refl _ | (simp <;> omega)) _ | refine Below.setCell ?_ (by first | exact Nat.le_refl _ | (simp <;> omega)) _)) hb18
            replace HB := bth HB hq18
            replace hR := hR.below hq18
            replace HT := HT.below hq18
            replace RX := RX.below hq18
            replace RR := RR.below hq18
            replace R8 := R8.below hq18
            have R9 := O9.rds (hf := sC_len)
            clear O9
            go_wp2_with fail
            refine (sRipeV_is Y8 y8 us hu8 ud LU HLU.out bu HBU.out _ (R8.below (by repeat (first | exact Below.refl _ _ | refine Below.alloc ?_ (by first | exact Nat.le_refl _ | (simp <;> omega)) _ | refine Below.setCell ?_ (by first | exact Nat.le_refl _ | (simp <;> omega)) _)))).mono ?_
            rintro e w19 ⟨Aa, ca, rfl, Oa, hb19⟩
            have hq19 : Below w18.heap.size w18 w19 := bth (by repeat (first | exact Below.refl _ _ | refine Below.alloc ?_ (by first | exact Nat.le_refl _ | (simp <;> omega)) _ | refine Below.setCell ?_ (by first | exact Nat.le_refl _ | (simp <;> omega)) _)) hb19
            replace HB := bth HB hq19
            replace hR := hR.below hq19
            replace HT := HT.below hq19
            replace RX := RX.below hq19
            replace RR := RR.below hq19
            replace R8 := R8.below hq19
            replace R9 := R9.below hq19
            have Ra := Oa.rds (hf := sC_len)
            clear Oa
            go_wp2_with fail
            refine (rTexts_is A9 Aa c9 ca LU hLUl _ (R9.below (by repeat (first | exact Below.refl _ _ | refine Below.alloc ?_ (by first | exact Nat.le_refl _ | (simp <;> omega)) _ | refine Below.setCell ?_ (by first | exact Nat.le_refl _ | (simp <;> omega)) _))) (Ra.below (by repeat (first | exact Below.refl _ _ | refine Below.alloc ?_ (by first | exact Nat.le_refl _ | (simp <;> omega)) _ | refine Below.setCell ?_ (by first | exact Nat.le_refl _ | (simp <;> omega)) _)))).mono ?_
            rintro e w20 ⟨rfl, hb20⟩
            have hq20 : Below w19.heap.size w19 w20 := bth (by repeat (first | exact Below.refl _ _ | refine Below.alloc ?_ (by first | exact Nat.le_refl _ | (simp <;> omega)) _ | refine Below.setCell ?_ (by first | exact Nat.le_refl _ | (simp <;> omega)) _)) hb20
            replace HB := bth HB hq20
            replace hR := hR.below hq20
            replace HT := HT.below hq20
            replace RX := RX.below hq20
            replace RR := RR.below hq20
            replace R8 := R8.below hq20
            replace R9 := R9.below hq20
            replace Ra := Ra.below hq20
            go_wp2
            go_ret
            exact ⟨rfl, (bth HB (by repeat (first | exact Below.refl _ _ | refine Below.alloc ?_ (by first | exact Nat.le_refl _ | (simp <;> omega)) _ | refine Below.setCell ?_ (by first | exact Nat.le_refl _ | (simp <;> omega)) _)))⟩
end Go.Proofs.YtbnncgahepcfnaaGreatDoor
