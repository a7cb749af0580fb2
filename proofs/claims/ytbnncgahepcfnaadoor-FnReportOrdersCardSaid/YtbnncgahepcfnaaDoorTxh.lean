/- Headlines. -/
import Derived.Test.YtbnncgahepcfnaaDoorItoa
import Derived.Test.YtbnncgahepcfnaaDoorObn
namespace Go.Proofs.YtbnncgahepcfnaaDoor
open Go.RowKit Go.G9
def adTo (xs : List Res) : Nat → Nat
  | 0 => 0
  | k + 1 => match xs[k]? with | some r => adTo xs k + (if r.ado then 1 else 0) | none => adTo xs k
theorem adTo_le (xs : List Res) : ∀ k, adTo xs k ≤ k
  | 0 => Nat.le_refl _
  | k + 1 => by have := adTo_le xs k; unfold adTo; split <;> (try split) <;> omega
def headS (n a : Nat) : ByteArray :=
  if n = 0 then (⟨#[78, 111, 32, 109, 111, 116, 105, 111, 110, 115, 32, 119, 101, 114, 101, 32, 118, 111, 116, 101, 100, 32, 111, 110, 46]⟩ : ByteArray) else if n = 1 then (if a = 1 then (⟨#[84, 104, 101, 32, 109, 111, 116, 105, 111, 110, 32, 119, 97, 115, 32, 97, 100, 111, 112, 116, 101, 100, 46]⟩ : ByteArray) else (⟨#[84, 104, 101, 32, 109, 111, 116, 105, 111, 110, 32, 119, 97, 115, 32, 114, 101, 106, 101, 99, 116, 101, 100, 46]⟩ : ByteArray))
  else if a = n then (⟨#[65, 108, 108, 32]⟩ : ByteArray) ++ numS n ++ (⟨#[32, 109, 111, 116, 105, 111, 110, 115, 32, 119, 101, 114, 101, 32, 97, 100, 111, 112, 116, 101, 100, 46]⟩ : ByteArray) else if a = 0 then (⟨#[78, 111, 110, 101, 32, 111, 102, 32]⟩ : ByteArray) ++ numS n ++ (⟨#[32, 109, 111, 116, 105, 111, 110, 115, 32, 119, 97, 115, 32, 97, 100, 111, 112, 116, 101, 100, 46]⟩ : ByteArray) else numS a ++ (⟨#[32, 111, 102, 32]⟩ : ByteArray) ++ numS n ++ (⟨#[32, 109, 111, 116, 105, 111, 110, 115, 32, 119, 101, 114, 101, 32, 97, 100, 111, 112, 116, 101, 100, 46]⟩ : ByteArray)
def hlOut (xs : List Res) : Value := if reportB xs then .tuple #[.string (headS xs.length (adTo xs xs.length)), .bool true] else .tuple #[.string ⟨#[]⟩, .bool false]
theorem hlOut_form (xs : List Res) : ∃ s b, hlOut xs = .tuple #[.string s, .bool b] := by unfold hlOut; split <;> exact ⟨_, _, rfl⟩
theorem passedWordH_is (p : Bool) (s t : ByteArray) (w : World) : Calls Tryd.prog 55 #[.bool p, .string s, .string t] w fun e w' => e = .returned (.string (if p then s else t)) ∧ w' = w := by
  cases p <;>
  · go_enter Tryd.func55, Tryd.ntmps55
    go_wp2
    go_ret
    exact ⟨rfl, rfl⟩
set_option maxHeartbeats 4000000 in
set_option maxRecDepth 100000 in
theorem iHeadline_is (A : Option Addr) (c : Nat) (xs : List Res) (hn : xs.length ≤ 1048576) (v : Value) (hv : hlOut xs = v) (w : World) (hR : Rds 5 Res.cells w A xs) (hT : Tab w) :
  Calls Tryd.prog 20 #[.slice A xs.length c] w fun e w' => e = .returned v ∧ Below w.heap.size w w' := by
  subst hv
  cases hr : reportB xs
  · go_enter Tryd.func20, Tryd.ntmps20
    go_wp2_with fail
    refine (isReport_is A c xs hn _ hr _ (hR.below (by repeat (first | exact Below.refl _ _ | refine Below.alloc ?_ (by first | exact Nat.le_refl _ | (simp <;> omega)) _ | refine Below.setCell ?_ (by first | exact Nat.le_refl _ | (simp <;> omega)) _)))).mono ?_
    rintro e w1 ⟨rfl, hb1⟩
    have hq1 : Below w.heap.size w w1 := bth (by repeat (first | exact Below.refl _ _ | refine Below.alloc ?_ (by first | exact Nat.le_refl _ | (simp <;> omega)) _ | refine Below.setCell ?_ (by first | exact Nat.le_refl _ | (simp <;> omega)) _)) hb1
    have HB : Below w.heap.size w w1 := hq1
    go_wp2
    go_ret2
    exact ⟨by simp [hlOut, hr], (bth HB (by repeat (first | exact Below.refl _ _ | refine Below.alloc ?_ (by first | exact Nat.le_refl _ | (simp <;> omega)) _ | refine Below.setCell ?_ (by first | exact Nat.le_refl _ | (simp <;> omega)) _)))⟩
  have hl := reportB_len hr
  have hout : hlOut xs = .tuple #[.string (headS xs.length (adTo xs xs.length)), .bool true] := by simp [hlOut, hr]
  rw [hout]; clear hout
  have n1 := numS_size xs.length (by omega)
  have had := adTo_le xs xs.length
  have n2 := numS_size (adTo xs xs.length) (by omega)
  go_enter Tryd.func20, Tryd.ntmps20
  go_wp2_with fail
  refine (isReport_is A c xs hn _ hr _ (hR.below (by repeat (first | exact Below.refl _ _ | refine Below.alloc ?_ (by first | exact Nat.le_refl _ | (simp <;> omega)) _ | refine Below.setCell ?_ (by first | exact Nat.le_refl _ | (simp <;> omega)) _)))).mono ?_
  rintro e w1 ⟨rfl, hb1⟩
  have hq1 : Below w.heap.size w w1 := bth (by repeat (first | exact Below.refl _ _ | refine Below.alloc ?_ (by first | exact Nat.le_refl _ | (simp <;> omega)) _ | refine Below.setCell ?_ (by first | exact Nat.le_refl _ | (simp <;> omega)) _)) hb1
  have HB : Below w.heap.size w w1 := hq1
  go_wp2_with fail
  refine (itoa_is xs.length (by omega) (by omega) _ (hT.below HB)).mono ?_
  rintro e w2 ⟨rfl, hb2⟩
  have hq2 : Below w1.heap.size w1 w2 := bth (by repeat (first | exact Below.refl _ _ | refine Below.alloc ?_ (by first | exact Nat.le_refl _ | (simp <;> omega)) _ | refine Below.setCell ?_ (by first | exact Nat.le_refl _ | (simp <;> omega)) _)) hb2
  replace HB := bth HB hq2
  go_wp2
  go_loopw [4, 16] (fun t i wr => ∃ k : Nat, k ≤ xs.length ∧ i = .int .i64 k ∧ t = .int .i64 (adTo xs k) ∧ Below w2.heap.size w2 wr) (fun _ i _ => xs.length - (intOf i).toNat)
  case atStart => exact ⟨0, Nat.zero_le _, rfl, rfl, Below.refl _ _⟩
  case round =>
    obtain ⟨k, hk, rfl, rfl, hb⟩ := hrel
    by_cases hlt : k < xs.length
    · obtain ⟨b, off, x, rfl, hbl, hx, hcx⟩ := hR.at_ (bth HB hb) hlt
      have hv := reportB_at hr hx
      obtain ⟨m, nd, y, n, a, hs⟩ := x
      obtain ⟨t1, t2, t3, t4, t5, t6, _, _⟩ := resB_bd hv
      have hstep : adTo xs (k + 1) = adTo xs k + (if adoB nd y n then 1 else 0) := by rw [adTo, hx]; rfl
      have HS := Lib.hid hstep; clear hstep hx
      have hak := adTo_le xs k
      have f0 := hcx 0 _ rfl
      have f1 := hcx 1 _ rfl
      have f2 := hcx 2 _ rfl
      have f3 := hcx 3 _ rfl
      have f4 := hcx 4 _ rfl
      simp only [Nat.add_zero] at f0
      have g0 := f0 (Kin.self _)
      have g1 := f1 (Kin.self _)
      have g2 := f2 (Kin.self _)
      have g3 := f3 (Kin.self _)
      have g4 := f4 (Kin.self _)
      simp only [Kin.self] at g0
      simp only [Kin.self] at g1
      simp only [Kin.self] at g2
      simp only [Kin.self] at g3
      simp only [Kin.self] at g4
      clear hcx f0 f1 f2 f3 f4 hv
      cases ha : adoB nd y n
      all_goals
        go_wp2_with fail
        refine (adopted_is m nd y n a ⟨by omega, by omega, by omega, by omega⟩ _ ha _).mono ?_
        rintro e w3 ⟨rfl, hb3⟩
        go_wp2
        go_roundw
        case rel => exact ⟨k + 1, by omega, by go_num, by rw [HS.out, ha]; simp, bth hb (bth (bl1 _ _) hb3)⟩
        case measure => simp [intOf]; omega
    · obtain rfl : k = xs.length := by omega
      have HBb := bth HB hb
      have hT2 := hT.below HBb
      generalize hA : adTo xs xs.length = a at *
      generalize hN : xs.length = n at *
      have HA := Lib.hid hA; have HN := Lib.hid hN; clear hA hN
      by_cases c0 : n = 0
      · have e0 : ((n : Int) == 0) = true := by simp [c0]
        have C0 := Lib.hid c0; clear c0
        go_wp2
        go_ret2
        exact ⟨by (rw [HN.out, HA.out, headS, if_pos C0.out]; first | done | rfl), HBb⟩
      have e0 : ((n : Int) == 0) = false := by simp [c0]
      by_cases c1 : n = 1
      · have e1 : ((n : Int) == 1) = true := by simp [c1]
        have C1 := Lib.hid c1; have C0 := Lib.hid c0; clear c1 c0
        by_cases a1 : a = 1
        · have f1 : ((a : Int) == 1) = true := by simp [a1]
          have A1 := Lib.hid a1; clear a1
          go_wp2_with fail
          refine (passedWordH_is _ _ _ _).mono ?_
          rintro e _ ⟨rfl, rfl⟩
          go_wp2
          go_ret2
          exact ⟨by (rw [HN.out, HA.out, headS, if_neg C0.out, if_pos C1.out, if_pos A1.out]; first | done | rfl), HBb⟩
        · have f1 : ((a : Int) == 1) = false := by simp; omega
          have A1 := Lib.hid a1; clear a1
          go_wp2_with fail
          refine (passedWordH_is _ _ _ _).mono ?_
          rintro e _ ⟨rfl, rfl⟩
          go_wp2
          go_ret2
          exact ⟨by (rw [HN.out, HA.out, headS, if_neg C0.out, if_pos C1.out, if_neg A1.out]; first | done | rfl), HBb⟩
      have e1 : ((n : Int) == 1) = false := by simp; omega
      by_cases c2 : a = n
      · have e2 : ((a : Int) == n) = true := by simp [c2]
        have C1 := Lib.hid c1; have C0 := Lib.hid c0; have C2 := Lib.hid c2; clear c1 c0 c2
        go_wp2
        go_ret2
        exact ⟨by (rw [HN.out, HA.out, headS, if_neg C0.out, if_neg C1.out, if_pos C2.out]; first | done | rfl), HBb⟩
      have e2 : ((a : Int) == n) = false := by simp; omega
      by_cases c3 : a = 0
      · have e3 : ((a : Int) == 0) = true := by simp [c3]
        have C1 := Lib.hid c1; have C0 := Lib.hid c0; have C2 := Lib.hid c2; have C3 := Lib.hid c3; clear c1 c0 c2 c3
        go_wp2
        go_ret2
        exact ⟨by (rw [HN.out, HA.out, headS, if_neg C0.out, if_neg C1.out, if_neg C2.out, if_pos C3.out]; first | done | rfl), HBb⟩
      · have e3 : ((a : Int) == 0) = false := by simp; omega
        have C1 := Lib.hid c1; have C0 := Lib.hid c0; have C2 := Lib.hid c2; have C3 := Lib.hid c3; clear c1 c0 c2 c3
        go_wp2_with fail
        refine (itoa_is a (by omega) (by omega) _ hT2).mono ?_
        rintro e w5 ⟨rfl, hb5⟩
        go_wp2
        go_ret2
        exact ⟨by (rw [HN.out, HA.out, headS, if_neg C0.out, if_neg C1.out, if_neg C2.out, if_neg C3.out]; first | done | rfl), bth HBb hb5⟩
set_option maxHeartbeats 4000000 in
set_option maxRecDepth 100000 in
theorem sHeadline_is (A : Option Addr) (c : Nat) (xs : List Res) (hn : xs.length ≤ 1048576) (v : Value) (hv : hlOut xs = v) (w : World) (hR : Rds 5 Res.cells w A xs) :
  Calls Tryd.prog 19 #[.slice A xs.length c] w fun e w' => e = .returned v ∧ Below w.heap.size w w' := by
  subst hv
  cases hr : reportB xs
  · go_enter Tryd.func19, Tryd.ntmps19
    go_wp2_with fail
    refine (l26Good_is A c xs hn _ hr _ (hR.below (by repeat (first | exact Below.refl _ _ | refine Below.alloc ?_ (by first | exact Nat.le_refl _ | (simp <;> omega)) _ | refine Below.setCell ?_ (by first | exact Nat.le_refl _ | (simp <;> omega)) _)))).mono ?_
    rintro e w1 ⟨rfl, hb1⟩
    have hq1 : Below w.heap.size w w1 := bth (by repeat (first | exact Below.refl _ _ | refine Below.alloc ?_ (by first | exact Nat.le_refl _ | (simp <;> omega)) _ | refine Below.setCell ?_ (by first | exact Nat.le_refl _ | (simp <;> omega)) _)) hb1
    have HB : Below w.heap.size w w1 := hq1
    go_wp2
    go_ret2
    exact ⟨by simp [hlOut, hr], (bth HB (by repeat (first | exact Below.refl _ _ | refine Below.alloc ?_ (by first | exact Nat.le_refl _ | (simp <;> omega)) _ | refine Below.setCell ?_ (by first | exact Nat.le_refl _ | (simp <;> omega)) _)))⟩
  have hl := reportB_len hr
  have hout : hlOut xs = .tuple #[.string (headS xs.length (adTo xs xs.length)), .bool true] := by simp [hlOut, hr]
  rw [hout]; clear hout
  have n1 := numS_size xs.length (by omega)
  have had := adTo_le xs xs.length
  have n2 := numS_size (adTo xs xs.length) (by omega)
  go_enter Tryd.func19, Tryd.ntmps19
  go_wp2_with fail
  refine (l26Good_is A c xs hn _ hr _ (hR.below (by repeat (first | exact Below.refl _ _ | refine Below.alloc ?_ (by first | exact Nat.le_refl _ | (simp <;> omega)) _ | refine Below.setCell ?_ (by first | exact Nat.le_refl _ | (simp <;> omega)) _)))).mono ?_
  rintro e w1 ⟨rfl, hb1⟩
  have hq1 : Below w.heap.size w w1 := bth (by repeat (first | exact Below.refl _ _ | refine Below.alloc ?_ (by first | exact Nat.le_refl _ | (simp <;> omega)) _ | refine Below.setCell ?_ (by first | exact Nat.le_refl _ | (simp <;> omega)) _)) hb1
  have HB : Below w.heap.size w w1 := hq1
  go_wp2
  go_loopw [5, 6] (fun t i wr => ∃ k : Nat, k ≤ xs.length ∧ i = .int .i64 k ∧ t = .int .i64 (adTo xs k) ∧ Below w1.heap.size w1 wr) (fun _ i _ => xs.length - (intOf i).toNat)
  case atStart => exact ⟨0, Nat.zero_le _, rfl, rfl, Below.refl _ _⟩
  case round =>
    obtain ⟨k, hk, rfl, rfl, hb⟩ := hrel
    by_cases hlt : k < xs.length
    · obtain ⟨b, off, x, rfl, hbl, hx, hcx⟩ := hR.at_ (bth HB hb) hlt
      have hv := reportB_at hr hx
      obtain ⟨m, nd, y, n, a, hs⟩ := x
      obtain ⟨t1, t2, t3, t4, t5, t6, _, _⟩ := resB_bd hv
      have hstep : adTo xs (k + 1) = adTo xs k + (if adoB nd y n then 1 else 0) := by rw [adTo, hx]; rfl
      have HS := Lib.hid hstep; clear hstep hx
      have hak := adTo_le xs k
      have f0 := hcx 0 _ rfl
      have f1 := hcx 1 _ rfl
      have f2 := hcx 2 _ rfl
      have f3 := hcx 3 _ rfl
      have f4 := hcx 4 _ rfl
      simp only [Nat.add_zero] at f0
      have g0 := f0 (Kin.self _)
      have g1 := f1 (Kin.self _)
      have g2 := f2 (Kin.self _)
      have g3 := f3 (Kin.self _)
      have g4 := f4 (Kin.self _)
      simp only [Kin.self] at g0
      simp only [Kin.self] at g1
      simp only [Kin.self] at g2
      simp only [Kin.self] at g3
      simp only [Kin.self] at g4
      clear hcx f0 f1 f2 f3 f4 hv
      cases ha : adoB nd y n
      all_goals
        go_wp2_with fail
        refine (l26Adopted_is m nd y n a ⟨by omega, by omega, by omega, by omega⟩ _ ha _).mono ?_
        rintro e w3 ⟨rfl, hb3⟩
        go_wp2
        go_roundw
        case rel => exact ⟨k + 1, by omega, by go_num, by rw [HS.out, ha]; simp, bth hb hb3⟩
        case measure => simp [intOf]; omega
    · obtain rfl : k = xs.length := by omega
      have HBb := bth HB hb
      generalize hA : adTo xs xs.length = a at *
      generalize hN : xs.length = n at *
      have HA := Lib.hid hA; have HN := Lib.hid hN; clear hA hN
      by_cases c0 : n = 0
      · have e0 : ((n : Int) == 0) = true := by simp [c0]
        have C0 := Lib.hid c0; clear c0
        go_wp2
        go_ret2
        exact ⟨by (rw [HN.out, HA.out, headS, if_pos C0.out]; first | done | rfl), HBb⟩
      have e0 : ((n : Int) == 0) = false := by simp [c0]
      by_cases c1 : n = 1
      · have e1 : ((n : Int) == 1) = true := by simp [c1]
        have C1 := Lib.hid c1; have C0 := Lib.hid c0; clear c1 c0
        by_cases a1 : a = 1
        · have f1 : ((a : Int) == 1) = true := by simp [a1]
          have A1 := Lib.hid a1; clear a1
          go_wp2
          go_ret2
          exact ⟨by (rw [HN.out, HA.out, headS, if_neg C0.out, if_pos C1.out, if_pos A1.out]; first | done | rfl), HBb⟩
        · have f1 : ((a : Int) == 1) = false := by simp; omega
          have A1 := Lib.hid a1; clear a1
          go_wp2
          go_ret2
          exact ⟨by (rw [HN.out, HA.out, headS, if_neg C0.out, if_pos C1.out, if_neg A1.out]; first | done | rfl), HBb⟩
      have e1 : ((n : Int) == 1) = false := by simp; omega
      by_cases c2 : a = n
      · have e2 : ((a : Int) == n) = true := by simp [c2]
        have C1 := Lib.hid c1; have C0 := Lib.hid c0; have C2 := Lib.hid c2; clear c1 c0 c2
        go_wp2_with fail
        refine (l1Num_is n (by omega) (by omega) _).mono ?_
        rintro e w5 ⟨rfl, hb5⟩
        go_wp2
        go_ret2
        exact ⟨by (rw [HN.out, HA.out, headS, if_neg C0.out, if_neg C1.out, if_pos C2.out]; first | done | rfl), bth HBb hb5⟩
      have e2 : ((a : Int) == n) = false := by simp; omega
      by_cases c3 : a = 0
      · have e3 : ((a : Int) == 0) = true := by simp [c3]
        have C1 := Lib.hid c1; have C0 := Lib.hid c0; have C2 := Lib.hid c2; have C3 := Lib.hid c3; clear c1 c0 c2 c3
        go_wp2_with fail
        refine (l1Num_is n (by omega) (by omega) _).mono ?_
        rintro e w5 ⟨rfl, hb5⟩
        go_wp2
        go_ret2
        exact ⟨by (rw [HN.out, HA.out, headS, if_neg C0.out, if_neg C1.out, if_neg C2.out, if_pos C3.out]; first | done | rfl), bth HBb hb5⟩
      · have e3 : ((a : Int) == 0) = false := by simp; omega
        have C1 := Lib.hid c1; have C0 := Lib.hid c0; have C2 := Lib.hid c2; have C3 := Lib.hid c3; clear c1 c0 c2 c3
        go_wp2_with fail
        refine (l1Num_is a (by omega) (by omega) _).mono ?_
        rintro e w5 ⟨rfl, hb5⟩
        go_wp2_with fail
        refine (l1Num_is n (by omega) (by omega) _).mono ?_
        rintro e w6 ⟨rfl, hb6⟩
        go_wp2
        go_ret2
        exact ⟨by (rw [HN.out, HA.out, headS, if_neg C0.out, if_neg C1.out, if_neg C2.out, if_neg C3.out]; first | done | rfl), bth (bth HBb hb5) hb6⟩
end Go.Proofs.YtbnncgahepcfnaaDoor
