/- The walk of the law of working days. -/
import Derived.Test.YtdimhbolckbjdaaCurW
namespace Go.Proofs.Ytdimhbolckbjdaa
open Go.RowKit Go.G9
theorem wk_law {f u q q2 : Int} (h : wdbOk f u = true) (h1 : q = (cntW f (u - f).toNat : Nat)) (h2 : q2 = (cntW f (u + 7 - f).toNat : Nat)) : q2 = q + 5 ∧ 0 ≤ q ∧ q ≤ 5000 := by
  unfold wdbOk at h
  simp only [Bool.and_eq_true, decide_eq_true_eq] at h
  have a := inB_iff.1 h.1
  have b := inB_iff.1 h.2.1
  have e : (u + 7 - f).toNat = (u - f).toNat + 7 := by omega
  rw [e, cntW_week] at h2
  have := cntW_le f (u - f).toNat
  omega
theorem rBig_is (A : Option Addr) (c n : Nat) (v : Bool) (hv : decide (65536 < n) = v) (w : World) : Calls Try.prog 27 #[.slice A n c] w fun e w' => e = .returned (.bool v) ∧ w' = w := by
  subst hv
  go_enter Try.func27, Try.ntmps27
  go_wp2
  go_ret
  exact ⟨by first | rfl | (congr 2; simp; omega) | (refine ret_bool ?_; simp; omega), rfl⟩
set_option maxHeartbeats 8000000 in
set_option maxRecDepth 100000 in
theorem law_workingDays (A : Option Addr) (c : Nat) (cs : List UInt8) (w : World) (hR : Rds 1 u8C w A cs) :
  Calls Try.prog 6 #[.slice A cs.length c] w fun e w' => e = .returned (.bool true) ∧ Below w.heap.size w w' := by
  cases hv : decide (65536 < cs.length)
  case true =>
    go_enter Try.func6, Try.ntmps6
    go_wp2_with fail
    refine (rBig_is A c cs.length _ hv _).mono ?_
    rintro e _ ⟨rfl, rfl⟩
    go_wp2
    go_ret
    exact ⟨rfl, (by repeat (first | exact Below.refl _ _ | refine Below.alloc ?_ (by first | exact Nat.le_refl _ | (simp <;> omega)) _ | refine Below.setCell ?_ (by first | exact Nat.le_refl _ | (simp <;> omega)) _))⟩
  have hcs : cs.length ≤ 1048576 := by have := of_decide_eq_false hv; omega
  go_enter Try.func6, Try.ntmps6
  go_wp2_with fail
  refine (rBig_is A c cs.length _ hv _).mono ?_
  rintro e w0 ⟨rfl, h0⟩
  rw [h0]
  clear h0 w0
  go_wp2_with fail
  refine (drawAwd_is A c cs hcs _ (hR.below (by repeat (first | exact Below.refl _ _ | refine Below.alloc ?_ (by first | exact Nat.le_refl _ | (simp <;> omega)) _ | refine Below.setCell ?_ (by first | exact Nat.le_refl _ | (simp <;> omega)) _)))).mono ?_
  rintro e w1 ⟨d, n, rfl, ⟨hd0, hd1⟩, ⟨hn0, hn1⟩, hb1⟩
  have hq1 : Below w.heap.size w w1 := bth (by repeat (first | exact Below.refl _ _ | refine Below.alloc ?_ (by first | exact Nat.le_refl _ | (simp <;> omega)) _ | refine Below.setCell ?_ (by first | exact Nat.le_refl _ | (simp <;> omega)) _)) hb1
  have HB : Below w.heap.size w w1 := hq1
  replace hR := hR.below hq1
  go_wp2_with fail
  refine (afterWorkingDays_is d n _).mono ?_
  rintro e w0 ⟨v1, rfl, ho1, h0⟩
  rw [h0]
  clear h0 w0
  obtain ⟨t, b, rfl, ⟨ht0, ht1⟩, hb⟩ := awd_form ho1
  go_wp2_with fail
  refine (sAfterWorkingDays_is d n _).mono ?_
  rintro e w0 ⟨v2, rfl, ho2, h0⟩
  rw [h0]
  clear h0 w0
  obtain rfl := ho2.uniq ho1
  clear ho1 ho2
  cases b
  · clear hb
    go_wp2_with fail
    refine (drawWdb_is A c cs hcs _ (hR.below (by repeat (first | exact Below.refl _ _ | refine Below.alloc ?_ (by first | exact Nat.le_refl _ | (simp <;> omega)) _ | refine Below.setCell ?_ (by first | exact Nat.le_refl _ | (simp <;> omega)) _)))).mono ?_
    rintro e w2 ⟨f, u, rfl, ⟨hf0, hf1⟩, ⟨hu0, hu1⟩, hb2⟩
    have hq2 : Below w1.heap.size w1 w2 := bth (by repeat (first | exact Below.refl _ _ | refine Below.alloc ?_ (by first | exact Nat.le_refl _ | (simp <;> omega)) _ | refine Below.setCell ?_ (by first | exact Nat.le_refl _ | (simp <;> omega)) _)) hb2
    replace HB := bth HB hq2
    replace hR := hR.below hq2
    obtain ⟨q, v, hq, hv, hqv⟩ := wdbV_form f u
    obtain ⟨q2, v2, hq2, hv2, hqv2⟩ := wdbV_form f (u + 7)
    have hcase : (v = true ∧ v2 = true ∧ q2 = q + 5 ∧ 0 ≤ q ∧ q ≤ 5000) ∨ v = false ∨ (v = true ∧ v2 = false) := by
      cases v
      · exact .inr (.inl rfl)
      · cases v2
        · exact .inr (.inr ⟨rfl, rfl⟩)
        · exact .inl ⟨rfl, rfl, wk_law hv.symm (hqv rfl) (hqv2 rfl)⟩
    have iW2 := iWdb_is f u
    have sW2 := sWdb_is f u
    have iW3 := iWdb_is f (u + 7)
    rw [hq] at iW2 sW2
    rw [hq2] at iW3
    have IW2 := Lib.hid iW2; have SW2 := Lib.hid sW2; have IW3 := Lib.hid iW3
    clear iW2 sW2 iW3 hq hv hqv hq2 hv2 hqv2
    go_wp2_with fail
    refine (IW2.out _).mono ?_
    rintro e w0 ⟨rfl, h0⟩
    rw [h0]
    clear h0 w0
    go_wp2_with fail
    refine (SW2.out _).mono ?_
    rintro e w0 ⟨rfl, h0⟩
    rw [h0]
    clear h0 w0
    go_wp2_with fail
    refine (IW3.out _).mono ?_
    rintro e w0 ⟨rfl, h0⟩
    rw [h0]
    clear h0 w0
    rcases hcase with ⟨rfl, rfl, rfl, hq0, hq1⟩ | rfl | ⟨rfl, rfl⟩
    all_goals
      clear IW2 SW2 IW3
      go_wp2_with fail
      refine (drawLg_is A c cs hcs _ (hR.below (by repeat (first | exact Below.refl _ _ | refine Below.alloc ?_ (by first | exact Nat.le_refl _ | (simp <;> omega)) _ | refine Below.setCell ?_ (by first | exact Nat.le_refl _ | (simp <;> omega)) _)))).mono ?_
      rintro e w3 ⟨m, y, rfl, ⟨hm0, hm1⟩, ⟨hy0, hy1⟩, hb3⟩
      have hq3 : Below w2.heap.size w2 w3 := bth (by repeat (first | exact Below.refl _ _ | refine Below.alloc ?_ (by first | exact Nat.le_refl _ | (simp <;> omega)) _ | refine Below.setCell ?_ (by first | exact Nat.le_refl _ | (simp <;> omega)) _)) hb3
      replace HB := bth HB hq3
      replace hR := hR.below hq3
      obtain ⟨g, v3, hg, hg2, hg3, hg4⟩ := lgV_form m y
      have hc3 : v3 = false ∨ (v3 = true ∧ (g + y == m) = true) := by
        cases v3
        · exact .inl rfl
        · exact .inr ⟨rfl, beq_iff_eq.2 (hg2 rfl)⟩
      have iL := iLg_is m y
      have sL := sLg_is m y
      rw [hg] at iL sL
      have IL := Lib.hid iL; have SL := Lib.hid sL
      clear iL sL hg hg2
      go_wp2_with fail
      refine (IL.out _).mono ?_
      rintro e w0 ⟨rfl, h0⟩
      rw [h0]
      clear h0 w0
      go_wp2_with fail
      refine (SL.out _).mono ?_
      rintro e w0 ⟨rfl, h0⟩
      rw [h0]
      clear h0 w0
      rcases hc3 with rfl | ⟨rfl, hgm⟩
      all_goals
        go_wp2_with fail
        refine (drawIw_is A c cs hcs _ (hR.below (by repeat (first | exact Below.refl _ _ | refine Below.alloc ?_ (by first | exact Nat.le_refl _ | (simp <;> omega)) _ | refine Below.setCell ?_ (by first | exact Nat.le_refl _ | (simp <;> omega)) _)))).mono ?_
        rintro e w4 ⟨x, rfl, ⟨hx0, hx1⟩, hb4⟩
        have hq4 : Below w3.heap.size w3 w4 := bth (by repeat (first | exact Below.refl _ _ | refine Below.alloc ?_ (by first | exact Nat.le_refl _ | (simp <;> omega)) _ | refine Below.setCell ?_ (by first | exact Nat.le_refl _ | (simp <;> omega)) _)) hb4
        replace HB := bth HB hq4
        replace hR := hR.below hq4
        obtain ⟨a1, b1, hx⟩ := iwV_form x
        have iI := iIw_is x
        have sI := sIw_is x
        rw [hx] at iI sI
        have II := Lib.hid iI; have SI := Lib.hid sI
        clear iI sI hx
        go_wp2_with fail
        refine (II.out _).mono ?_
        rintro e w0 ⟨rfl, h0⟩
        rw [h0]
        clear h0 w0
        go_wp2_with fail
        refine (SI.out _).mono ?_
        rintro e w0 ⟨rfl, h0⟩
        rw [h0]
        clear h0 w0
        go_wp2
        go_ret
        exact ⟨rfl, (bth HB (by repeat (first | exact Below.refl _ _ | refine Below.alloc ?_ (by first | exact Nat.le_refl _ | (simp <;> omega)) _ | refine Below.setCell ?_ (by first | exact Nat.le_refl _ | (simp <;> omega)) _)))⟩
  · obtain ⟨h1, h2, h3⟩ := hb rfl
    have iW := iWdb_is d t
    have iI := iIw_is t
    rw [h1] at iW
    rw [h2] at iI
    have IW := Lib.hid iW
    clear iW h1 h2 hb
    by_cases hn : 0 < n
    · rw [h3 hn] at iI
      have II0 := Lib.hid iI
      clear iI h3
      go_wp2_with fail
      refine (IW.out _).mono ?_
      rintro e w0 ⟨rfl, h0⟩
      rw [h0]
      clear h0 w0
      go_wp2_with fail
      refine (II0.out _).mono ?_
      rintro e w0 ⟨rfl, h0⟩
      rw [h0]
      clear h0 w0
      clear IW II0
      go_wp2_with fail
      refine (drawWdb_is A c cs hcs _ (hR.below (by repeat (first | exact Below.refl _ _ | refine Below.alloc ?_ (by first | exact Nat.le_refl _ | (simp <;> omega)) _ | refine Below.setCell ?_ (by first | exact Nat.le_refl _ | (simp <;> omega)) _)))).mono ?_
      rintro e w2 ⟨f, u, rfl, ⟨hf0, hf1⟩, ⟨hu0, hu1⟩, hb2⟩
      have hq2 : Below w1.heap.size w1 w2 := bth (by repeat (first | exact Below.refl _ _ | refine Below.alloc ?_ (by first | exact Nat.le_refl _ | (simp <;> omega)) _ | refine Below.setCell ?_ (by first | exact Nat.le_refl _ | (simp <;> omega)) _)) hb2
      replace HB := bth HB hq2
      replace hR := hR.below hq2
      obtain ⟨q, v, hq, hv, hqv⟩ := wdbV_form f u
      obtain ⟨q2, v2, hq2, hv2, hqv2⟩ := wdbV_form f (u + 7)
      have hcase : (v = true ∧ v2 = true ∧ q2 = q + 5 ∧ 0 ≤ q ∧ q ≤ 5000) ∨ v = false ∨ (v = true ∧ v2 = false) := by
        cases v
        · exact .inr (.inl rfl)
        · cases v2
          · exact .inr (.inr ⟨rfl, rfl⟩)
          · exact .inl ⟨rfl, rfl, wk_law hv.symm (hqv rfl) (hqv2 rfl)⟩
      have iW2 := iWdb_is f u
      have sW2 := sWdb_is f u
      have iW3 := iWdb_is f (u + 7)
      rw [hq] at iW2 sW2
      rw [hq2] at iW3
      have IW2 := Lib.hid iW2; have SW2 := Lib.hid sW2; have IW3 := Lib.hid iW3
      clear iW2 sW2 iW3 hq hv hqv hq2 hv2 hqv2
      go_wp2_with fail
      refine (IW2.out _).mono ?_
      rintro e w0 ⟨rfl, h0⟩
      rw [h0]
      clear h0 w0
      go_wp2_with fail
      refine (SW2.out _).mono ?_
      rintro e w0 ⟨rfl, h0⟩
      rw [h0]
      clear h0 w0
      go_wp2_with fail
      refine (IW3.out _).mono ?_
      rintro e w0 ⟨rfl, h0⟩
      rw [h0]
      clear h0 w0
      rcases hcase with ⟨rfl, rfl, rfl, hq0, hq1⟩ | rfl | ⟨rfl, rfl⟩
      all_goals
        clear IW2 SW2 IW3
        go_wp2_with fail
        refine (drawLg_is A c cs hcs _ (hR.below (by repeat (first | exact Below.refl _ _ | refine Below.alloc ?_ (by first | exact Nat.le_refl _ | (simp <;> omega)) _ | refine Below.setCell ?_ (by first | exact Nat.le_refl _ | (simp <;> omega)) _)))).mono ?_
        rintro e w3 ⟨m, y, rfl, ⟨hm0, hm1⟩, ⟨hy0, hy1⟩, hb3⟩
        have hq3 : Below w2.heap.size w2 w3 := bth (by repeat (first | exact Below.refl _ _ | refine Below.alloc ?_ (by first | exact Nat.le_refl _ | (simp <;> omega)) _ | refine Below.setCell ?_ (by first | exact Nat.le_refl _ | (simp <;> omega)) _)) hb3
        replace HB := bth HB hq3
        replace hR := hR.below hq3
        obtain ⟨g, v3, hg, hg2, hg3, hg4⟩ := lgV_form m y
        have hc3 : v3 = false ∨ (v3 = true ∧ (g + y == m) = true) := by
          cases v3
          · exact .inl rfl
          · exact .inr ⟨rfl, beq_iff_eq.2 (hg2 rfl)⟩
        have iL := iLg_is m y
        have sL := sLg_is m y
        rw [hg] at iL sL
        have IL := Lib.hid iL; have SL := Lib.hid sL
        clear iL sL hg hg2
        go_wp2_with fail
        refine (IL.out _).mono ?_
        rintro e w0 ⟨rfl, h0⟩
        rw [h0]
        clear h0 w0
        go_wp2_with fail
        refine (SL.out _).mono ?_
        rintro e w0 ⟨rfl, h0⟩
        rw [h0]
        clear h0 w0
        rcases hc3 with rfl | ⟨rfl, hgm⟩
        all_goals
          go_wp2_with fail
          refine (drawIw_is A c cs hcs _ (hR.below (by repeat (first | exact Below.refl _ _ | refine Below.alloc ?_ (by first | exact Nat.le_refl _ | (simp <;> omega)) _ | refine Below.setCell ?_ (by first | exact Nat.le_refl _ | (simp <;> omega)) _)))).mono ?_
          rintro e w4 ⟨x, rfl, ⟨hx0, hx1⟩, hb4⟩
          have hq4 : Below w3.heap.size w3 w4 := bth (by repeat (first | exact Below.refl _ _ | refine Below.alloc ?_ (by first | exact Nat.le_refl _ | (simp <;> omega)) _ | refine Below.setCell ?_ (by first | exact Nat.le_refl _ | (simp <;> omega)) _)) hb4
          replace HB := bth HB hq4
          replace hR := hR.below hq4
          obtain ⟨a1, b1, hx⟩ := iwV_form x
          have iI := iIw_is x
          have sI := sIw_is x
          rw [hx] at iI sI
          have II := Lib.hid iI; have SI := Lib.hid sI
          clear iI sI hx
          go_wp2_with fail
          refine (II.out _).mono ?_
          rintro e w0 ⟨rfl, h0⟩
          rw [h0]
          clear h0 w0
          go_wp2_with fail
          refine (SI.out _).mono ?_
          rintro e w0 ⟨rfl, h0⟩
          rw [h0]
          clear h0 w0
          go_wp2
          go_ret
          exact ⟨rfl, (bth HB (by repeat (first | exact Below.refl _ _ | refine Below.alloc ?_ (by first | exact Nat.le_refl _ | (simp <;> omega)) _ | refine Below.setCell ?_ (by first | exact Nat.le_refl _ | (simp <;> omega)) _)))⟩
    · have II0 := Lib.hid iI
      clear iI h3
      generalize wkB t = wb at *
      go_wp2_with fail
      refine (IW.out _).mono ?_
      rintro e w0 ⟨rfl, h0⟩
      rw [h0]
      clear h0 w0
      go_wp2_with fail
      refine (II0.out _).mono ?_
      rintro e w0 ⟨rfl, h0⟩
      rw [h0]
      clear h0 w0
      clear IW II0
      go_wp2_with fail
      refine (drawWdb_is A c cs hcs _ (hR.below (by repeat (first | exact Below.refl _ _ | refine Below.alloc ?_ (by first | exact Nat.le_refl _ | (simp <;> omega)) _ | refine Below.setCell ?_ (by first | exact Nat.le_refl _ | (simp <;> omega)) _)))).mono ?_
      rintro e w2 ⟨f, u, rfl, ⟨hf0, hf1⟩, ⟨hu0, hu1⟩, hb2⟩
      have hq2 : Below w1.heap.size w1 w2 := bth (by repeat (first | exact Below.refl _ _ | refine Below.alloc ?_ (by first | exact Nat.le_refl _ | (simp <;> omega)) _ | refine Below.setCell ?_ (by first | exact Nat.le_refl _ | (simp <;> omega)) _)) hb2
      replace HB := bth HB hq2
      replace hR := hR.below hq2
      obtain ⟨q, v, hq, hv, hqv⟩ := wdbV_form f u
      obtain ⟨q2, v2, hq2, hv2, hqv2⟩ := wdbV_form f (u + 7)
      have hcase : (v = true ∧ v2 = true ∧ q2 = q + 5 ∧ 0 ≤ q ∧ q ≤ 5000) ∨ v = false ∨ (v = true ∧ v2 = false) := by
        cases v
        · exact .inr (.inl rfl)
        · cases v2
          · exact .inr (.inr ⟨rfl, rfl⟩)
          · exact .inl ⟨rfl, rfl, wk_law hv.symm (hqv rfl) (hqv2 rfl)⟩
      have iW2 := iWdb_is f u
      have sW2 := sWdb_is f u
      have iW3 := iWdb_is f (u + 7)
      rw [hq] at iW2 sW2
      rw [hq2] at iW3
      have IW2 := Lib.hid iW2; have SW2 := Lib.hid sW2; have IW3 := Lib.hid iW3
      clear iW2 sW2 iW3 hq hv hqv hq2 hv2 hqv2
      go_wp2_with fail
      refine (IW2.out _).mono ?_
      rintro e w0 ⟨rfl, h0⟩
      rw [h0]
      clear h0 w0
      go_wp2_with fail
      refine (SW2.out _).mono ?_
      rintro e w0 ⟨rfl, h0⟩
      rw [h0]
      clear h0 w0
      go_wp2_with fail
      refine (IW3.out _).mono ?_
      rintro e w0 ⟨rfl, h0⟩
      rw [h0]
      clear h0 w0
      rcases hcase with ⟨rfl, rfl, rfl, hq0, hq1⟩ | rfl | ⟨rfl, rfl⟩
      all_goals
        clear IW2 SW2 IW3
        go_wp2_with fail
        refine (drawLg_is A c cs hcs _ (hR.below (by repeat (first | exact Below.refl _ _ | refine Below.alloc ?_ (by first | exact Nat.le_refl _ | (simp <;> omega)) _ | refine Below.setCell ?_ (by first | exact Nat.le_refl _ | (simp <;> omega)) _)))).mono ?_
        rintro e w3 ⟨m, y, rfl, ⟨hm0, hm1⟩, ⟨hy0, hy1⟩, hb3⟩
        have hq3 : Below w2.heap.size w2 w3 := bth (by repeat (first | exact Below.refl _ _ | refine Below.alloc ?_ (by first | exact Nat.le_refl _ | (simp <;> omega)) _ | refine Below.setCell ?_ (by first | exact Nat.le_refl _ | (simp <;> omega)) _)) hb3
        replace HB := bth HB hq3
        replace hR := hR.below hq3
        obtain ⟨g, v3, hg, hg2, hg3, hg4⟩ := lgV_form m y
        have hc3 : v3 = false ∨ (v3 = true ∧ (g + y == m) = true) := by
          cases v3
          · exact .inl rfl
          · exact .inr ⟨rfl, beq_iff_eq.2 (hg2 rfl)⟩
        have iL := iLg_is m y
        have sL := sLg_is m y
        rw [hg] at iL sL
        have IL := Lib.hid iL; have SL := Lib.hid sL
        clear iL sL hg hg2
        go_wp2_with fail
        refine (IL.out _).mono ?_
        rintro e w0 ⟨rfl, h0⟩
        rw [h0]
        clear h0 w0
        go_wp2_with fail
        refine (SL.out _).mono ?_
        rintro e w0 ⟨rfl, h0⟩
        rw [h0]
        clear h0 w0
        rcases hc3 with rfl | ⟨rfl, hgm⟩
        all_goals
          go_wp2_with fail
          refine (drawIw_is A c cs hcs _ (hR.below (by repeat (first | exact Below.refl _ _ | refine Below.alloc ?_ (by first | exact Nat.le_refl _ | (simp <;> omega)) _ | refine Below.setCell ?_ (by first | exact Nat.le_refl _ | (simp <;> omega)) _)))).mono ?_
          rintro e w4 ⟨x, rfl, ⟨hx0, hx1⟩, hb4⟩
          have hq4 : Below w3.heap.size w3 w4 := bth (by repeat (first | exact Below.refl _ _ | refine Below.alloc ?_ (by first | exact Nat.le_refl _ | (simp <;> omega)) _ | refine Below.setCell ?_ (by first | exact Nat.le_refl _ | (simp <;> omega)) _)) hb4
          replace HB := bth HB hq4
          replace hR := hR.below hq4
          obtain ⟨a1, b1, hx⟩ := iwV_form x
          have iI := iIw_is x
          have sI := sIw_is x
          rw [hx] at iI sI
          have II := Lib.hid iI; have SI := Lib.hid sI
          clear iI sI hx
          go_wp2_with fail
          refine (II.out _).mono ?_
          rintro e w0 ⟨rfl, h0⟩
          rw [h0]
          clear h0 w0
          go_wp2_with fail
          refine (SI.out _).mono ?_
          rintro e w0 ⟨rfl, h0⟩
          rw [h0]
          clear h0 w0
          go_wp2
          go_ret
          exact ⟨rfl, (bth HB (by repeat (first | exact Below.refl _ _ | refine Below.alloc ?_ (by first | exact Nat.le_refl _ | (simp <;> omega)) _ | refine Below.setCell ?_ (by first | exact Nat.le_refl _ | (simp <;> omega)) _)))⟩
end Go.Proofs.Ytdimhbolckbjdaa
