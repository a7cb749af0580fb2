/- Reports: the closest result. -/
import Derived.Test.YtbnncgahepcfnaaDoorRes2
namespace Go.Proofs.YtbnncgahepcfnaaDoor
open Go.RowKit Go.G9
theorem absOf_is (n : Int) (h0 : -1000000 ≤ n) (h1 : n ≤ 1000000) (v : Int) (hv : absI n = v) (w : World) : Calls Tryd.prog 64 #[.int .i64 n] w fun e w' => e = .returned (.int .i64 v) ∧ w' = w := by
  subst hv
  by_cases h : n < 0
  · have h2 : n ≤ -n := by omega
    go_enter Tryd.func64, Tryd.ntmps64
    go_wp2
    go_ret
    exact ⟨ret_int (by simp [absI, *] <;> omega), rfl⟩
  · have h2 : -n ≤ n := by omega
    go_enter Tryd.func64, Tryd.ntmps64
    go_wp2
    go_ret
    exact ⟨ret_int (by simp [absI, *] <;> omega), rfl⟩
theorem l1Most_is (a b : Int) (v : Int) (hv : max a b = v) (w : World) : Calls Tryd.prog 95 #[.int .i64 a, .int .i64 b] w fun e w' => e = .returned (.int .i64 v) ∧ w' = w := by
  subst hv
  by_cases h : b < a
  · go_enter Tryd.func95, Tryd.ntmps95
    go_wp2
    go_ret
    exact ⟨ret_int (by omega), rfl⟩
  · go_enter Tryd.func95, Tryd.ntmps95
    go_wp2
    go_ret
    exact ⟨ret_int (by omega), rfl⟩
theorem l26Gap_is (y n a : Int) (h0 : 0 ≤ y) (h1 : y ≤ 1000) (h2 : 0 ≤ n) (h3 : n ≤ 1000) (v : Int) (hv : absI (y - n) = v) (w : World) :
  Calls Tryd.prog 65 #[.agg #[.int .i64 y, .int .i64 n, .int .i64 a]] w fun e w' => e = .returned (.int .i64 v) ∧ Below w.heap.size w w' := by
  have hm : max (y - n) (n - y) = absI (y - n) := by unfold absI; split <;> omega
  subst hv
  have HM := Lib.hid hm; clear hm
  go_enter Tryd.func65, Tryd.ntmps65
  go_wp2_with (go_at_call 95; refine (l1Most_is _ _ _ rfl _).mono ?_; rintro e w' ⟨rfl, rfl⟩)
  go_ret
  exact ⟨ret_int HM.out, bl1 _ _⟩
set_option maxHeartbeats 1000000 in
theorem closestOutcome_is (A : Option Addr) (c : Nat) (xs : List Res) (hn : xs.length ≤ 1048576) (v : Value) (hv : clsOut xs = v) (w : World) (hR : Rds 5 Res.cells w A xs) :
  Calls Tryd.prog 29 #[.slice A xs.length c] w fun e w' => e = .returned v ∧ Below w.heap.size w w' := by
  subst hv
  cases hr : reportB xs
  · go_enter Tryd.func29, Tryd.ntmps29
    go_wp2_with fail
    refine (isReport_is A c xs hn _ hr _ hR).mono ?_
    rintro e w1 ⟨rfl, hb1⟩
    go_wp2
    go_ret2
    exact ⟨by simp [clsOut, hr], hb1⟩
  by_cases h0 : xs.length = 0
  · have h0' : ((xs.length : Int) == 0) = true := beq_iff_eq.2 (by omega)
    have HN := Lib.hid h0; clear h0
    go_enter Tryd.func29, Tryd.ntmps29
    go_wp2_with fail
    refine (isReport_is A c xs hn _ hr _ hR).mono ?_
    rintro e w1 ⟨rfl, hb1⟩
    go_wp2
    go_ret2
    have := List.length_eq_zero_iff.1 HN.out
    exact ⟨by simp [clsOut, this], hb1⟩
  · have h0' : ((xs.length : Int) == 0) = false := beq_eq_false_iff_ne.2 (by omega)
    have hne : xs.isEmpty = false := by cases xs <;> simp at *
    have HN := Lib.hid hne; clear hne
    go_enter Tryd.func29, Tryd.ntmps29
    go_wp2_with fail
    refine (isReport_is A c xs hn _ hr _ hR).mono ?_
    rintro e w1 ⟨rfl, hb1⟩
    have hR1 := hR.below hb1
    go_wp2
    go_loopw [4, 17] (fun b i wr => ∃ k : Nat, k ≤ xs.length ∧ i = .int .i64 k ∧ b = .int .i64 (cls xs k) ∧ Below w1.heap.size w1 wr) (fun _ i _ => xs.length - (intOf i).toNat)
    case atStart => exact ⟨0, Nat.zero_le _, rfl, rfl, Below.refl _ _⟩
    case round =>
      obtain ⟨k, hk, rfl, rfl, hb⟩ := hrel
      by_cases hlt : k < xs.length
      · have hcl : cls xs k < xs.length := by have := (cls_le xs k).1; omega
        obtain ⟨b, off, x, rfl, hbl, hx, hcx⟩ := hR1.at_ hb hlt
        obtain ⟨b', off', q, e', _, hq, hcq⟩ := hR1.at_ hb hcl
        simp only [Option.some.injEq, Addr.mk.injEq, and_true] at e'
        obtain ⟨rfl, rfl⟩ := e'
        have hv := reportB_at hr hx
        have hvq := reportB_at hr hq
        obtain ⟨m, nd, y, n, a, hs⟩ := x
        obtain ⟨m', nd', y', n', a', hs'⟩ := q
        obtain ⟨t1, t2, t3, t4, t5, t6, _, _⟩ := resB_bd hv
        obtain ⟨u1, u2, u3, u4, u5, u6, _, _⟩ := resB_bd hvq
        have f0 := hcx 0 _ rfl
        have f1 := hcx 1 _ rfl
        have f2 := hcx 2 _ rfl
        have f3 := hcx 3 _ rfl
        have f4 := hcx 4 _ rfl
        simp only [Nat.add_zero] at f0
        have g0 := f0 (Kin.self _)
        have g1 := f1 (Kin.self _)
        have g2 := f2 (Kin.self _)
        have g3 := f3 (Kin.self _)
        have g4 := f4 (Kin.self _)
        simp only [Kin.self] at g0
        simp only [Kin.self] at g1
        simp only [Kin.self] at g2
        simp only [Kin.self] at g3
        simp only [Kin.self] at g4
        have q2 := hcq 2 _ rfl
        have q3 := hcq 3 _ rfl
        have HX := Lib.hid hx; clear hx hcx hv
        have HQ := Lib.hid hq; clear hq hcq hvq
        have hstep : cls xs (k + 1) = if absI (y - n) < absI (y' - n') then k else cls xs k := by rw [cls, HX.out, HQ.out]; rfl
        have HS := Lib.hid hstep; clear hstep
        have n2 := boxed wr #[.string m, .int .i64 nd, .int .i64 y, .int .i64 n, .int .i64 a] 31 2 _ rfl
        have n3 := boxed wr #[.string m, .int .i64 nd, .int .i64 y, .int .i64 n, .int .i64 a] 31 3 _ rfl
        have p2 := fun K : Kin (wr.alloc _).heap.size (wr.alloc (.cells #[.string m, .int .i64 nd, .int .i64 y, .int .i64 n, .int .i64 a] 31)) => q2 (K.drop (bl1 _ _))
        have p3 := fun K : Kin (wr.alloc _).heap.size (wr.alloc (.cells #[.string m, .int .i64 nd, .int .i64 y, .int .i64 n, .int .i64 a] 31)) => q3 (K.drop (bl1 _ _))
        simp only [Kin.drop] at p2 p3
        clear q2 q3
        by_cases hc : absI (y - n) < absI (y' - n')
        · go_wp2
          refine wp_region_kin (by kernel_rfl) (by kernel_rfl) ?_
          repeat (go_big_quiet_step ((first | (go_at_call 64; exact Kin.same _ (absOf_is _ (by omega) (by omega) _ rfl _)))))
          refine wpQuiet_nil ?_
          intro K
          go_wp2
          go_roundw
          case rel => exact ⟨k + 1, by omega, by go_num, by rw [HS.out, if_pos (by omega)], bth hb (bth (bl1 _ _) K.below)⟩
          case measure => simp [intOf]; omega
        · go_wp2
          refine wp_region_kin (by kernel_rfl) (by kernel_rfl) ?_
          repeat (go_big_quiet_step ((first | (go_at_call 64; exact Kin.same _ (absOf_is _ (by omega) (by omega) _ rfl _)))))
          refine wpQuiet_nil ?_
          intro K
          go_wp2
          go_roundw
          case rel => exact ⟨k + 1, by omega, by go_num, by rw [HS.out, if_neg (by omega)], bth hb (bth (bl1 _ _) K.below)⟩
          case measure => simp [intOf]; omega
      · obtain rfl : k = xs.length := by omega
        go_wp2
        go_ret2
        exact ⟨by simp [clsOut, hr, HN.out], bth hb1 hb⟩
set_option maxHeartbeats 1000000 in
theorem sClosestOutcome_is (A : Option Addr) (c : Nat) (xs : List Res) (hn : xs.length ≤ 1048576) (v : Value) (hv : clsOut xs = v) (w : World) (hR : Rds 5 Res.cells w A xs) :
  Calls Tryd.prog 30 #[.slice A xs.length c] w fun e w' => e = .returned v ∧ Below w.heap.size w w' := by
  subst hv
  cases hr : reportB xs
  · go_enter Tryd.func30, Tryd.ntmps30
    go_wp2_with fail
    refine (l26Good_is A c xs hn _ hr _ hR).mono ?_
    rintro e w1 ⟨rfl, hb1⟩
    go_wp2
    go_ret2
    exact ⟨by simp [clsOut, hr], hb1⟩
  by_cases h0 : xs.length = 0
  · have h0' : ((xs.length : Int) == 0) = true := beq_iff_eq.2 (by omega)
    have HN := Lib.hid h0; clear h0
    go_enter Tryd.func30, Tryd.ntmps30
    go_wp2_with fail
    refine (l26Good_is A c xs hn _ hr _ hR).mono ?_
    rintro e w1 ⟨rfl, hb1⟩
    go_wp2
    go_ret2
    have := List.length_eq_zero_iff.1 HN.out
    exact ⟨by simp [clsOut, this], hb1⟩
  · have h0' : ((xs.length : Int) == 0) = false := beq_eq_false_iff_ne.2 (by omega)
    have hne : xs.isEmpty = false := by cases xs <;> simp at *
    have HN := Lib.hid hne; clear hne
    have hc1 : cls xs 1 = 0 := by rw [cls, show cls xs 0 = 0 from rfl]; split <;> simp
    have HC1 := Lib.hid hc1; clear hc1
    go_enter Tryd.func30, Tryd.ntmps30
    go_wp2_with fail
    refine (l26Good_is A c xs hn _ hr _ hR).mono ?_
    rintro e w1 ⟨rfl, hb1⟩
    have hR1 := hR.below hb1
    go_wp2
    go_loopw [4, 5] (fun b i wr => ∃ k : Nat, k ≤ xs.length ∧ i = .int .i64 k ∧ b = .int .i64 (cls xs k) ∧ Below w1.heap.size w1 wr) (fun _ i _ => xs.length - (intOf i).toNat)
    case atStart => exact ⟨1, by omega, rfl, by rw [HC1.out]; rfl, Below.refl _ _⟩
    case round =>
      obtain ⟨k, hk, rfl, rfl, hb⟩ := hrel
      by_cases hlt : k < xs.length
      · have hcl : cls xs k < xs.length := by have := (cls_le xs k).1; omega
        obtain ⟨b, off, x, rfl, hbl, hx, hcx⟩ := hR1.at_ hb hlt
        obtain ⟨b', off', q, e', _, hq, hcq⟩ := hR1.at_ hb hcl
        simp only [Option.some.injEq, Addr.mk.injEq, and_true] at e'
        obtain ⟨rfl, rfl⟩ := e'
        have hv := reportB_at hr hx
        have hvq := reportB_at hr hq
        obtain ⟨m, nd, y, n, a, hs⟩ := x
        obtain ⟨m', nd', y', n', a', hs'⟩ := q
        obtain ⟨t1, t2, t3, t4, t5, t6, _, _⟩ := resB_bd hv
        obtain ⟨u1, u2, u3, u4, u5, u6, _, _⟩ := resB_bd hvq
        have f2 := hcx 2 _ rfl
        have f3 := hcx 3 _ rfl
        have f4 := hcx 4 _ rfl
        have q2 := hcq 2 _ rfl
        have q3 := hcq 3 _ rfl
        have q4 := hcq 4 _ rfl
        have HX := Lib.hid hx; clear hx hcx hv
        have HQ := Lib.hid hq; clear hq hcq hvq
        have hstep : cls xs (k + 1) = if absI (y - n) < absI (y' - n') then k else cls xs k := by rw [cls, HX.out, HQ.out]; rfl
        have HS := Lib.hid hstep; clear hstep
        by_cases hc : absI (y - n) < absI (y' - n')
        · go_wp2
          refine wp_region_kin (by kernel_rfl) (by kernel_rfl) ?_
          repeat (go_big_quiet_step ((first | (go_at_call 65; exact Kin.call _ (by first | exact Nat.le_refl _ | omega) (l26Gap_is _ _ _ (by omega) (by omega) (by omega) (by omega) _ rfl _)))))
          refine wpQuiet_nil ?_
          intro K
          go_wp2
          go_roundw
          case rel => exact ⟨k + 1, by omega, by go_num, by rw [HS.out, if_pos (by omega)], bth hb K.below⟩
          case measure => simp [intOf]; omega
        · go_wp2
          refine wp_region_kin (by kernel_rfl) (by kernel_rfl) ?_
          repeat (go_big_quiet_step ((first | (go_at_call 65; exact Kin.call _ (by first | exact Nat.le_refl _ | omega) (l26Gap_is _ _ _ (by omega) (by omega) (by omega) (by omega) _ rfl _)))))
          refine wpQuiet_nil ?_
          intro K
          go_wp2
          go_roundw
          case rel => exact ⟨k + 1, by omega, by go_num, by rw [HS.out, if_neg (by omega)], bth hb K.below⟩
          case measure => simp [intOf]; omega
      · obtain rfl : k = xs.length := by omega
        go_wp2
        go_ret2
        exact ⟨by simp [clsOut, hr, HN.out], bth hb1 hb⟩
end Go.Proofs.YtbnncgahepcfnaaDoor
