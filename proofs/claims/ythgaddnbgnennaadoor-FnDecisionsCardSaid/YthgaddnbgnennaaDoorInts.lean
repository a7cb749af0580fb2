/- Lists of numbers: rising ones, membership, copies, marks. -/
import Derived.Test.YthgaddnbgnennaaDoorStr
import Derived.Test.YthgaddnbgnennaaDoorFind
namespace Go.Proofs.YthgaddnbgnennaaDoor
open Go.RowKit Go.G9
def ascStep (xs : List Int) (lo hi : Int) : Nat → Bool
  | 0 => match xs[0]? with | some x => inB x lo hi | none => true
  | j + 1 => match xs[j]?, xs[j+1]? with | some y, some x => inB x lo hi && decide (y < x) | _, _ => true
def ascB (xs : List Int) (lo hi : Int) : Bool := allTo (ascStep xs lo hi) xs.length
def hasB (xs : List Int) (n : Int) : Bool := xs.any (fun x => x == n)
set_option maxHeartbeats 1000000 in
theorem ascending_is (A : Option Addr) (c : Nat) (xs : List Int) (lo hi : Int) (hn : xs.length ≤ 1048576) (v : Bool) (hv : ascB xs lo hi = v) (w : World) (hR : Rds 1 intC w A xs) :
  Calls Tryd.prog 67 #[.slice A xs.length c, .int .i64 lo, .int .i64 hi] w fun e w' => e = .returned (.bool v) ∧ Below w.heap.size w w' := by
  subst hv
  go_enter Tryd.func67, Tryd.ntmps67
  go_wp2
  go_loopw [11] (fun i wr => ∃ k : Nat, k ≤ xs.length ∧ i = .int .i64 k ∧ allTo (ascStep xs lo hi) k = true ∧ Below w.heap.size w wr) (fun i _ => xs.length - (intOf i).toNat)
  case atStart => exact ⟨0, Nat.zero_le _, rfl, rfl, Below.refl _ _⟩
  case round =>
    obtain ⟨k, hk, rfl, hl, hb⟩ := hrel
    have HL := Lib.hid hl; clear hl
    by_cases hlt : k < xs.length
    · obtain ⟨b, off, x, rfl, hbl, hx, hcx⟩ := hR.at_ hb hlt
      cases k with
      | zero =>
        have f0 := hcx 0 _ rfl
        simp only [Nat.zero_mul, Nat.add_zero] at f0
        have g0 := f0 (Kin.self _)
        simp only [Kin.self] at g0
        have HX := Lib.hid hx; clear hx hcx
        cases hv : inB x lo hi
        all_goals
          go_wp2_with (go_at_call 48; refine (inside_is _ _ _ _ hv _).mono ?_; rintro e w' ⟨rfl, rfl⟩)
        · go_ret
          exact ⟨ret_bool (by rw [ascB, allTo_not hlt (by simp [ascStep, HX.out, hv])]), hb⟩
        · go_roundw
          case rel => exact ⟨1, by omega, by go_num, allTo_go HL.out (by simp [ascStep, HX.out, hv]), hb⟩
          case measure => simp [intOf]; omega
      | succ j =>
        obtain ⟨b', off', y, e', _, hy, hcy⟩ := hR.at_ hb (k := j) (by omega)
        simp only [Option.some.injEq, Addr.mk.injEq, and_true] at e'
        obtain ⟨rfl, rfl⟩ := e'
        have f0 := hcx 0 _ rfl
        have y0 := hcy 0 _ rfl
        simp only [Nat.mul_one, Nat.add_zero] at f0 y0
        have g0 := f0 (Kin.self _)
        have z0 := y0 (Kin.self _)
        simp only [Kin.self] at g0 z0
        have HX := Lib.hid hx; clear hx hcx
        have HY := Lib.hid hy; clear hy hcy
        cases hv : inB x lo hi
        · go_wp2_with (go_at_call 48; refine (inside_is _ _ _ _ hv _).mono ?_; rintro e w' ⟨rfl, rfl⟩)
          go_ret
          exact ⟨ret_bool (by rw [ascB, allTo_not hlt (by simp [ascStep, HX.out, HY.out, hv])]), hb⟩
        · by_cases hid : y < x
          all_goals
            go_wp2_with (go_at_call 48; refine (inside_is _ _ _ _ hv _).mono ?_; rintro e w' ⟨rfl, rfl⟩)
          · go_roundw
            case rel => exact ⟨j + 1 + 1, by omega, by go_num, allTo_go HL.out (by simp [ascStep, HX.out, HY.out, hv, hid]), hb⟩
            case measure => simp [intOf]; omega
          · go_ret
            exact ⟨ret_bool (by rw [ascB, allTo_not hlt (by simp [ascStep, HX.out, HY.out, hv, hid])]), hb⟩
    · obtain rfl : k = xs.length := by omega
      go_wp2
      go_ret
      exact ⟨ret_bool (by rw [ascB, HL.out]), hb⟩
set_option maxHeartbeats 1000000 in
theorem l1Rising_is (A : Option Addr) (c : Nat) (xs : List Int) (lo hi : Int) (hn : xs.length ≤ 1048576) (v : Bool) (hv : ascB xs lo hi = v) (w : World) (hR : Rds 1 intC w A xs) :
  Calls Tryd.prog 75 #[.slice A xs.length c, .int .i64 lo, .int .i64 hi] w fun e w' => e = .returned (.bool v) ∧ Below w.heap.size w w' := by
  subst hv
  go_enter Tryd.func75, Tryd.ntmps75
  go_wp2
  go_loopw [7] (fun i wr => ∃ k : Nat, k ≤ xs.length ∧ i = .int .i64 k ∧ allTo (ascStep xs lo hi) k = true ∧ Below w.heap.size w wr) (fun i _ => xs.length - (intOf i).toNat)
  case atStart => exact ⟨0, Nat.zero_le _, rfl, rfl, Below.refl _ _⟩
  case round =>
    obtain ⟨k, hk, rfl, hl, hb⟩ := hrel
    have HL := Lib.hid hl; clear hl
    by_cases hlt : k < xs.length
    · obtain ⟨b, off, x, rfl, hbl, hx, hcx⟩ := hR.at_ hb hlt
      cases k with
      | zero =>
        have f0 := hcx 0 _ rfl
        simp only [Nat.zero_mul, Nat.add_zero] at f0
        have HX := Lib.hid hx; clear hx hcx
        cases hv : inB x lo hi
        all_goals
          go_wp2
          refine wp_region_kin (by kernel_rfl) (by kernel_rfl) ?_
          repeat (go_big_quiet_step ((first | (go_at_call 58; exact Kin.same _ (l1In_is _ _ _ _ hv _)))))
          refine wpQuiet_nil ?_
          intro K
          go_wp2
        · go_ret
          exact ⟨ret_bool (by rw [ascB, allTo_not hlt (by simp [ascStep, HX.out, hv])]), bth hb K.below⟩
        · go_roundw
          case rel => exact ⟨1, by omega, by go_num, allTo_go HL.out (by simp [ascStep, HX.out, hv]), bth hb K.below⟩
          case measure => simp [intOf]; omega
      | succ j =>
        obtain ⟨b', off', y, e', _, hy, hcy⟩ := hR.at_ hb (k := j) (by omega)
        simp only [Option.some.injEq, Addr.mk.injEq, and_true] at e'
        obtain ⟨rfl, rfl⟩ := e'
        have f0 := hcx 0 _ rfl
        have y0 := hcy 0 _ rfl
        simp only [Nat.mul_one, Nat.add_zero] at f0 y0
        have HX := Lib.hid hx; clear hx hcx
        have HY := Lib.hid hy; clear hy hcy
        cases hv : inB x lo hi
        · go_wp2
          refine wp_region_kin (by kernel_rfl) (by kernel_rfl) ?_
          repeat (go_big_quiet_step ((first | (go_at_call 58; exact Kin.same _ (l1In_is _ _ _ _ hv _)))))
          refine wpQuiet_nil ?_
          intro K
          go_wp2
          go_ret
          exact ⟨ret_bool (by rw [ascB, allTo_not hlt (by simp [ascStep, HX.out, HY.out, hv])]), bth hb K.below⟩
        · by_cases hid : y < x
          all_goals
            go_wp2
            refine wp_region_kin (by kernel_rfl) (by kernel_rfl) ?_
            repeat (go_big_quiet_step ((first | (go_at_call 58; exact Kin.same _ (l1In_is _ _ _ _ hv _)))))
            refine wpQuiet_nil ?_
            intro K
            go_wp2
          · go_roundw
            case rel => exact ⟨j + 1 + 1, by omega, by go_num, allTo_go HL.out (by simp [ascStep, HX.out, HY.out, hv, hid]), bth hb K.below⟩
            case measure => simp [intOf]; omega
          · go_ret
            exact ⟨ret_bool (by rw [ascB, allTo_not hlt (by simp [ascStep, HX.out, HY.out, hv, hid])]), bth hb K.below⟩
    · obtain rfl : k = xs.length := by omega
      go_wp2
      go_ret
      exact ⟨ret_bool (by rw [ascB, HL.out]), hb⟩
theorem hasB_yes {xs : List Int} {n x : Int} {k : Nat} (hx : xs[k]? = some x) (h : x = n) : hasB xs n = true := by
  subst h; exact List.any_eq_true.2 ⟨x, List.mem_of_getElem? hx, by simp⟩
theorem hasB_no {xs : List Int} {n : Int} (h : allTo (fun i => !atB (fun x => x == n) xs i) xs.length = true) : hasB xs n = false := by
  have := idxB_ge (fun x => x == n) xs
  rw [idxB_none h] at this
  exact this.symm
theorem l1Has_is (A : Option Addr) (c : Nat) (xs : List Int) (n : Int) (hn : xs.length ≤ 1048576) (v : Bool) (hv : hasB xs n = v) (w : World) (hR : Rds 1 intC w A xs) :
  Calls Tryd.prog 60 #[.slice A xs.length c, .int .i64 n] w fun e w' => e = .returned (.bool v) ∧ Below w.heap.size w w' := by
  subst hv
  go_enter Tryd.func60, Tryd.ntmps60
  go_wp2
  go_loopw [5] (fun i wr => ∃ k : Nat, k ≤ xs.length ∧ i = .int .i64 k ∧ allTo (fun i => !atB (fun x => x == n) xs i) k = true ∧ Below w.heap.size w wr) (fun i _ => xs.length - (intOf i).toNat)
  case atStart => exact ⟨0, Nat.zero_le _, rfl, rfl, Below.refl _ _⟩
  case round =>
    obtain ⟨k, hk, rfl, hl, hb⟩ := hrel
    have HL := Lib.hid hl; clear hl
    by_cases hlt : k < xs.length
    · obtain ⟨b, off, x, rfl, hbl, hx, hcx⟩ := hR.at_ hb hlt
      have f0 := hcx 0 _ rfl
      simp only [Nat.mul_one, Nat.add_zero] at f0
      have g0 := f0 (Kin.self _)
      simp only [Kin.self] at g0
      have HX := Lib.hid hx; clear hx hcx
      by_cases he : x = n
      · have he' : (x == n) = true := beq_iff_eq.2 he
        have HE := Lib.hid he; clear he
        go_wp2
        go_ret
        exact ⟨ret_bool (hasB_yes HX.out HE.out).symm, hb⟩
      · have he' : (x == n) = false := beq_eq_false_iff_ne.2 he
        go_wp2
        go_roundw
        case rel => exact ⟨k + 1, by omega, by go_num, allTo_go HL.out (by simp [atB, HX.out, he]), hb⟩
        case measure => simp [intOf]; omega
    · obtain rfl : k = xs.length := by omega
      go_wp2
      go_ret
      exact ⟨ret_bool (hasB_no HL.out).symm, hb⟩
theorem index_int (A : Option Addr) (c : Nat) (xs : List Int) (n : Int) (hn : xs.length ≤ 1048576) (v : Int) (hv : idxB (fun x => x == n) xs = v) (w : World) (hR : Rds 1 intC w A xs) :
  Calls Tryd.prog 74 #[.slice A xs.length c, .int .i64 n] w fun e w' => e = .returned (.int .i64 v) ∧ Below w.heap.size w w' := by
  subst hv
  go_enter Tryd.func74, Tryd.ntmps74
  go_wp2
  go_loopw [8] (fun i wr => ∃ k : Nat, k ≤ xs.length ∧ i = .int .i64 k ∧ allTo (fun i => !atB (fun x => x == n) xs i) k = true ∧ Below w.heap.size w wr) (fun i _ => xs.length - (intOf i).toNat)
  case atStart => exact ⟨0, Nat.zero_le _, rfl, rfl, Below.refl _ _⟩
  case round =>
    obtain ⟨k, hk, rfl, hl, hb⟩ := hrel
    have HL := Lib.hid hl; clear hl
    by_cases hlt : k < xs.length
    · obtain ⟨b, off, x, rfl, hbl, hx, hcx⟩ := hR.at_ hb hlt
      have f0 := hcx 0 _ rfl
      simp only [Nat.mul_one, Nat.add_zero] at f0
      have g0 := f0 (Kin.self _)
      simp only [Kin.self] at g0
      have HX := Lib.hid hx; clear hx hcx
      by_cases he : x = n
      · have he' : (n == x) = true := beq_iff_eq.2 he.symm
        have HE := Lib.hid he; clear he
        go_wp2
        go_ret
        exact ⟨ret_int (idxB_found hlt HL.out (by simp [atB, HX.out, HE.out])).symm, hb⟩
      · have he' : (n == x) = false := beq_eq_false_iff_ne.2 (Ne.symm he)
        go_wp2
        go_roundw
        case rel => exact ⟨k + 1, by omega, by go_num, allTo_go HL.out (by simp [atB, HX.out, he]), hb⟩
        case measure => simp [intOf]; omega
    · obtain rfl : k = xs.length := by omega
      go_wp2
      go_ret
      exact ⟨ret_int (idxB_none HL.out).symm, hb⟩
theorem contains_int (A : Option Addr) (c : Nat) (xs : List Int) (n : Int) (hn : xs.length ≤ 1048576) (v : Bool) (hv : hasB xs n = v) (w : World) (hR : Rds 1 intC w A xs) :
  Calls Tryd.prog 57 #[.slice A xs.length c, .int .i64 n] w fun e w' => e = .returned (.bool v) ∧ Below w.heap.size w w' := by
  subst hv
  have hg := idxB_ge (fun x => x == n) xs
  have HG := Lib.hid hg; clear hg
  go_enter Tryd.func57, Tryd.ntmps57
  go_wp2_with fail
  refine (index_int A c xs n hn _ rfl _ hR).mono ?_
  rintro e w' ⟨rfl, hb⟩
  go_wp2
  go_ret
  exact ⟨ret_bool HG.out, hb⟩
end Go.Proofs.YthgaddnbgnennaaDoor
