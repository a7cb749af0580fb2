/- Lists of numbers: rising ones, membership, copies, marks. -/
import Derived.Test.YtkkdegmfmimdgaaStr
import Derived.Test.YtkkdegmfmimdgaaFind
namespace Go.Proofs.Ytkkdegmfmimdgaa
open Go.RowKit Go.G9
def ascStep (xs : List Int) (lo hi : Int) : Nat → Bool
  | 0 => match xs[0]? with | some x => inB x lo hi | none => true
  | j + 1 => match xs[j]?, xs[j+1]? with | some y, some x => inB x lo hi && decide (y < x) | _, _ => true
def ascB (xs : List Int) (lo hi : Int) : Bool := allTo (ascStep xs lo hi) xs.length
def hasB (xs : List Int) (n : Int) : Bool := xs.any (fun x => x == n)
theorem hasB_yes {xs : List Int} {n x : Int} {k : Nat} (hx : xs[k]? = some x) (h : x = n) : hasB xs n = true := by
  subst h; exact List.any_eq_true.2 ⟨x, List.mem_of_getElem? hx, by simp⟩
theorem hasB_no {xs : List Int} {n : Int} (h : allTo (fun i => !atB (fun x => x == n) xs i) xs.length = true) : hasB xs n = false := by
  have := idxB_ge (fun x => x == n) xs
  rw [idxB_none h] at this
  exact this.symm
theorem l1Has_is (A : Option Addr) (c : Nat) (xs : List Int) (n : Int) (hn : xs.length ≤ 1048576) (v : Bool) (hv : hasB xs n = v) (w : World) (hR : Rds 1 intC w A xs) :
  Calls Try.prog 105 #[.slice A xs.length c, .int .i64 n] w fun e w' => e = .returned (.bool v) ∧ Below w.heap.size w w' := by
  subst hv
  go_enter Try.func105, Try.ntmps105
  go_wp2
  go_loopw [5] (fun i wr => ∃ k : Nat, k ≤ xs.length ∧ i = .int .i64 k ∧ allTo (fun i => !atB (fun x => x == n) xs i) k = true ∧ Below w.heap.size w wr) (fun i _ => xs.length - (intOf i).toNat)
  case atStart => exact ⟨0, Nat.zero_le _, rfl, rfl, Below.refl _ _⟩
  case round =>
    obtain ⟨k, hk, rfl, hl, hb⟩ := hrel
    have HL := Lib.hid hl; clear hl
    by_cases hlt : k < xs.length
    · obtain ⟨b, off, x, rfl, hbl, hx, hcx⟩ := hR.at_ hb hlt
      have f0 := hcx 0 _ rfl
      simp only [Nat.mul_one, Nat.add_zero] at f0
      have g0 := f0 (Kin.self _)
      simp only [Kin.self] at g0
      have HX := Lib.hid hx; clear hx hcx
      by_cases he : x = n
      · have he' : (x == n) = true := beq_iff_eq.2 he
        have HE := Lib.hid he; clear he
        go_wp2
        go_ret
        exact ⟨ret_bool (hasB_yes HX.out HE.out).symm, hb⟩
      · have he' : (x == n) = false := beq_eq_false_iff_ne.2 he
        go_wp2
        go_roundw
        case rel => exact ⟨k + 1, by omega, by go_num, allTo_go HL.out (by simp [atB, HX.out, he]), hb⟩
        case measure => simp [intOf]; omega
    · obtain rfl : k = xs.length := by omega
      go_wp2
      go_ret
      exact ⟨ret_bool (hasB_no HL.out).symm, hb⟩
theorem index_int (A : Option Addr) (c : Nat) (xs : List Int) (n : Int) (hn : xs.length ≤ 1048576) (v : Int) (hv : idxB (fun x => x == n) xs = v) (w : World) (hR : Rds 1 intC w A xs) :
  Calls Try.prog 109 #[.slice A xs.length c, .int .i64 n] w fun e w' => e = .returned (.int .i64 v) ∧ Below w.heap.size w w' := by
  subst hv
  go_enter Try.func109, Try.ntmps109
  go_wp2
  go_loopw [8] (fun i wr => ∃ k : Nat, k ≤ xs.length ∧ i = .int .i64 k ∧ allTo (fun i => !atB (fun x => x == n) xs i) k = true ∧ Below w.heap.size w wr) (fun i _ => xs.length - (intOf i).toNat)
  case atStart => exact ⟨0, Nat.zero_le _, rfl, rfl, Below.refl _ _⟩
  case round =>
    obtain ⟨k, hk, rfl, hl, hb⟩ := hrel
    have HL := Lib.hid hl; clear hl
    by_cases hlt : k < xs.length
    · obtain ⟨b, off, x, rfl, hbl, hx, hcx⟩ := hR.at_ hb hlt
      have f0 := hcx 0 _ rfl
      simp only [Nat.mul_one, Nat.add_zero] at f0
      have g0 := f0 (Kin.self _)
      simp only [Kin.self] at g0
      have HX := Lib.hid hx; clear hx hcx
      by_cases he : x = n
      · have he' : (n == x) = true := beq_iff_eq.2 he.symm
        have HE := Lib.hid he; clear he
        go_wp2
        go_ret
        exact ⟨ret_int (idxB_found hlt HL.out (by simp [atB, HX.out, HE.out])).symm, hb⟩
      · have he' : (n == x) = false := beq_eq_false_iff_ne.2 (Ne.symm he)
        go_wp2
        go_roundw
        case rel => exact ⟨k + 1, by omega, by go_num, allTo_go HL.out (by simp [atB, HX.out, he]), hb⟩
        case measure => simp [intOf]; omega
    · obtain rfl : k = xs.length := by omega
      go_wp2
      go_ret
      exact ⟨ret_int (idxB_none HL.out).symm, hb⟩
theorem contains_int (A : Option Addr) (c : Nat) (xs : List Int) (n : Int) (hn : xs.length ≤ 1048576) (v : Bool) (hv : hasB xs n = v) (w : World) (hR : Rds 1 intC w A xs) :
  Calls Try.prog 86 #[.slice A xs.length c, .int .i64 n] w fun e w' => e = .returned (.bool v) ∧ Below w.heap.size w w' := by
  subst hv
  have hg := idxB_ge (fun x => x == n) xs
  have HG := Lib.hid hg; clear hg
  go_enter Try.func86, Try.ntmps86
  go_wp2_with fail
  refine (index_int A c xs n hn _ rfl _ hR).mono ?_
  rintro e w' ⟨rfl, hb⟩
  go_wp2
  go_ret
  exact ⟨ret_bool HG.out, hb⟩
end Go.Proofs.Ytkkdegmfmimdgaa
