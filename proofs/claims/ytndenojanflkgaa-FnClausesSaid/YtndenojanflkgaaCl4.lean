/- The text that stands for a mark. -/
import Derived.Test.YtndenojanflkgaaCl3
import Derived.Lib.SlBytesRow
import Derived.Test.YtndenojanflkgaaProg
namespace Go.Proofs.Ytndenojanflkgaa
open Go.RowKit Go.G9
theorem flat_set {T : Type} {f : T → List Value} {sz : Nat} (hf : ∀ y, (f y).length = sz) : ∀ (xs : List T) (i : Nat) (x y : T) (j : Nat) (u : Value), xs[i]? = some x → f y = (f x).set j u → j < sz → (xs.flatMap f).set (i * sz + j) u = (xs.set i y).flatMap f
  | [], i, x, y, j, u, h, _, _ => by simp at h
  | a :: xs, 0, x, y, j, u, h, hy, hj => by
    simp at h; subst h
    simp only [List.flatMap_cons, List.set_cons_zero, Nat.zero_mul, Nat.zero_add, hy]
    rw [List.set_append_left _ _ (by rw [hf]; exact hj)]
  | a :: xs, i + 1, x, y, j, u, h, hy, hj => by
    have ih := flat_set hf xs i x y j u (by simpa using h) hy hj
    simp only [List.flatMap_cons, List.set_cons_succ]
    rw [List.set_append_right _ _ (by rw [hf, Nat.succ_mul]; omega), hf, show (i + 1) * sz + j - sz = i * sz + j by rw [Nat.succ_mul]; omega, ih]
theorem OwnV.setF {T : Type} {f : T → List Value} {B sz : Nat} {e : TypeId} {w : World} {v : Value} {xs : List T} {g : Nat} (hO : OwnV B e sz f w v xs) (hg : v.ownBlock = some g) (hf : ∀ y, (f y).length = sz) {i j : Nat} {x y : T} {u : Value} (hx : xs[i]? = some x) (hy : f y = (f x).set j u) (hj : j < sz) :
    OwnV B e sz f (w.setCell ⟨g, i * sz + j, none⟩ u) v (xs.set i y) := by
  have h := ownsRow_set (j := i * sz + j) (u := u) hO hg
  rw [flat_set hf xs i x y j u hx hy hj] at h
  unfold OwnV
  rw [List.length_set]
  exact h
def markD (k : Nat) : ByteArray := if _h : k = 0 then ⟨#[]⟩ else markD (k / 10) ++ ⟨#[48 + UInt8.ofNat (k % 10)]⟩
termination_by k
decreasing_by omega
def markS (k : Nat) : ByteArray := ⟨#[109]⟩ ++ markD k
end Go.Proofs.Ytndenojanflkgaa
/- slices.IndexFunc and its kin, at the instances that the program uses. -/
namespace Go.Proofs.Ytndenojanflkgaa
open Go.RowKit Go.G9
set_option maxHeartbeats 1000000 in
set_option maxRecDepth 100000 in
theorem indexFunc_int (A : Option Addr) (c : Nat) (xs : List Int) (hn : xs.length ≤ 1048576) (f : FuncId) (cv : Array Value) (hcall : ∀ args W, (callFunc f args).run Try.prog W = .ok (.enter f args) W) (p : Int → Bool) (v : Int) (hv : idxB p xs = v) (w : World) (hR : Rds 1 intC w A xs)
    (hf : ∀ x, x ∈ xs → ∀ W, Below w.heap.size w W → Calls Try.prog f (#[.int .i64 x] ++ cv) W fun e w' => e = .returned (.bool (p x)) ∧ Below W.heap.size W w') :
  Calls Try.prog 53 #[.slice A xs.length c, .func (.func f) #[] cv] w fun e w' => e = .returned (.int .i64 v) ∧ Below w.heap.size w w' := by
  subst hv
  have HF := Lib.hid hf; clear hf
  go_enter Try.func53, Try.ntmps53
  go_wp2
  go_loopw [8] (fun i wr => ∃ k : Nat, k ≤ xs.length ∧ i = .int .i64 k ∧ allTo (fun i => !atB p xs i) k = true ∧ Below w.heap.size w wr) (fun i _ => xs.length - (intOf i).toNat)
  case atStart => exact ⟨0, Nat.zero_le _, rfl, rfl, Below.refl _ _⟩
  case round =>
    obtain ⟨k, hk, rfl, hl, hb⟩ := hrel
    have HL := Lib.hid hl; clear hl
    by_cases hlt : k < xs.length
    · obtain ⟨b, off, x, rfl, hbl, hx, hcx⟩ := hR.at_ hb hlt
      have HF' := Lib.hid (HF.out x (List.mem_of_getElem? hx))
      have f0 := hcx 0 _ rfl
      simp only [Nat.add_zero] at f0
      simp only [Nat.mul_one] at f0
      have g0 := f0 (Kin.self _)
      simp only [Kin.self] at g0
      have HX := Lib.hid hx; clear hx hcx
      go_wp2_with fail
      refine (HF'.out _ hb).mono ?_
      rintro e w' ⟨rfl, hb'⟩
      cases hp : p x
      · go_wp2
        go_roundw
        case rel => exact ⟨k + 1, by omega, by go_num, allTo_go HL.out (by simp [atB, HX.out, hp]), bth hb hb'⟩
        case measure => simp [intOf]; omega
      · go_wp2
        go_ret
        exact ⟨ret_int (idxB_found hlt HL.out (by simp [atB, HX.out, hp])).symm, bth hb hb'⟩
    · obtain rfl : k = xs.length := by omega
      go_wp2
      go_ret
      exact ⟨ret_int (idxB_none HL.out).symm, hb⟩
theorem containsFunc_int (A : Option Addr) (c : Nat) (xs : List Int) (hn : xs.length ≤ 1048576) (f : FuncId) (cv : Array Value) (hcall : ∀ args W, (callFunc f args).run Try.prog W = .ok (.enter f args) W) (p : Int → Bool) (v : Bool) (hv : xs.any p = v) (w : World) (hR : Rds 1 intC w A xs)
    (hf : ∀ x, x ∈ xs → ∀ W, Below w.heap.size w W → Calls Try.prog f (#[.int .i64 x] ++ cv) W fun e w' => e = .returned (.bool (p x)) ∧ Below W.heap.size W w') :
  Calls Try.prog 45 #[.slice A xs.length c, .func (.func f) #[] cv] w fun e w' => e = .returned (.bool v) ∧ Below w.heap.size w w' := by
  subst hv
  have HF := Lib.hid hf; clear hf
  have hg := idxB_ge p xs
  have HG := Lib.hid hg; clear hg
  go_enter Try.func45, Try.ntmps45
  go_wp2_with fail
  refine (indexFunc_int A c xs hn f cv hcall p _ rfl _ hR HF.out).mono ?_
  rintro e w' ⟨rfl, hb⟩
  go_wp2
  go_ret
  exact ⟨ret_bool HG.out, hb⟩
end Go.Proofs.Ytndenojanflkgaa
/- Lists of numbers: rising ones, membership, copies, marks. -/
namespace Go.Proofs.Ytndenojanflkgaa
open Go.RowKit Go.G9
def ascStep (xs : List Int) (lo hi : Int) : Nat → Bool
  | 0 => match xs[0]? with | some x => inB x lo hi | none => true
  | j + 1 => match xs[j]?, xs[j+1]? with | some y, some x => inB x lo hi && decide (y < x) | _, _ => true
def ascB (xs : List Int) (lo hi : Int) : Bool := allTo (ascStep xs lo hi) xs.length
def hasB (xs : List Int) (n : Int) : Bool := xs.any (fun x => x == n)
set_option maxHeartbeats 1000000 in
theorem ascending_is (A : Option Addr) (c : Nat) (xs : List Int) (lo hi : Int) (hn : xs.length ≤ 1048576) (v : Bool) (hv : ascB xs lo hi = v) (w : World) (hR : Rds 1 intC w A xs) :
  Calls Try.prog 30 #[.slice A xs.length c, .int .i64 lo, .int .i64 hi] w fun e w' => e = .returned (.bool v) ∧ Below w.heap.size w w' := by
  subst hv
  go_enter Try.func30, Try.ntmps30
  go_wp2
  go_loopw [11] (fun i wr => ∃ k : Nat, k ≤ xs.length ∧ i = .int .i64 k ∧ allTo (ascStep xs lo hi) k = true ∧ Below w.heap.size w wr) (fun i _ => xs.length - (intOf i).toNat)
  case atStart => exact ⟨0, Nat.zero_le _, rfl, rfl, Below.refl _ _⟩
  case round =>
    obtain ⟨k, hk, rfl, hl, hb⟩ := hrel
    have HL := Lib.hid hl; clear hl
    by_cases hlt : k < xs.length
    · obtain ⟨b, off, x, rfl, hbl, hx, hcx⟩ := hR.at_ hb hlt
      cases k with
      | zero =>
        have f0 := hcx 0 _ rfl
        simp only [Nat.zero_mul, Nat.add_zero] at f0
        have g0 := f0 (Kin.self _)
        simp only [Kin.self] at g0
        have HX := Lib.hid hx; clear hx hcx
        cases hv : inB x lo hi
        all_goals
          go_wp2_with (go_at_call 34; refine (inside_is _ _ _ _ hv _).mono ?_; rintro e w' ⟨rfl, rfl⟩)
        · go_ret
          exact ⟨ret_bool (by rw [ascB, allTo_not hlt (by simp [ascStep, HX.out, hv])]), hb⟩
        · go_roundw
          case rel => exact ⟨1, by omega, by go_num, allTo_go HL.out (by simp [ascStep, HX.out, hv]), hb⟩
          case measure => simp [intOf]; omega
      | succ j =>
        obtain ⟨b', off', y, e', _, hy, hcy⟩ := hR.at_ hb (k := j) (by omega)
        simp only [Option.some.injEq, Addr.mk.injEq, and_true] at e'
        obtain ⟨rfl, rfl⟩ := e'
        have f0 := hcx 0 _ rfl
        have y0 := hcy 0 _ rfl
        simp only [Nat.mul_one, Nat.add_zero] at f0 y0
        have g0 := f0 (Kin.self _)
        have z0 := y0 (Kin.self _)
        simp only [Kin.self] at g0 z0
        have HX := Lib.hid hx; clear hx hcx
        have HY := Lib.hid hy; clear hy hcy
        cases hv : inB x lo hi
        · go_wp2_with (go_at_call 34; refine (inside_is _ _ _ _ hv _).mono ?_; rintro e w' ⟨rfl, rfl⟩)
          go_ret
          exact ⟨ret_bool (by rw [ascB, allTo_not hlt (by simp [ascStep, HX.out, HY.out, hv])]), hb⟩
        · by_cases hid : y < x
          all_goals
            go_wp2_with (go_at_call 34; refine (inside_is _ _ _ _ hv _).mono ?_; rintro e w' ⟨rfl, rfl⟩)
          · go_roundw
            case rel => exact ⟨j + 1 + 1, by omega, by go_num, allTo_go HL.out (by simp [ascStep, HX.out, HY.out, hv, hid]), hb⟩
            case measure => simp [intOf]; omega
          · go_ret
            exact ⟨ret_bool (by rw [ascB, allTo_not hlt (by simp [ascStep, HX.out, HY.out, hv, hid])]), hb⟩
    · obtain rfl : k = xs.length := by omega
      go_wp2
      go_ret
      exact ⟨ret_bool (by rw [ascB, HL.out]), hb⟩
set_option maxHeartbeats 1000000 in
theorem l1Rising_is (A : Option Addr) (c : Nat) (xs : List Int) (lo hi : Int) (hn : xs.length ≤ 1048576) (v : Bool) (hv : ascB xs lo hi = v) (w : World) (hR : Rds 1 intC w A xs) :
  Calls Try.prog 40 #[.slice A xs.length c, .int .i64 lo, .int .i64 hi] w fun e w' => e = .returned (.bool v) ∧ Below w.heap.size w w' := by
  subst hv
  go_enter Try.func40, Try.ntmps40
  go_wp2
  go_loopw [7] (fun i wr => ∃ k : Nat, k ≤ xs.length ∧ i = .int .i64 k ∧ allTo (ascStep xs lo hi) k = true ∧ Below w.heap.size w wr) (fun i _ => xs.length - (intOf i).toNat)
  case atStart => exact ⟨0, Nat.zero_le _, rfl, rfl, Below.refl _ _⟩
  case round =>
    obtain ⟨k, hk, rfl, hl, hb⟩ := hrel
    have HL := Lib.hid hl; clear hl
    by_cases hlt : k < xs.length
    · obtain ⟨b, off, x, rfl, hbl, hx, hcx⟩ := hR.at_ hb hlt
      cases k with
      | zero =>
        have f0 := hcx 0 _ rfl
        simp only [Nat.zero_mul, Nat.add_zero] at f0
        have HX := Lib.hid hx; clear hx hcx
        cases hv : inB x lo hi
        all_goals
          go_wp2
          refine wp_region_kin (by kernel_rfl) (by kernel_rfl) ?_
          repeat (go_big_quiet_step ((first | (go_at_call 52; exact Kin.same _ (l1In_is _ _ _ _ hv _)))))
          refine wpQuiet_nil ?_
          intro K
          go_wp2
        · go_ret
          exact ⟨ret_bool (by rw [ascB, allTo_not hlt (by simp [ascStep, HX.out, hv])]), bth hb K.below⟩
        · go_roundw
          case rel => exact ⟨1, by omega, by go_num, allTo_go HL.out (by simp [ascStep, HX.out, hv]), bth hb K.below⟩
          case measure => simp [intOf]; omega
      | succ j =>
        obtain ⟨b', off', y, e', _, hy, hcy⟩ := hR.at_ hb (k := j) (by omega)
        simp only [Option.some.injEq, Addr.mk.injEq, and_true] at e'
        obtain ⟨rfl, rfl⟩ := e'
        have f0 := hcx 0 _ rfl
        have y0 := hcy 0 _ rfl
        simp only [Nat.mul_one, Nat.add_zero] at f0 y0
        have HX := Lib.hid hx; clear hx hcx
        have HY := Lib.hid hy; clear hy hcy
        cases hv : inB x lo hi
        · go_wp2
          refine wp_region_kin (by kernel_rfl) (by kernel_rfl) ?_
          repeat (go_big_quiet_step ((first | (go_at_call 52; exact Kin.same _ (l1In_is _ _ _ _ hv _)))))
          refine wpQuiet_nil ?_
          intro K
          go_wp2
          go_ret
          exact ⟨ret_bool (by rw [ascB, allTo_not hlt (by simp [ascStep, HX.out, HY.out, hv])]), bth hb K.below⟩
        · by_cases hid : y < x
          all_goals
            go_wp2
            refine wp_region_kin (by kernel_rfl) (by kernel_rfl) ?_
            repeat (go_big_quiet_step ((first | (go_at_call 52; exact Kin.same _ (l1In_is _ _ _ _ hv _)))))
            refine wpQuiet_nil ?_
            intro K
            go_wp2
          · go_roundw
            case rel => exact ⟨j + 1 + 1, by omega, by go_num, allTo_go HL.out (by simp [ascStep, HX.out, HY.out, hv, hid]), bth hb K.below⟩
            case measure => simp [intOf]; omega
          · go_ret
            exact ⟨ret_bool (by rw [ascB, allTo_not hlt (by simp [ascStep, HX.out, HY.out, hv, hid])]), bth hb K.below⟩
    · obtain rfl : k = xs.length := by omega
      go_wp2
      go_ret
      exact ⟨ret_bool (by rw [ascB, HL.out]), hb⟩
theorem hasB_yes {xs : List Int} {n x : Int} {k : Nat} (hx : xs[k]? = some x) (h : x = n) : hasB xs n = true := by
  subst h; exact List.any_eq_true.2 ⟨x, List.mem_of_getElem? hx, by simp⟩
theorem hasB_no {xs : List Int} {n : Int} (h : allTo (fun i => !atB (fun x => x == n) xs i) xs.length = true) : hasB xs n = false := by
  have := idxB_ge (fun x => x == n) xs
  rw [idxB_none h] at this
  exact this.symm
theorem l1Has_is (A : Option Addr) (c : Nat) (xs : List Int) (n : Int) (hn : xs.length ≤ 1048576) (v : Bool) (hv : hasB xs n = v) (w : World) (hR : Rds 1 intC w A xs) :
  Calls Try.prog 32 #[.slice A xs.length c, .int .i64 n] w fun e w' => e = .returned (.bool v) ∧ Below w.heap.size w w' := by
  subst hv
  go_enter Try.func32, Try.ntmps32
  go_wp2
  go_loopw [5] (fun i wr => ∃ k : Nat, k ≤ xs.length ∧ i = .int .i64 k ∧ allTo (fun i => !atB (fun x => x == n) xs i) k = true ∧ Below w.heap.size w wr) (fun i _ => xs.length - (intOf i).toNat)
  case atStart => exact ⟨0, Nat.zero_le _, rfl, rfl, Below.refl _ _⟩
  case round =>
    obtain ⟨k, hk, rfl, hl, hb⟩ := hrel
    have HL := Lib.hid hl; clear hl
    by_cases hlt : k < xs.length
    · obtain ⟨b, off, x, rfl, hbl, hx, hcx⟩ := hR.at_ hb hlt
      have f0 := hcx 0 _ rfl
      simp only [Nat.mul_one, Nat.add_zero] at f0
      have g0 := f0 (Kin.self _)
      simp only [Kin.self] at g0
      have HX := Lib.hid hx; clear hx hcx
      by_cases he : x = n
      · have he' : (x == n) = true := beq_iff_eq.2 he
        have HE := Lib.hid he; clear he
        go_wp2
        go_ret
        exact ⟨ret_bool (hasB_yes HX.out HE.out).symm, hb⟩
      · have he' : (x == n) = false := beq_eq_false_iff_ne.2 he
        go_wp2
        go_roundw
        case rel => exact ⟨k + 1, by omega, by go_num, allTo_go HL.out (by simp [atB, HX.out, he]), hb⟩
        case measure => simp [intOf]; omega
    · obtain rfl : k = xs.length := by omega
      go_wp2
      go_ret
      exact ⟨ret_bool (hasB_no HL.out).symm, hb⟩
end Go.Proofs.Ytndenojanflkgaa
