/- Lists of numbers: copies, comparisons, marks. -/
import Derived.Test.YthgaddnbgnennaaDoorInts
import Derived.Test.YthgaddnbgnennaaDoorOwn
namespace Go.Proofs.YthgaddnbgnennaaDoor
open Go.RowKit Go.G9
theorem info_int : (Tryd.prog.info? 3).map (fun i => (i.zero, i.size, i.bytes)) = some (some (.int .i64 0), 1, 8) := by kernel_rfl
theorem intC_len (y : Int) : (intC y).length = 1 := rfl
theorem intC_one (y : Int) (u : Value) (h : u ∈ intC y) : u.oneCell' = true := by simp [intC] at h; subst h; rfl
theorem intC_flat (xs : List Int) : xs.flatMap intC = xs.map (Value.int .i64) := by induction xs with
  | nil => rfl
  | cons x xs ih => simp [intC, ih]
theorem szIntS_is (A : Option Addr) (c : Nat) (xs : List Int) (hn : xs.length ≤ maxLen) (l : Int) (h00 : 0 ≤ l) (h01 : l ≤ 1048576) (w : World) :
  Calls Tryd.prog 34 #[.slice A xs.length c, .int .i64 l] w fun e w' => ∃ r : Int, e = .returned (.int .i64 r) ∧ -1 ≤ r ∧ r ≤ l ∧ (r < 0 ∨ xs.length ≤ 1048576) ∧ w' = w := by
  unfold maxLen at hn
  go_enter Tryd.func34, Tryd.ntmps34
  go_wp2
  all_goals go_ret
  all_goals exact ⟨_, rfl, by omega, by omega, by omega, rfl⟩
theorem eqIntS_is (A A' : Option Addr) (c c' : Nat) (xs : List Int) (hn : xs.length ≤ 1048576) (w : World) (hR : Rds 1 intC w A xs) (hR' : Rds 1 intC w A' xs) :
  Calls Tryd.prog 41 #[.slice A xs.length c, .slice A' xs.length c'] w fun e w' => e = .returned (.bool true) ∧ Below w.heap.size w w' := by
  go_enter Tryd.func41, Tryd.ntmps41
  go_wp2
  go_loopw [5] (fun i wr => ∃ (k : Nat), k ≤ xs.length ∧ i = .int .i64 k ∧ Below w.heap.size w wr) (fun i _ => xs.length - (intOf i).toNat)
  case atStart => exact ⟨0, Nat.zero_le _, rfl, Below.refl _ _⟩
  case round =>
    obtain ⟨k, hk, rfl, hb⟩ := hrel
    by_cases hlt : k < xs.length
    · obtain ⟨b, off, x, rfl, hbl, hx, hcx⟩ := hR.at_ hb hlt
      obtain ⟨b', off', x', rfl, _, hx', hcx'⟩ := hR'.at_ hb hlt
      obtain rfl : x = x' := Option.some.inj (hx.symm.trans hx')
      have f0 := hcx 0 _ rfl
      have e0 := hcx' 0 _ rfl
      simp only [Nat.mul_one, Nat.add_zero] at f0 e0
      clear hx hcx hx' hcx'
      go_wp2
      refine wp_region_kin (by kernel_rfl) (by kernel_rfl) ?_
      repeat (go_big_quiet_step ((fail)))
      refine wpQuiet_nil ?_
      intro K
      go_wp2
      go_roundw
      case rel => exact ⟨k + 1, by omega, by go_num, bth hb K.below⟩
      case measure => simp [intOf]; omega
    · go_wp2
      go_ret
      exact ⟨rfl, hb⟩
set_option maxHeartbeats 1000000 in
theorem toIntS_is (A : Option Addr) (c : Nat) (xs : List Int) (hn : xs.length ≤ 1048576) (w : World) (hR : Rds 1 intC w A xs) :
  Calls Tryd.prog 38 #[.slice A xs.length c] w fun e w' => ∃ A', e = .returned (.slice A' xs.length xs.length) ∧ OwnV w.heap.size 3 1 intC w' (.slice A' xs.length xs.length) xs ∧ Below w.heap.size w w' := by
  obtain ⟨i0, hi, hz0, hz1, hz2⟩ := info_parts info_int
  have hmk := run_make_rowN (P := Tryd.prog) 30 3 i0 _ Tryd.underlying30 hi hz0 .i64 .i64 xs.length xs.length (Nat.le_refl _) (by rw [hz2]; omega) (by omega)
  rw [hz1] at hmk
  go_enter Tryd.func38, Tryd.ntmps38
  go_wp2
  go_loopw [4] (fun i wr => ∃ (k : Nat) (cs : Array Value), k ≤ xs.length ∧ i = .int .i64 k ∧ Blk wr w.heap.size 3 cs ∧ cs.size = xs.length * 1 ∧ Filled 1 intC xs k cs ∧ Below w.heap.size w wr) (fun i _ => xs.length - (intOf i).toNat)
  case atStart => exact ⟨0, _, Nat.zero_le _, rfl, Blk.new _ _ _, by simp [madeCells], Filled.zero, bl1 _ _⟩
  case round =>
    obtain ⟨k, cs, hk, rfl, hB, hsz, hF, hb⟩ := hrel
    have HSZ := Lib.hid hsz; clear hsz
    by_cases hlt : k < xs.length
    · obtain ⟨b, off, x, rfl, hbl, hx, hcx⟩ := hR.at_ hb hlt
      have f0 := hcx 0 _ rfl
      simp only [Nat.mul_one, Nat.add_zero] at f0
      have g0 := f0 (Kin.self _)
      simp only [Kin.self] at g0
      clear hcx
      have HX := Lib.hid hx; clear hx
      obtain ⟨v0, c0⟩ := hB.some_ k (by rw [HSZ.out]; omega)
      have z0 := hB.frozen k
      go_wp2
      go_roundw
      case rel => exact ⟨k + 1, setMany cs (k * 1) (intC x), by omega, by go_num, by have h := hB.setMany (k * 1) (intC x); rw [Nat.mul_one] at h ⊢; exact h, by rw [size_setMany, HSZ.out], hF.put HX.out (by rw [HSZ.out]; simp [intC]; omega), hb.setCell (Nat.le_refl _) _⟩
      case measure => simp [intOf]; omega
    · obtain rfl : k = xs.length := by omega
      go_wp2
      go_ret
      exact ⟨_, rfl, OwnV.filled hB (Nat.le_refl _) HSZ.out (by unfold maxLen; omega) hF.all, hb⟩
theorem l1Own_is (A : Option Addr) (c : Nat) (xs : List Int) (hn : xs.length ≤ 1048576) (hA : A = none → xs = [] ∧ c = 0) (w : World) (hR : Rds 1 intC w A xs) :
  Calls Tryd.prog 66 #[.slice A xs.length c] w fun e w' => ∃ A' c', e = .returned (.slice A' xs.length c') ∧ OwnV w.heap.size 3 1 intC w' (.slice A' xs.length c') xs ∧ Below w.heap.size w w' := by
  obtain ⟨i0, hi, hz0, hz1, hz2⟩ := info_parts info_int
  go_enter Tryd.func66, Tryd.ntmps66
  go_wp2_with ((at_builtin; refine wpList_app rfl _ _ 30 rfl w.heap.size 3 i0 _ 1 8 Tryd.underlying30 hi hz0 hz1 hz2 rfl (by decide) intC intC_len intC_one _ ([] : List Int) rfl (OwnV.made w (Nat.le_refl _) _) A c xs rfl (hR.alloc _) hA (by unfold maxLen; simp; omega) (by simp; omega) (by simp) ?_; intro v' w1 hO hg))
  go_ret
  obtain ⟨A', c', rfl, _, _⟩ := hO.form intC_len
  exact ⟨A', c', rfl, hO, (bl1 _ _).trans (grown_below hg (by simp) (fun k hk => Nat.le_of_eq (Option.some.inj hk)))⟩
end Go.Proofs.YthgaddnbgnennaaDoor
