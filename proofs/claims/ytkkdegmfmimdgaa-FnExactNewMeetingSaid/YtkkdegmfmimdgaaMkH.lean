/- Marks held in slices of rules. -/
import Derived.Test.YtkkdegmfmimdgaaMkL
namespace Go.Proofs.Ytkkdegmfmimdgaa
open Go.RowKit Go.G9
set_option maxHeartbeats 4000000 in
set_option maxRecDepth 100000 in
theorem hdRuleS_is (A : Option Addr) (c n : Nat) (hn : n ≤ 1048576) (m : Int) (h0 : 0 < m) (h1 : m ≤ 100000000) (w : World) (hR : Rds 7 patRule w A (mks m 7 n)) :
  Calls Try.prog 71 #[.slice A n c, .int .i64 m] w fun e w' => e = .returned (.int .i64 (m + 7 * n)) ∧ Below w.heap.size w w' := by
  go_enter Try.func71, Try.ntmps71
  go_wp2
  go_loopw [1, 5] (fun mv i wr => ∃ (k : Nat) (q : Int), k ≤ n ∧ i = .int .i64 k ∧ mv = .int .i64 q ∧ q = m + 7 * k ∧ Below w.heap.size w wr) (fun _ i _ => n - (intOf i).toNat)
  case atStart => exact ⟨0, m, Nat.zero_le _, rfl, rfl, by simp, Below.refl _ _⟩
  case round =>
    obtain ⟨k, q, hk, rfl, rfl, hq, hb⟩ := hrel
    have hq1 : 0 < q := by omega
    have hq2 : q ≤ 200000000 := by omega
    have HQ := Lib.hid hq; clear hq
    by_cases hlt : k < n
    · obtain ⟨b, off, x, rfl, hbl, hx, hcx⟩ := hR.at_ hb (k := k) (by rw [mks_len]; exact hlt)
      have hxq : x = q := by rw [mks_get hlt] at hx; rw [HQ.out]; exact (Option.some.inj hx).symm
      subst hxq
      have f0 := hcx 0 _ rfl
      have f1 := hcx 1 _ rfl
      have f2 := hcx 2 _ rfl
      have f3 := hcx 3 _ rfl
      have f4 := hcx 4 _ rfl
      have f5 := hcx 5 _ rfl
      have f6 := hcx 6 _ rfl
      simp only [Nat.add_zero] at f0
      clear hx hcx
      have hne3 : (!(((x + 1 + 1 + 1) % 3 == 0) == ((x + 1 + 1 + 1) % 3 == 0))) = false := by simp
      have hne4 : (!(((x + 1 + 1 + 1 + 1) % 3 == 0) == ((x + 1 + 1 + 1 + 1) % 3 == 0))) = false := by simp
      have hne5 : (!(((x + 1 + 1 + 1 + 1 + 1) % 3 == 0) == ((x + 1 + 1 + 1 + 1 + 1) % 3 == 0))) = false := by simp
      have g0 := f0 (Kin.self _)
      have g1 := f1 (Kin.self _)
      have g2 := f2 (Kin.self _)
      have g3 := f3 (Kin.self _)
      have g4 := f4 (Kin.self _)
      have g5 := f5 (Kin.self _)
      have g6 := f6 (Kin.self _)
      simp only [Kin.self] at g0
      simp only [Kin.self] at g1
      simp only [Kin.self] at g2
      simp only [Kin.self] at g3
      simp only [Kin.self] at g4
      simp only [Kin.self] at g5
      simp only [Kin.self] at g6
      go_wp2
      refine wp_region_kin (by kernel_rfl) (by kernel_rfl) ?_
      repeat (go_big_quiet_step (((go_at_call 67; exact Kin.call _ (by first | exact Nat.le_refl _ | omega) (markTextI_is (x + 1) (by omega) (by omega) _)))))
      refine wpQuiet_nil ?_
      intro K1
      clear g1 g2 g3 g4 g5 g6
      replace hb := bth hb K1.below
      replace f1 := fun K => f1 (Kin.drop K K1.below)
      have g1 := f1 (Kin.self _)
      simp only [Kin.self, Kin.drop] at f1 g1
      replace f2 := fun K => f2 (Kin.drop K K1.below)
      have g2 := f2 (Kin.self _)
      simp only [Kin.self, Kin.drop] at f2 g2
      replace f3 := fun K => f3 (Kin.drop K K1.below)
      have g3 := f3 (Kin.self _)
      simp only [Kin.self, Kin.drop] at f3 g3
      replace f4 := fun K => f4 (Kin.drop K K1.below)
      have g4 := f4 (Kin.self _)
      simp only [Kin.self, Kin.drop] at f4 g4
      replace f5 := fun K => f5 (Kin.drop K K1.below)
      have g5 := f5 (Kin.self _)
      simp only [Kin.self, Kin.drop] at f5 g5
      replace f6 := fun K => f6 (Kin.drop K K1.below)
      have g6 := f6 (Kin.self _)
      simp only [Kin.self, Kin.drop] at f6 g6
      go_wp2
      go_roundw
      case rel => exact ⟨k + 1, _, by omega, by go_num, rfl, by have := HQ.out; omega, hb⟩
      case measure => simp [intOf]; omega
    · obtain rfl : k = n := by omega
      go_wp2
      go_ret
      exact ⟨ret_int (by have := HQ.out; omega), hb⟩
end Go.Proofs.Ytkkdegmfmimdgaa
