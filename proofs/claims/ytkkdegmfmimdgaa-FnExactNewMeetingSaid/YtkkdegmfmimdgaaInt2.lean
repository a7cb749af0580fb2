/- Lists of numbers: copies, comparisons, marks. -/
import Derived.Test.YtkkdegmfmimdgaaInts
import Derived.Test.YtkkdegmfmimdgaaOwn
namespace Go.Proofs.Ytkkdegmfmimdgaa
open Go.RowKit Go.G9
theorem info_int : (Try.prog.info? 3).map (fun i => (i.zero, i.size, i.bytes)) = some (some (.int .i64 0), 1, 8) := by kernel_rfl
theorem intC_len (y : Int) : (intC y).length = 1 := rfl
theorem intC_one (y : Int) (u : Value) (h : u ∈ intC y) : u.oneCell' = true := by simp [intC] at h; subst h; rfl
theorem intC_flat (xs : List Int) : xs.flatMap intC = xs.map (Value.int .i64) := by induction xs with
  | nil => rfl
  | cons x xs ih => simp [intC, ih]
theorem szIntS_is (A : Option Addr) (c : Nat) (xs : List Int) (hn : xs.length ≤ maxLen) (l : Int) (h00 : 0 ≤ l) (h01 : l ≤ 1048576) (w : World) :
  Calls Try.prog 76 #[.slice A xs.length c, .int .i64 l] w fun e w' => ∃ r : Int, e = .returned (.int .i64 r) ∧ -1 ≤ r ∧ r ≤ l ∧ (r < 0 ∨ xs.length ≤ 1048576) ∧ w' = w := by
  unfold maxLen at hn
  go_enter Try.func76, Try.ntmps76
  go_wp2
  all_goals go_ret
  all_goals exact ⟨_, rfl, by omega, by omega, by omega, rfl⟩
theorem eqIntS_is (A A' : Option Addr) (c c' : Nat) (xs : List Int) (hn : xs.length ≤ 1048576) (w : World) (hR : Rds 1 intC w A xs) (hR' : Rds 1 intC w A' xs) :
  Calls Try.prog 36 #[.slice A xs.length c, .slice A' xs.length c'] w fun e w' => e = .returned (.bool true) ∧ Below w.heap.size w w' := by
  go_enter Try.func36, Try.ntmps36
  go_wp2
  go_loopw [5] (fun i wr => ∃ (k : Nat), k ≤ xs.length ∧ i = .int .i64 k ∧ Below w.heap.size w wr) (fun i _ => xs.length - (intOf i).toNat)
  case atStart => exact ⟨0, Nat.zero_le _, rfl, Below.refl _ _⟩
  case round =>
    obtain ⟨k, hk, rfl, hb⟩ := hrel
    by_cases hlt : k < xs.length
    · obtain ⟨b, off, x, rfl, hbl, hx, hcx⟩ := hR.at_ hb hlt
      obtain ⟨b', off', x', rfl, _, hx', hcx'⟩ := hR'.at_ hb hlt
      obtain rfl : x = x' := Option.some.inj (hx.symm.trans hx')
      have f0 := hcx 0 _ rfl
      have e0 := hcx' 0 _ rfl
      simp only [Nat.mul_one, Nat.add_zero] at f0 e0
      clear hx hcx hx' hcx'
      go_wp2
      refine wp_region_kin (by kernel_rfl) (by kernel_rfl) ?_
      repeat (go_big_quiet_step ((fail)))
      refine wpQuiet_nil ?_
      intro K
      go_wp2
      go_roundw
      case rel => exact ⟨k + 1, by omega, by go_num, bth hb K.below⟩
      case measure => simp [intOf]; omega
    · go_wp2
      go_ret
      exact ⟨rfl, hb⟩
set_option maxHeartbeats 1000000 in
theorem toIntS_is (A : Option Addr) (c : Nat) (xs : List Int) (hn : xs.length ≤ 1048576) (w : World) (hR : Rds 1 intC w A xs) :
  Calls Try.prog 81 #[.slice A xs.length c] w fun e w' => ∃ A', e = .returned (.slice A' xs.length xs.length) ∧ OwnV w.heap.size 3 1 intC w' (.slice A' xs.length xs.length) xs ∧ Below w.heap.size w w' := by
  obtain ⟨i0, hi, hz0, hz1, hz2⟩ := info_parts info_int
  have hmk := run_make_rowN (P := Try.prog) 24 3 i0 _ Try.underlying24 hi hz0 .i64 .i64 xs.length xs.length (Nat.le_refl _) (by rw [hz2]; omega) (by omega)
  rw [hz1] at hmk
  go_enter Try.func81, Try.ntmps81
  go_wp2
  go_loopw [4] (fun i wr => ∃ (k : Nat) (cs : Array Value), k ≤ xs.length ∧ i = .int .i64 k ∧ Blk wr w.heap.size 3 cs ∧ cs.size = xs.length * 1 ∧ Filled 1 intC xs k cs ∧ Below w.heap.size w wr) (fun i _ => xs.length - (intOf i).toNat)
  case atStart => exact ⟨0, _, Nat.zero_le _, rfl, Blk.new _ _ _, by simp [madeCells], Filled.zero, bl1 _ _⟩
  case round =>
    obtain ⟨k, cs, hk, rfl, hB, hsz, hF, hb⟩ := hrel
    have HSZ := Lib.hid hsz; clear hsz
    by_cases hlt : k < xs.length
    · obtain ⟨b, off, x, rfl, hbl, hx, hcx⟩ := hR.at_ hb hlt
      have f0 := hcx 0 _ rfl
      simp only [Nat.mul_one, Nat.add_zero] at f0
      have g0 := f0 (Kin.self _)
      simp only [Kin.self] at g0
      clear hcx
      have HX := Lib.hid hx; clear hx
      obtain ⟨v0, c0⟩ := hB.some_ k (by rw [HSZ.out]; omega)
      have z0 := hB.frozen k
      go_wp2
      go_roundw
      case rel => exact ⟨k + 1, setMany cs (k * 1) (intC x), by omega, by go_num, by have h := hB.setMany (k * 1) (intC x); rw [Nat.mul_one] at h ⊢; exact h, by rw [size_setMany, HSZ.out], hF.put HX.out (by rw [HSZ.out]; simp [intC]; omega), hb.setCell (Nat.le_refl _) _⟩
      case measure => simp [intOf]; omega
    · obtain rfl : k = xs.length := by omega
      go_wp2
      go_ret
      exact ⟨_, rfl, OwnV.filled hB (Nat.le_refl _) HSZ.out (by unfold maxLen; omega) hF.all, hb⟩
set_option maxHeartbeats 1000000 in
theorem markIntS_is (B : Nat) (A : Option Addr) (c : Nat) (xs : List Int) (hn : xs.length ≤ 1048576) (m : Int) (h0 : 0 ≤ m) (h1 : m ≤ 1000000000) (w : World) (hO : OwnV B 3 1 intC w (.slice A xs.length c) xs) :
  Calls Try.prog 37 #[.slice A xs.length c, .int .i64 m] w fun e w' => e = .returned (.int .i64 (m + xs.length)) ∧ OwnV B 3 1 intC w' (.slice A xs.length c) (markTo m xs xs.length) ∧ w.grownBy w' (Value.slice A xs.length c).ownBlock := by
  go_enter Try.func37, Try.ntmps37
  go_wp2
  go_loopw [1, 5] (fun mv i wr => ∃ (k : Nat), k ≤ xs.length ∧ i = .int .i64 k ∧ mv = .int .i64 (m + k) ∧ OwnV B 3 1 intC wr (.slice A xs.length c) (markTo m xs k) ∧ w.grownBy wr (Value.slice A xs.length c).ownBlock) (fun _ i _ => xs.length - (intOf i).toNat)
  case atStart => exact ⟨0, Nat.zero_le _, rfl, by simp, by unfold OwnV; rw [markTo_zero]; exact hO, grown_refl _ _⟩
  case round =>
    obtain ⟨k, hk, rfl, rfl, hW, hg⟩ := hrel
    by_cases hlt : k < xs.length
    · obtain ⟨A', c', hv, _, hR, hnl⟩ := hW.form intC_len
      obtain ⟨b, off, x, rfl, hbl, hx, hcx⟩ := hR.at_ (Below.refl _ _) (k := k) (by rw [markTo_len]; exact hlt)
      injection hv with hA _ hc'
      subst hA
      have hoff : off = 0 := by
        rcases hO.2 with ⟨he, _⟩ | ⟨g, cap, cur, he, _⟩
        · injection he with he; cases he
        · injection he with he; injection he with he; injection he
      subst hoff
      clear hcx hx hR hnl hc'
      have hc := ownsRow_cellAt hW (g := b) rfl (j := k) (by rw [intC_flat, List.length_map, markTo_len]; exact hlt)
      have hW' := ownsRow_set hW (g := b) rfl (j := k) (u := .int .i64 (m + k))
      rw [intC_flat, ← List.map_set, markTo_set, ← intC_flat] at hW'
      have HW := Lib.hid hW'; clear hW'
      obtain ⟨c0, z0⟩ := hc
      go_wp2
      go_roundw
      case rel => exact ⟨k + 1, by omega, by go_num, by go_num, by have := HW.out; rw [markTo_len] at this; unfold OwnV; rw [markTo_len]; exact this, grown_set hg _⟩
      case measure => simp [intOf]; omega
    · obtain rfl : k = xs.length := by omega
      go_wp2
      go_ret
      exact ⟨rfl, hW, hg⟩
theorem heldIntS_is (A : Option Addr) (c : Nat) (xs : List Int) (hn : xs.length ≤ 1048576) (m : Int) (h0 : 0 ≤ m) (h1 : m ≤ 1000000000) (hm : ∀ (j : Nat) x, xs[j]? = some x → x = m + j) (w : World) (hR : Rds 1 intC w A xs) :
  Calls Try.prog 38 #[.slice A xs.length c, .int .i64 m] w fun e w' => e = .returned (.int .i64 (m + xs.length)) ∧ w' = w := by
  have HM := Lib.hid hm; clear hm
  go_enter Try.func38, Try.ntmps38
  go_wp2
  go_loop [1, 5] (fun mv i => ∃ (k : Nat), k ≤ xs.length ∧ i = .int .i64 k ∧ mv = .int .i64 (m + k)) (fun _ i => xs.length - (intOf i).toNat)
  case atStart => exact ⟨0, Nat.zero_le _, rfl, by simp⟩
  case round =>
    obtain ⟨k, hk, rfl, rfl⟩ := hrel
    by_cases hlt : k < xs.length
    · obtain ⟨b, off, x, rfl, hbl, hx, hcx⟩ := hR.at_ (Below.refl _ _) hlt
      obtain rfl := HM.out k x hx
      have f0 := hcx 0 _ rfl
      simp only [Nat.mul_one, Nat.add_zero] at f0
      have g0 := f0 (Kin.self _)
      simp only [Kin.self] at g0
      clear hx hcx
      go_wp2
      go_round
      case rel => exact ⟨k + 1, by omega, by go_num, by go_num⟩
      case measure => simp [intOf]; omega
    · obtain rfl : k = xs.length := by omega
      go_wp2
      go_ret
      exact ⟨rfl, rfl⟩
end Go.Proofs.Ytkkdegmfmimdgaa
