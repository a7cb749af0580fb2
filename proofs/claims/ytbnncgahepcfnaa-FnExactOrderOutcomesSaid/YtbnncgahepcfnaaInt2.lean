/- Lists of numbers: copies, comparisons, marks. -/
import Derived.Test.YtbnncgahepcfnaaInts
import Derived.Test.YtbnncgahepcfnaaOwn
namespace Go.Proofs.Ytbnncgahepcfnaa
open Go.RowKit Go.G9
theorem info_int : (Try.prog.info? 3).map (fun i => (i.zero, i.size, i.bytes)) = some (some (.int .i64 0), 1, 8) := by kernel_rfl
theorem intC_len (y : Int) : (intC y).length = 1 := rfl
theorem intC_one (y : Int) (u : Value) (h : u ∈ intC y) : u.oneCell' = true := by simp [intC] at h; subst h; rfl
theorem intC_flat (xs : List Int) : xs.flatMap intC = xs.map (Value.int .i64) := by induction xs with
  | nil => rfl
  | cons x xs ih => simp [intC, ih]
theorem eqIntS_is (A A' : Option Addr) (c c' : Nat) (xs : List Int) (hn : xs.length ≤ 1048576) (w : World) (hR : Rds 1 intC w A xs) (hR' : Rds 1 intC w A' xs) :
  Calls Try.prog 9 #[.slice A xs.length c, .slice A' xs.length c'] w fun e w' => e = .returned (.bool true) ∧ Below w.heap.size w w' := by
  go_enter Try.func9, Try.ntmps9
  go_wp2
  go_loopw [5] (fun i wr => ∃ (k : Nat), k ≤ xs.length ∧ i = .int .i64 k ∧ Below w.heap.size w wr) (fun i _ => xs.length - (intOf i).toNat)
  case atStart => exact ⟨0, Nat.zero_le _, rfl, Below.refl _ _⟩
  case round =>
    obtain ⟨k, hk, rfl, hb⟩ := hrel
    by_cases hlt : k < xs.length
    · obtain ⟨b, off, x, rfl, hbl, hx, hcx⟩ := hR.at_ hb hlt
      obtain ⟨b', off', x', rfl, _, hx', hcx'⟩ := hR'.at_ hb hlt
      obtain rfl : x = x' := Option.some.inj (hx.symm.trans hx')
      have f0 := hcx 0 _ rfl
      have e0 := hcx' 0 _ rfl
      simp only [Nat.mul_one, Nat.add_zero] at f0 e0
      clear hx hcx hx' hcx'
      go_wp2
      refine wp_region_kin (by kernel_rfl) (by kernel_rfl) ?_
      repeat (go_big_quiet_step ((fail)))
      refine wpQuiet_nil ?_
      intro K
      go_wp2
      go_roundw
      case rel => exact ⟨k + 1, by omega, by go_num, bth hb K.below⟩
      case measure => simp [intOf]; omega
    · go_wp2
      go_ret
      exact ⟨rfl, hb⟩
set_option maxHeartbeats 1000000 in
theorem markIntS_is (B : Nat) (A : Option Addr) (c : Nat) (xs : List Int) (hn : xs.length ≤ 1048576) (m : Int) (h0 : 0 ≤ m) (h1 : m ≤ 1000000000) (w : World) (hO : OwnV B 3 1 intC w (.slice A xs.length c) xs) :
  Calls Try.prog 12 #[.slice A xs.length c, .int .i64 m] w fun e w' => e = .returned (.int .i64 (m + xs.length)) ∧ OwnV B 3 1 intC w' (.slice A xs.length c) (markTo m xs xs.length) ∧ w.grownBy w' (Value.slice A xs.length c).ownBlock := by
  go_enter Try.func12, Try.ntmps12
  go_wp2
  go_loopw [1, 5] (fun mv i wr => ∃ (k : Nat), k ≤ xs.length ∧ i = .int .i64 k ∧ mv = .int .i64 (m + k) ∧ OwnV B 3 1 intC wr (.slice A xs.length c) (markTo m xs k) ∧ w.grownBy wr (Value.slice A xs.length c).ownBlock) (fun _ i _ => xs.length - (intOf i).toNat)
  case atStart => exact ⟨0, Nat.zero_le _, rfl, by simp, by unfold OwnV; rw [markTo_zero]; exact hO, grown_refl _ _⟩
  case round =>
    obtain ⟨k, hk, rfl, rfl, hW, hg⟩ := hrel
    by_cases hlt : k < xs.length
    · obtain ⟨A', c', hv, _, hR, hnl⟩ := hW.form intC_len
      obtain ⟨b, off, x, rfl, hbl, hx, hcx⟩ := hR.at_ (Below.refl _ _) (k := k) (by rw [markTo_len]; exact hlt)
      injection hv with hA _ hc'
      subst hA
      have hoff : off = 0 := by
        rcases hO.2 with ⟨he, _⟩ | ⟨g, cap, cur, he, _⟩
        · injection he with he; cases he
        · injection he with he; injection he with he; injection he
      subst hoff
      clear hcx hx hR hnl hc'
      have hc := ownsRow_cellAt hW (g := b) rfl (j := k) (by rw [intC_flat, List.length_map, markTo_len]; exact hlt)
      have hW' := ownsRow_set hW (g := b) rfl (j := k) (u := .int .i64 (m + k))
      rw [intC_flat, ← List.map_set, markTo_set, ← intC_flat] at hW'
      have HW := Lib.hid hW'; clear hW'
      obtain ⟨c0, z0⟩ := hc
      go_wp2
      go_roundw
      case rel => exact ⟨k + 1, by omega, by go_num, by go_num, by have := HW.out; rw [markTo_len] at this; unfold OwnV; rw [markTo_len]; exact this, grown_set hg _⟩
      case measure => simp [intOf]; omega
    · obtain rfl : k = xs.length := by omega
      go_wp2
      go_ret
      exact ⟨rfl, hW, hg⟩
theorem heldIntS_is (A : Option Addr) (c : Nat) (xs : List Int) (hn : xs.length ≤ 1048576) (m : Int) (h0 : 0 ≤ m) (h1 : m ≤ 1000000000) (hm : ∀ (j : Nat) x, xs[j]? = some x → x = m + j) (w : World) (hR : Rds 1 intC w A xs) :
  Calls Try.prog 13 #[.slice A xs.length c, .int .i64 m] w fun e w' => e = .returned (.int .i64 (m + xs.length)) ∧ w' = w := by
  have HM := Lib.hid hm; clear hm
  go_enter Try.func13, Try.ntmps13
  go_wp2
  go_loop [1, 5] (fun mv i => ∃ (k : Nat), k ≤ xs.length ∧ i = .int .i64 k ∧ mv = .int .i64 (m + k)) (fun _ i => xs.length - (intOf i).toNat)
  case atStart => exact ⟨0, Nat.zero_le _, rfl, by simp⟩
  case round =>
    obtain ⟨k, hk, rfl, rfl⟩ := hrel
    by_cases hlt : k < xs.length
    · obtain ⟨b, off, x, rfl, hbl, hx, hcx⟩ := hR.at_ (Below.refl _ _) hlt
      obtain rfl := HM.out k x hx
      have f0 := hcx 0 _ rfl
      simp only [Nat.mul_one, Nat.add_zero] at f0
      have g0 := f0 (Kin.self _)
      simp only [Kin.self] at g0
      clear hx hcx
      go_wp2
      go_round
      case rel => exact ⟨k + 1, by omega, by go_num, by go_num⟩
      case measure => simp [intOf]; omega
    · obtain rfl : k = xs.length := by omega
      go_wp2
      go_ret
      exact ⟨rfl, rfl⟩
end Go.Proofs.Ytbnncgahepcfnaa
