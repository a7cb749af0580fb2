/- A string spoilt by the cursor. -/
import Derived.Test.YtbnncgahepcfnaaGreatDoorNo12
import Derived.Deep.Cut
import Derived.Outline
namespace Go.Proofs.YtbnncgahepcfnaaGreatDoor
open Go.RowKit Go.G9
set_option maxHeartbeats 1000000 in
set_option maxRecDepth 100000 in
theorem spoilt_is (t s : ByteArray) (ht : t.size ≤ 1048576) (hs0 : 0 < s.size) (hs : s.size ≤ 1048576) (p : Nat) (A : Option Addr) (c : Nat) (cs : List UInt8) (hcs : cs.length ≤ 1048576) (N : Nat) (hN : N ≤ 800000) (w : World) (hC : Cur w p A c cs N) :
  Calls Tryz.prog 49 #[.pointer (some ⟨p, 0, none⟩), .string t, .string s] w fun e w' => ∃ x : ByteArray, e = .returned (.string x) ∧ x.size ≤ t.size + 1 ∧ Stepped w w' p A c cs (N + 6) := by
  go_enter Tryz.func49, Tryz.ntmps49
  have hp := hC.lt
  have HG := grown_refl w (some p)
  have hn : t.toList.isEmpty = false → 0 < t.size := by
    intro he
    rw [ByteArray.toList_eq] at he
    rcases Nat.eq_zero_or_pos t.size with h | h
    · exfalso
      have h2 : t.data.toList = [] := List.length_eq_zero_iff.1 (by rw [Array.length_toList]; exact h)
      rw [h2] at he; cases he
    · exact h
  rcases Bool.eq_false_or_eq_true t.toList.isEmpty with h0 | h0
  · have h1 : (1 : Int) ≤ s.size := by omega
    go_wp2
    refine bodyPost_ret (v := .string (s.extract 0 1)) (by simp [results, Tryz.results49, go_sem]) rfl ?_
    refine ⟨_, rfl, by rw [ByteArray.size_extract]; omega, hC.mono (by omega), HG⟩
  · have hn' := hn h0
    clear hn
    go_wp2_with fail
    refine (pick_is t.size p A c cs hcs N (by omega) (by omega) _ (hC.later (by repeat (first | exact Below.refl _ _ | refine Below.alloc ?_ (by first | exact Nat.le_refl _ | (simp <;> omega)) _ | refine Below.setCell ?_ (by first | exact Nat.le_refl _ | (simp <;> omega)) _)))).mono ?_
    rintro e w1 ⟨i, rfl, ⟨hi0, hi1, hi2⟩, hS1⟩
    have hg1 : w.grownBy w1 (some p) := grown_tr (below_grown (by repeat (first | exact Below.refl _ _ | refine Below.alloc ?_ (by first | exact Nat.le_refl _ | (simp <;> omega)) _ | refine Below.setCell ?_ (by first | exact Nat.le_refl _ | (simp <;> omega)) _)) _) hS1.2
    replace hC := hS1.1
    have sz1 := hg1.size
    replace HG := grown_tr HG hg1
    have hi3 : i < t.size := by
      by_cases h : (1 : Int) < t.size
      · exact hi2 h
      · have := hi1 (by omega); omega
    obtain ⟨k, rfl⟩ : ∃ k : Nat, i = k := ⟨i.toNat, by omega⟩
    clear hi1 hi2
    go_wp2_with fail
    refine (pick_is s.size p A c cs hcs (N + 2) (by omega) (by omega) _ (hC.later (by repeat (first | exact Below.refl _ _ | refine Below.alloc ?_ (by first | exact Nat.le_refl _ | (simp <;> omega)) _ | refine Below.setCell ?_ (by first | exact Nat.le_refl _ | (simp <;> omega)) _)))).mono ?_
    rintro e w2 ⟨j, rfl, ⟨hj0, hj1, hj2⟩, hS2⟩
    have hg2 : w1.grownBy w2 (some p) := grown_tr (below_grown (by repeat (first | exact Below.refl _ _ | refine Below.alloc ?_ (by first | exact Nat.le_refl _ | (simp <;> omega)) _ | refine Below.setCell ?_ (by first | exact Nat.le_refl _ | (simp <;> omega)) _)) _) hS2.2
    replace hC := hS2.1
    have sz2 := hg2.size
    replace HG := grown_tr HG hg2
    have hj3 : j < s.size := by
      by_cases h : (1 : Int) < s.size
      · exact hj2 h
      · have := hj1 (by omega); omega
    obtain ⟨m, rfl⟩ : ∃ m : Nat, j = m := ⟨j.toNat, by omega⟩
    clear hj1 hj2
    have hk : k < t.size := by omega
    have hm : m < s.size := by omega
    have hm' : (m : Int) ≤ s.size := by omega
    have hm1 : (1 : Int) ≤ (s.extract m s.size).size := by rw [ByteArray.size_extract]; omega
    have hk' : (k : Int) ≤ t.size := by omega
    have hk1 : (k : Int) + 1 ≤ t.size := by omega
    go_wp2_with fail
    refine (pick_is 3 p A c cs hcs (N + 2 + 2) (by omega) (by omega) _ (hC.later (by repeat (first | exact Below.refl _ _ | refine Below.alloc ?_ (by first | exact Nat.le_refl _ | (simp <;> omega)) _ | refine Below.setCell ?_ (by first | exact Nat.le_refl _ | (simp <;> omega)) _)))).mono ?_
    rintro e w3 ⟨r, rfl, ⟨hr0, _, hr1⟩, hS3⟩
    have hg3 : w2.grownBy w3 (some p) := grown_tr (below_grown (by repeat (first | exact Below.refl _ _ | refine Below.alloc ?_ (by first | exact Nat.le_refl _ | (simp <;> omega)) _ | refine Below.setCell ?_ (by first | exact Nat.le_refl _ | (simp <;> omega)) _)) _) hS3.2
    replace hC := hS3.1
    have sz3 := hg3.size
    replace HG := grown_tr HG hg3
    have hr2 := hr1 (by omega)
    clear hr1
    rcases Int.lt_trichotomy r 1 with hr | hr | hr
    · obtain rfl : r = 0 := by omega
      go_upto_region 7 with fail
      refine wp_region_kin (by kernel_rfl) (by kernel_rfl) ?_
      repeat (go_big_quiet_step ((fail)))
      refine wpQuiet_nil ?_
      intro K
      go_wp2
      go_ret
      exact ⟨_, rfl, by simp only [ByteArray.size_append, ByteArray.size_extract]; omega, (hC.later K.below).mono (by omega), grown_tr HG (below_grown K.below _)⟩
    · subst hr
      go_upto_region 9 with fail
      refine wp_region_kin (by kernel_rfl) (by kernel_rfl) ?_
      repeat (go_big_quiet_step ((fail)))
      refine wpQuiet_nil ?_
      intro K
      go_wp2
      go_ret
      exact ⟨_, rfl, by simp only [ByteArray.size_append, ByteArray.size_extract]; omega, (hC.later K.below).mono (by omega), grown_tr HG (below_grown K.below _)⟩
    · obtain rfl : r = 2 := by omega
      go_upto_region 10 with fail
      refine wp_region_kin (by kernel_rfl) (by kernel_rfl) ?_
      repeat (go_big_quiet_step ((fail)))
      refine wpQuiet_nil ?_
      intro K
      go_wp2
      go_ret
      exact ⟨_, rfl, by simp only [ByteArray.size_append, ByteArray.size_extract]; omega, (hC.later K.below).mono (by omega), grown_tr HG (below_grown K.below _)⟩
end Go.Proofs.YtbnncgahepcfnaaGreatDoor
