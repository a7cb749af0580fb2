/- Draws of days. -/
import Derived.Test.YtdimhbolckbjdaaWd
import Derived.Test.YtdimhbolckbjdaaInt2
namespace Go.Proofs.Ytdimhbolckbjdaa
open Go.RowKit Go.G9
theorem built_rdsW (w : World) (xs : List Int) (hm : xs.length ≤ maxLen) : Rds 1 intC (w.alloc (.cells (xs.flatMap intC).toArray 3)) (some ⟨w.heap.size, 0, none⟩) xs := (OwnV.built (B := w.heap.size) (f := intC) w xs 3 (Nat.le_refl _) hm intC_len).rds (hf := intC_len)
theorem rds_take {T : Type} {sz : Nat} {f : T → List Value} {w : World} {A : Option Addr} {xs : List T} (h : Rds sz f w A xs) (k : Nat) : Rds sz f w A (xs.take k) := by
  intro h0
  obtain ⟨b, off, h1, h2, h3⟩ := h (by rw [List.length_take] at h0; omega)
  refine ⟨b, off, h1, h2, fun i x hx j u hu => h3 i x ?_ j u hu⟩
  rw [List.getElem?_take] at hx
  split at hx
  · exact hx
  · cases hx
theorem among_pre (L : Option Addr) (lc : Nat) (xs : List Int) (n : Nat) (hn0 : 1 ≤ n) (hn : n ≤ xs.length) (hx1 : xs.length ≤ 1000) (p : Nat) (A : Option Addr) (c : Nat) (cs : List UInt8) (hcs : cs.length ≤ 1048576) (N : Nat) (hN : N ≤ 900000) (w : World) (h : Cur w p A c cs N)
    (hL : Rds 1 intC w L xs) (hne : ∀ ad, L = some ad → 0 < xs.length → ad.block ≠ p) :
  Calls Try.prog 100 #[.pointer (some ⟨p, 0, none⟩), .slice L n lc] w fun e w' => ∃ s, e = .returned (.int .i64 s) ∧ s ∈ xs ∧ Stepped w w' p A c cs (N + 2) := by
  have h1 := among_is L lc (xs.take n) (by rw [List.length_take]; omega) (by rw [List.length_take]; omega) p A c cs hcs N hN w h (rds_take hL n) (fun ad h1 h2 => hne ad h1 (by omega))
  rw [List.length_take, Nat.min_eq_left hn] at h1
  exact h1.mono fun e w' ⟨s, h1, h2, h3⟩ => ⟨s, h1, List.mem_of_mem_take h2, h3⟩
set_option maxHeartbeats 1000000 in
set_option maxRecDepth 100000 in
theorem day24_is (p : Nat) (A : Option Addr) (c : Nat) (cs : List UInt8) (hcs : cs.length ≤ 1048576) (N : Nat) (hN : N ≤ 800000) (w : World) (hC : Cur w p A c cs N) :
  Calls Try.prog 99 #[.pointer (some ⟨p, 0, none⟩)] w fun e w' => ∃ d : Int, e = .returned (.int .i64 d) ∧ (-1 ≤ d ∧ d ≤ 3651) ∧ Stepped w w' p A c cs (N + 4) := by
  go_enter Try.func99, Try.ntmps99
  have hp := hC.lt
  have HG := grown_refl w (some p)
  have hL1 := built_rdsW w [0, 4, 5, 6, 7, 44, 100, 3649, 3650, -1, 3651] (by simp [maxLen])
  simp only [List.flatMap_cons, List.flatMap_nil, intC, List.append_nil, List.singleton_append] at hL1
  have HL1 := Lib.hid hL1; clear hL1
  go_wp2_with fail
  refine (pick_is 24 p A c cs hcs N (by omega) (by omega) _ (hC.later (by repeat (first | exact Below.refl _ _ | refine Below.alloc ?_ (by first | exact Nat.le_refl _ | (simp <;> omega)) _ | refine Below.setCell ?_ (by first | exact Nat.le_refl _ | (simp <;> omega)) _)))).mono ?_
  rintro e w1 ⟨r, rfl, ⟨hr0, _, hr1⟩, hS1⟩
  have hg1 : w.grownBy w1 (some p) := grown_tr (below_grown (by repeat (first | exact Below.refl _ _ | refine Below.alloc ?_ (by first | exact Nat.le_refl _ | (simp <;> omega)) _ | refine Below.setCell ?_ (by first | exact Nat.le_refl _ | (simp <;> omega)) _)) _) hS1.2
  replace hC := hS1.1
  have sz1 := hg1.size
  replace HG := grown_tr HG hg1
  have hr2 := hr1 (by omega)
  have HL2 := Lib.hid (rds_far HL1.out hS1.2 (fun ad h _ => by cases h; show w.heap.size ≠ p; omega))
  clear HL1 hr1
  go_wp2_with fail
  refine (among_pre (some ⟨w.heap.size, 0, none⟩) _ [0, 4, 5, 6, 7, 44, 100, 3649, 3650, -1, 3651] (9 + r / 11).toNat (by omega) (by simp only [List.length_cons, List.length_nil]; omega) (by simp) p A c cs hcs (N + 2) (by omega) _ (hC.later (by repeat (first | exact Below.refl _ _ | refine Below.alloc ?_ (by first | exact Nat.le_refl _ | (simp <;> omega)) _ | refine Below.setCell ?_ (by first | exact Nat.le_refl _ | (simp <;> omega)) _))) HL2.out (fun ad h _ => by cases h; show w.heap.size ≠ p; omega)).mono ?_
  rintro e w2 ⟨d, rfl, hd, hS2⟩
  have hg2 : w1.grownBy w2 (some p) := grown_tr (below_grown (by repeat (first | exact Below.refl _ _ | refine Below.alloc ?_ (by first | exact Nat.le_refl _ | (simp <;> omega)) _ | refine Below.setCell ?_ (by first | exact Nat.le_refl _ | (simp <;> omega)) _)) _) hS2.2
  replace hC := hS2.1
  have sz2 := hg2.size
  replace HG := grown_tr HG hg2
  have hd1 : -1 ≤ d ∧ d ≤ 3651 := by
    simp only [List.mem_cons, List.not_mem_nil, or_false] at hd
    omega
  clear hd HL2
  go_wp2
  go_ret
  exact ⟨d, rfl, hd1, hC, HG⟩
set_option maxHeartbeats 1000000 in
set_option maxRecDepth 100000 in
theorem drawAwd_is (A : Option Addr) (c : Nat) (cs : List UInt8) (hcs : cs.length ≤ 1048576) (w : World) (hR : Rds 1 u8C w A cs) :
  Calls Try.prog 28 #[.slice A cs.length c] w fun e w' => ∃ d n : Int, e = .returned (.tuple #[.int .i64 d, .int .i64 n]) ∧ (-1 ≤ d ∧ d ≤ 3651) ∧ (-1 ≤ n ∧ n ≤ 501) ∧ Below w.heap.size w w' := by
  go_enter Try.func28, Try.ntmps28
  go_upto_region 2 with fail
  have hlt : ∀ ad, A = some ad → 0 < cs.length → ad.block < w.heap.size := fun ad h h0 => by
    obtain ⟨b, off, h1, h2, _⟩ := hR h0
    rw [h1] at h; cases h; exact h2
  have hP := Blk.new w 114 #[.slice A cs.length c, .int .i64 0, .int .u64 0]
  have HB : Below w.heap.size w (w.alloc (.cells #[.slice A cs.length c, .int .i64 0, .int .u64 0] 114)) := bl1 w _
  generalize (w.alloc (.cells #[.slice A cs.length c, .int .i64 0, .int .u64 0] 114)) = wA at *
  have hC : Cur wA w.heap.size A c cs 0 := ⟨⟨0, 0, hP, by decide, by decide⟩, hR.below HB, hlt⟩
  obtain ⟨p, hpe⟩ : ∃ p, p = w.heap.size := ⟨_, rfl⟩
  rw [← hpe] at hC
  obtain ⟨n0, hn0⟩ : ∃ n : Nat, n ≤ 0 := ⟨0, Nat.le_refl _⟩
  replace hC : Cur wA p A c cs n0 := hC.mono (Nat.zero_le _)
  simp only [← hpe]
  have hp := hC.lt
  have HG := grown_refl w (some p)
  replace HG : w.grownBy wA (some p) := below_grown HB _
  have szw : w.heap.size ≤ wA.heap.size := HB.size
  have hwp : w.heap.size ≤ p := by omega
  have hpw : p ≤ w.heap.size := by omega
  clear hR hlt hP HB hpe
  go_wp2_with fail
  refine (day24_is p A c cs hcs n0 (by omega) _ (hC.later (by repeat (first | exact Below.refl _ _ | refine Below.alloc ?_ (by first | exact Nat.le_refl _ | (simp <;> omega)) _ | refine Below.setCell ?_ (by first | exact Nat.le_refl _ | (simp <;> omega)) _)))).mono ?_
  rintro e w1 ⟨d, rfl, ⟨hd0, hd1⟩, hS1⟩
  have hg1 : wA.grownBy w1 (some p) := grown_tr (below_grown (by repeat (first | exact Below.refl _ _ | refine Below.alloc ?_ (by first | exact Nat.le_refl _ | (simp <;> omega)) _ | refine Below.setCell ?_ (by first | exact Nat.le_refl _ | (simp <;> omega)) _)) _) hS1.2
  replace hC := hS1.1
  have sz1 := hg1.size
  replace HG := grown_tr HG hg1
  have hL1 := built_rdsW w1 [0, 1, 2, 5, 6, 100, 500, -1, 501] (by simp [maxLen])
  simp only [List.flatMap_cons, List.flatMap_nil, intC, List.append_nil, List.singleton_append] at hL1
  have HL1 := Lib.hid hL1; clear hL1
  go_wp2_with fail
  refine (pick_is 24 p A c cs hcs (n0 + 4) (by omega) (by omega) _ (hC.later (by repeat (first | exact Below.refl _ _ | refine Below.alloc ?_ (by first | exact Nat.le_refl _ | (simp <;> omega)) _ | refine Below.setCell ?_ (by first | exact Nat.le_refl _ | (simp <;> omega)) _)))).mono ?_
  rintro e w2 ⟨r, rfl, ⟨hr0, _, hr1⟩, hS2⟩
  have hg2 : w1.grownBy w2 (some p) := grown_tr (below_grown (by repeat (first | exact Below.refl _ _ | refine Below.alloc ?_ (by first | exact Nat.le_refl _ | (simp <;> omega)) _ | refine Below.setCell ?_ (by first | exact Nat.le_refl _ | (simp <;> omega)) _)) _) hS2.2
  replace hC := hS2.1
  have sz2 := hg2.size
  replace HG := grown_tr HG hg2
  have hr2 := hr1 (by omega)
  have HL2 := Lib.hid (rds_far HL1.out hS2.2 (fun ad h _ => by cases h; show w1.heap.size ≠ p; omega))
  clear HL1 hr1
  go_wp2_with fail
  refine (among_pre (some ⟨w1.heap.size, 0, none⟩) _ [0, 1, 2, 5, 6, 100, 500, -1, 501] (7 + r / 11).toNat (by omega) (by simp only [List.length_cons, List.length_nil]; omega) (by simp) p A c cs hcs (n0 + 4 + 2) (by omega) _ (hC.later (by repeat (first | exact Below.refl _ _ | refine Below.alloc ?_ (by first | exact Nat.le_refl _ | (simp <;> omega)) _ | refine Below.setCell ?_ (by first | exact Nat.le_refl _ | (simp <;> omega)) _))) HL2.out (fun ad h _ => by cases h; show w1.heap.size ≠ p; omega)).mono ?_
  rintro e w3 ⟨n, rfl, hn, hS3⟩
  have hg3 : w2.grownBy w3 (some p) := grown_tr (below_grown (by repeat (first | exact Below.refl _ _ | refine Below.alloc ?_ (by first | exact Nat.le_refl _ | (simp <;> omega)) _ | refine Below.setCell ?_ (by first | exact Nat.le_refl _ | (simp <;> omega)) _)) _) hS3.2
  replace hC := hS3.1
  have sz3 := hg3.size
  replace HG := grown_tr HG hg3
  have hn1 : -1 ≤ n ∧ n ≤ 501 := by
    simp only [List.mem_cons, List.not_mem_nil, or_false] at hn
    omega
  clear hn HL2
  go_wp2
  go_ret2
  exact ⟨d, n, rfl, ⟨hd0, hd1⟩, hn1, grown_below HG (by omega) (fun k hk => by cases hk; omega)⟩
set_option maxHeartbeats 1000000 in
set_option maxRecDepth 100000 in
theorem drawLg_is (A : Option Addr) (c : Nat) (cs : List UInt8) (hcs : cs.length ≤ 1048576) (w : World) (hR : Rds 1 u8C w A cs) :
  Calls Try.prog 33 #[.slice A cs.length c] w fun e w' => ∃ d n : Int, e = .returned (.tuple #[.int .i64 d, .int .i64 n]) ∧ (-1 ≤ d ∧ d ≤ 3651) ∧ (-1 ≤ n ∧ n ≤ 61) ∧ Below w.heap.size w w' := by
  go_enter Try.func33, Try.ntmps33
  go_upto_region 2 with fail
  have hlt : ∀ ad, A = some ad → 0 < cs.length → ad.block < w.heap.size := fun ad h h0 => by
    obtain ⟨b, off, h1, h2, _⟩ := hR h0
    rw [h1] at h; cases h; exact h2
  have hP := Blk.new w 114 #[.slice A cs.length c, .int .i64 0, .int .u64 0]
  have HB : Below w.heap.size w (w.alloc (.cells #[.slice A cs.length c, .int .i64 0, .int .u64 0] 114)) := bl1 w _
  generalize (w.alloc (.cells #[.slice A cs.length c, .int .i64 0, .int .u64 0] 114)) = wA at *
  have hC : Cur wA w.heap.size A c cs 0 := ⟨⟨0, 0, hP, by decide, by decide⟩, hR.below HB, hlt⟩
  obtain ⟨p, hpe⟩ : ∃ p, p = w.heap.size := ⟨_, rfl⟩
  rw [← hpe] at hC
  obtain ⟨n0, hn0⟩ : ∃ n : Nat, n ≤ 0 := ⟨0, Nat.le_refl _⟩
  replace hC : Cur wA p A c cs n0 := hC.mono (Nat.zero_le _)
  simp only [← hpe]
  have hp := hC.lt
  have HG := grown_refl w (some p)
  replace HG : w.grownBy wA (some p) := below_grown HB _
  have szw : w.heap.size ≤ wA.heap.size := HB.size
  have hwp : w.heap.size ≤ p := by omega
  have hpw : p ≤ w.heap.size := by omega
  clear hR hlt hP HB hpe
  go_wp2_with fail
  refine (day24_is p A c cs hcs n0 (by omega) _ (hC.later (by repeat (first | exact Below.refl _ _ | refine Below.alloc ?_ (by first | exact Nat.le_refl _ | (simp <;> omega)) _ | refine Below.setCell ?_ (by first | exact Nat.le_refl _ | (simp <;> omega)) _)))).mono ?_
  rintro e w1 ⟨d, rfl, ⟨hd0, hd1⟩, hS1⟩
  have hg1 : wA.grownBy w1 (some p) := grown_tr (below_grown (by repeat (first | exact Below.refl _ _ | refine Below.alloc ?_ (by first | exact Nat.le_refl _ | (simp <;> omega)) _ | refine Below.setCell ?_ (by first | exact Nat.le_refl _ | (simp <;> omega)) _)) _) hS1.2
  replace hC := hS1.1
  have sz1 := hg1.size
  replace HG := grown_tr HG hg1
  have hL1 := built_rdsW w1 [0, 1, 7, 60, -1, 61] (by simp [maxLen])
  simp only [List.flatMap_cons, List.flatMap_nil, intC, List.append_nil, List.singleton_append] at hL1
  have HL1 := Lib.hid hL1; clear hL1
  go_wp2_with fail
  refine (pick_is 24 p A c cs hcs (n0 + 4) (by omega) (by omega) _ (hC.later (by repeat (first | exact Below.refl _ _ | refine Below.alloc ?_ (by first | exact Nat.le_refl _ | (simp <;> omega)) _ | refine Below.setCell ?_ (by first | exact Nat.le_refl _ | (simp <;> omega)) _)))).mono ?_
  rintro e w2 ⟨r, rfl, ⟨hr0, _, hr1⟩, hS2⟩
  have hg2 : w1.grownBy w2 (some p) := grown_tr (below_grown (by repeat (first | exact Below.refl _ _ | refine Below.alloc ?_ (by first | exact Nat.le_refl _ | (simp <;> omega)) _ | refine Below.setCell ?_ (by first | exact Nat.le_refl _ | (simp <;> omega)) _)) _) hS2.2
  replace hC := hS2.1
  have sz2 := hg2.size
  replace HG := grown_tr HG hg2
  have hr2 := hr1 (by omega)
  have HL2 := Lib.hid (rds_far HL1.out hS2.2 (fun ad h _ => by cases h; show w1.heap.size ≠ p; omega))
  clear HL1 hr1
  go_wp2_with fail
  refine (among_pre (some ⟨w1.heap.size, 0, none⟩) _ [0, 1, 7, 60, -1, 61] (4 + r / 11).toNat (by omega) (by simp only [List.length_cons, List.length_nil]; omega) (by simp) p A c cs hcs (n0 + 4 + 2) (by omega) _ (hC.later (by repeat (first | exact Below.refl _ _ | refine Below.alloc ?_ (by first | exact Nat.le_refl _ | (simp <;> omega)) _ | refine Below.setCell ?_ (by first | exact Nat.le_refl _ | (simp <;> omega)) _))) HL2.out (fun ad h _ => by cases h; show w1.heap.size ≠ p; omega)).mono ?_
  rintro e w3 ⟨n, rfl, hn, hS3⟩
  have hg3 : w2.grownBy w3 (some p) := grown_tr (below_grown (by repeat (first | exact Below.refl _ _ | refine Below.alloc ?_ (by first | exact Nat.le_refl _ | (simp <;> omega)) _ | refine Below.setCell ?_ (by first | exact Nat.le_refl _ | (simp <;> omega)) _)) _) hS3.2
  replace hC := hS3.1
  have sz3 := hg3.size
  replace HG := grown_tr HG hg3
  have hn1 : -1 ≤ n ∧ n ≤ 61 := by
    simp only [List.mem_cons, List.not_mem_nil, or_false] at hn
    omega
  clear hn HL2
  go_wp2
  go_ret2
  exact ⟨d, n, rfl, ⟨hd0, hd1⟩, hn1, grown_below HG (by omega) (fun k hk => by cases hk; omega)⟩
set_option maxHeartbeats 1000000 in
set_option maxRecDepth 100000 in
theorem drawWdb_is (A : Option Addr) (c : Nat) (cs : List UInt8) (hcs : cs.length ≤ 1048576) (w : World) (hR : Rds 1 u8C w A cs) :
  Calls Try.prog 31 #[.slice A cs.length c] w fun e w' => ∃ d n : Int, e = .returned (.tuple #[.int .i64 d, .int .i64 n]) ∧ (-1 ≤ d ∧ d ≤ 3651) ∧ (-10 ≤ n ∧ n ≤ 8000) ∧ Below w.heap.size w w' := by
  go_enter Try.func31, Try.ntmps31
  go_upto_region 2 with fail
  have hlt : ∀ ad, A = some ad → 0 < cs.length → ad.block < w.heap.size := fun ad h h0 => by
    obtain ⟨b, off, h1, h2, _⟩ := hR h0
    rw [h1] at h; cases h; exact h2
  have hP := Blk.new w 114 #[.slice A cs.length c, .int .i64 0, .int .u64 0]
  have HB : Below w.heap.size w (w.alloc (.cells #[.slice A cs.length c, .int .i64 0, .int .u64 0] 114)) := bl1 w _
  generalize (w.alloc (.cells #[.slice A cs.length c, .int .i64 0, .int .u64 0] 114)) = wA at *
  have hC : Cur wA w.heap.size A c cs 0 := ⟨⟨0, 0, hP, by decide, by decide⟩, hR.below HB, hlt⟩
  obtain ⟨p, hpe⟩ : ∃ p, p = w.heap.size := ⟨_, rfl⟩
  rw [← hpe] at hC
  obtain ⟨n0, hn0⟩ : ∃ n : Nat, n ≤ 0 := ⟨0, Nat.le_refl _⟩
  replace hC : Cur wA p A c cs n0 := hC.mono (Nat.zero_le _)
  simp only [← hpe]
  have hp := hC.lt
  have HG := grown_refl w (some p)
  replace HG : w.grownBy wA (some p) := below_grown HB _
  have szw : w.heap.size ≤ wA.heap.size := HB.size
  have hwp : w.heap.size ≤ p := by omega
  have hpw : p ≤ w.heap.size := by omega
  clear hR hlt hP HB hpe
  go_wp2_with fail
  refine (day24_is p A c cs hcs n0 (by omega) _ (hC.later (by repeat (first | exact Below.refl _ _ | refine Below.alloc ?_ (by first | exact Nat.le_refl _ | (simp <;> omega)) _ | refine Below.setCell ?_ (by first | exact Nat.le_refl _ | (simp <;> omega)) _)))).mono ?_
  rintro e w1 ⟨d, rfl, ⟨hd0, hd1⟩, hS1⟩
  have hg1 : wA.grownBy w1 (some p) := grown_tr (below_grown (by repeat (first | exact Below.refl _ _ | refine Below.alloc ?_ (by first | exact Nat.le_refl _ | (simp <;> omega)) _ | refine Below.setCell ?_ (by first | exact Nat.le_refl _ | (simp <;> omega)) _)) _) hS1.2
  replace hC := hS1.1
  have sz1 := hg1.size
  replace HG := grown_tr HG hg1
  have hL1 := built_rdsW w1 [0, 1, 2, 7, 30, 3650, -1] (by simp [maxLen])
  simp only [List.flatMap_cons, List.flatMap_nil, intC, List.append_nil, List.singleton_append] at hL1
  have HL1 := Lib.hid hL1; clear hL1
  go_wp2_with fail
  refine (among_is (some ⟨w1.heap.size, 0, none⟩) _ [0, 1, 2, 7, 30, 3650, -1] (by simp) (by simp) p A c cs hcs (n0 + 4) (by omega) _ (hC.later (by repeat (first | exact Below.refl _ _ | refine Below.alloc ?_ (by first | exact Nat.le_refl _ | (simp <;> omega)) _ | refine Below.setCell ?_ (by first | exact Nat.le_refl _ | (simp <;> omega)) _))) HL1.out (fun ad h _ => by cases h; show w1.heap.size ≠ p; omega)).mono ?_
  rintro e w2 ⟨n, rfl, hn, hS2⟩
  have hg2 : w1.grownBy w2 (some p) := grown_tr (below_grown (by repeat (first | exact Below.refl _ _ | refine Below.alloc ?_ (by first | exact Nat.le_refl _ | (simp <;> omega)) _ | refine Below.setCell ?_ (by first | exact Nat.le_refl _ | (simp <;> omega)) _)) _) hS2.2
  replace hC := hS2.1
  have sz2 := hg2.size
  replace HG := grown_tr HG hg2
  have hn1 : -1 ≤ n ∧ n ≤ 3650 := by
    simp only [List.mem_cons, List.not_mem_nil, or_false] at hn
    omega
  clear hn HL1
  go_wp2
  go_ret2
  exact ⟨d, d + n, rfl, ⟨hd0, hd1⟩, by omega, grown_below HG (by omega) (fun k hk => by cases hk; omega)⟩
set_option maxHeartbeats 1000000 in
set_option maxRecDepth 100000 in
theorem drawIw_is (A : Option Addr) (c : Nat) (cs : List UInt8) (hcs : cs.length ≤ 1048576) (w : World) (hR : Rds 1 u8C w A cs) :
  Calls Try.prog 36 #[.slice A cs.length c] w fun e w' => ∃ d : Int, e = .returned (.int .i64 d) ∧ (-1 ≤ d ∧ d ≤ 3651) ∧ Below w.heap.size w w' := by
  go_enter Try.func36, Try.ntmps36
  go_upto_region 2 with fail
  have hlt : ∀ ad, A = some ad → 0 < cs.length → ad.block < w.heap.size := fun ad h h0 => by
    obtain ⟨b, off, h1, h2, _⟩ := hR h0
    rw [h1] at h; cases h; exact h2
  have hP := Blk.new w 114 #[.slice A cs.length c, .int .i64 0, .int .u64 0]
  have HB : Below w.heap.size w (w.alloc (.cells #[.slice A cs.length c, .int .i64 0, .int .u64 0] 114)) := bl1 w _
  generalize (w.alloc (.cells #[.slice A cs.length c, .int .i64 0, .int .u64 0] 114)) = wA at *
  have hC : Cur wA w.heap.size A c cs 0 := ⟨⟨0, 0, hP, by decide, by decide⟩, hR.below HB, hlt⟩
  obtain ⟨p, hpe⟩ : ∃ p, p = w.heap.size := ⟨_, rfl⟩
  rw [← hpe] at hC
  obtain ⟨n0, hn0⟩ : ∃ n : Nat, n ≤ 0 := ⟨0, Nat.le_refl _⟩
  replace hC : Cur wA p A c cs n0 := hC.mono (Nat.zero_le _)
  simp only [← hpe]
  have hp := hC.lt
  have HG := grown_refl w (some p)
  replace HG : w.grownBy wA (some p) := below_grown HB _
  have szw : w.heap.size ≤ wA.heap.size := HB.size
  have hwp : w.heap.size ≤ p := by omega
  have hpw : p ≤ w.heap.size := by omega
  clear hR hlt hP HB hpe
  go_wp2_with fail
  refine (day24_is p A c cs hcs n0 (by omega) _ (hC.later (by repeat (first | exact Below.refl _ _ | refine Below.alloc ?_ (by first | exact Nat.le_refl _ | (simp <;> omega)) _ | refine Below.setCell ?_ (by first | exact Nat.le_refl _ | (simp <;> omega)) _)))).mono ?_
  rintro e w1 ⟨d, rfl, ⟨hd0, hd1⟩, hS1⟩
  have hg1 : wA.grownBy w1 (some p) := grown_tr (below_grown (by repeat (first | exact Below.refl _ _ | refine Below.alloc ?_ (by first | exact Nat.le_refl _ | (simp <;> omega)) _ | refine Below.setCell ?_ (by first | exact Nat.le_refl _ | (simp <;> omega)) _)) _) hS1.2
  replace hC := hS1.1
  have sz1 := hg1.size
  replace HG := grown_tr HG hg1
  go_wp2
  go_ret
  exact ⟨d, rfl, ⟨hd0, hd1⟩, grown_below HG (by omega) (fun k hk => by cases hk; omega)⟩
end Go.Proofs.Ytdimhbolckbjdaa
