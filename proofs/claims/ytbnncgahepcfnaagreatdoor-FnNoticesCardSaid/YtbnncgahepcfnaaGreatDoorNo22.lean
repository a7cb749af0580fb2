/- Working days: the other functions, the draws. -/
import Derived.Test.YtbnncgahepcfnaaGreatDoorNo6
import Derived.Test.YtbnncgahepcfnaaGreatDoorNo12
import Derived.Test.YtbnncgahepcfnaaGreatDoorNo7
import Derived.Deep.Cut
import Derived.Outline
namespace Go.Proofs.YtbnncgahepcfnaaGreatDoor
open Go.RowKit Go.G9
def wdbOk (a b : Int) : Bool := inB a 0 3650 && (inB b 0 3650 && decide (a ≤ b))
def wdbV (a b : Int) : Value := if wdbOk a b then .tuple #[.int .i64 (cntW a (b - a).toNat : Nat), .bool true] else .tuple #[.int .i64 0, .bool false]
theorem wdbV_no {a b : Int} (h : wdbOk a b = false) : wdbV a b = .tuple #[.int .i64 0, .bool false] := by unfold wdbV; rw [h]; rfl
theorem wdbV_yes {a b : Int} (h : wdbOk a b = true) : wdbV a b = .tuple #[.int .i64 (cntW a (b - a).toNat : Nat), .bool true] := by unfold wdbV; rw [h]; rfl
theorem wdbV_at {a b : Int} {k : Nat} (h : wdbOk a b = true) (he : (b - a).toNat = k) : wdbV a b = .tuple #[.int .i64 (cntW a k : Nat), .bool true] := by subst he; exact wdbV_yes h
def wdbRel (a b : Int) (n d : Value) : Prop := ∃ k : Nat, n = .int .i64 (cntW a k : Nat) ∧ d = .int .i64 (a + 1 + k) ∧ (k : Int) ≤ b - a
def lgOk (m d : Int) : Bool := inB m 0 3650 && (inB d 0 60 && decide (d ≤ m))
def lgV (m d : Int) : Value := if lgOk m d then .tuple #[.int .i64 (m - d), .bool true] else .tuple #[.int .i64 0, .bool false]
theorem lgV_no {m d : Int} (h : lgOk m d = false) : lgV m d = .tuple #[.int .i64 0, .bool false] := by unfold lgV; rw [h]; rfl
theorem lgV_yes {m d : Int} (h : lgOk m d = true) : lgV m d = .tuple #[.int .i64 (m - d), .bool true] := by unfold lgV; rw [h]; rfl
def iwV (d : Int) : Value := if inB d 0 3650 then .tuple #[.bool (wkB d), .bool true] else .tuple #[.bool false, .bool false]
theorem iwV_no {d : Int} (h : inB d 0 3650 = false) : iwV d = .tuple #[.bool false, .bool false] := by unfold iwV; rw [h]; rfl
theorem iwV_yes {d : Int} (h : inB d 0 3650 = true) : iwV d = .tuple #[.bool (wkB d), .bool true] := by unfold iwV; rw [h]; rfl
/-- An answer as a pair. -/
theorem wdbV_form (a b : Int) : ∃ (n : Int) (v : Bool), wdbV a b = .tuple #[.int .i64 n, .bool v] ∧ v = wdbOk a b ∧ (v = true → n = (cntW a (b - a).toNat : Nat)) := by
  cases h : wdbOk a b
  · exact ⟨0, false, wdbV_no h, rfl, fun h => by cases h⟩
  · exact ⟨_, true, wdbV_yes h, rfl, fun _ => rfl⟩
theorem lgV_form (m d : Int) : ∃ (n : Int) (v : Bool), lgV m d = .tuple #[.int .i64 n, .bool v] ∧ (v = true → n + d = m) ∧ (-4000 ≤ n ∧ n ≤ 4000) := by
  cases h : lgOk m d
  · exact ⟨0, false, lgV_no h, (fun h => by cases h), by omega, by omega⟩
  · have h2 := h
    unfold lgOk at h2
    simp only [Bool.and_eq_true, decide_eq_true_eq] at h2
    have h3 := inB_iff.1 h2.1
    have h4 := inB_iff.1 h2.2.1
    exact ⟨_, true, lgV_yes h, fun _ => by omega, by omega, by omega⟩
theorem iwV_form (d : Int) : ∃ a b : Bool, iwV d = .tuple #[.bool a, .bool b] := by
  cases h : inB d 0 3650
  · exact ⟨_, _, iwV_no h⟩
  · exact ⟨_, _, iwV_yes h⟩
/-- Seven days hold five working days. -/
theorem cntW_week (a : Int) (k : Nat) : cntW a (k + 7) = cntW a k + 5 := by
  have h : ∀ j : Nat, wkB (a + ((k + j : Nat) : Int)) = decide (((a + k) % 7 + j) % 7 < 5) := fun j => by
    unfold wkB
    rw [show (a + ((k + j : Nat) : Int)) % 7 = ((a + k) % 7 + j) % 7 from by omega]
  have e := h 1; have e2 := h 2; have e3 := h 3; have e4 := h 4; have e5 := h 5; have e6 := h 6; have e7 := h 7
  have hr : (a + k) % 7 = 0 ∨ (a + k) % 7 = 1 ∨ (a + k) % 7 = 2 ∨ (a + k) % 7 = 3 ∨ (a + k) % 7 = 4 ∨ (a + k) % 7 = 5 ∨ (a + k) % 7 = 6 := by omega
  show cntW a (k + 6 + 1) = _
  rw [cntW, cntW, cntW, cntW, cntW, cntW, cntW]
  show cntW a k + (if wkB (a + ((k + 1 : Nat) : Int)) then 1 else 0) + (if wkB (a + ((k + 2 : Nat) : Int)) then 1 else 0) + (if wkB (a + ((k + 3 : Nat) : Int)) then 1 else 0) + (if wkB (a + ((k + 4 : Nat) : Int)) then 1 else 0) + (if wkB (a + ((k + 5 : Nat) : Int)) then 1 else 0) + (if wkB (a + ((k + 6 : Nat) : Int)) then 1 else 0) + (if wkB (a + ((k + 7 : Nat) : Int)) then 1 else 0) = _
  rw [e, e2, e3, e4, e5, e6, e7]
  rcases hr with hr | hr | hr | hr | hr | hr | hr <;> rw [hr] <;> rfl
/-- The n-th working day behind a day. -/
theorem awd_form {d n : Int} {v : Value} (h : awdOut d n v) : ∃ (t : Int) (b : Bool), v = .tuple #[.int .i64 t, .bool b] ∧ (-4000 ≤ t ∧ t ≤ 4000) ∧ (b = true → wdbV d t = .tuple #[.int .i64 n, .bool true] ∧ iwV t = .tuple #[.bool (wkB t), .bool true] ∧ (0 < n → wkB t = true)) := by
  rcases h with ⟨h1, rfl⟩ | ⟨h1, h2, k, h3, rfl⟩
  · exact ⟨0, false, rfl, by omega, fun h => by cases h⟩
  · cases h4 : inB (d + k) 0 3650
    · exact ⟨0, false, rfl, by omega, fun h => by cases h⟩
    · have h5 := inB_iff.1 h4
      have h6 := inB_iff.1 h2
      have h7 := inB_iff.1 h1
      refine ⟨d + k, true, rfl, by omega, fun _ => ⟨?_, iwV_yes h4, fun hn => ?_⟩⟩
      · rw [wdbV_at (k := k) (by unfold wdbOk; rw [h1, h4, decide_eq_true (by omega : d ≤ d + k)]; rfl) (by omega), h3.1, Int.toNat_of_nonneg h6.1]
      · obtain ⟨h8, h9⟩ := h3
        cases k with
        | zero => rw [cntW] at h8; omega
        | succ j =>
          have := h9 j (by omega)
          rw [cntW] at h8
          cases hw : wkB (d + ((j + 1 : Nat) : Int))
          · rw [hw] at h8
            simp at h8
            omega
          · rfl
end Go.Proofs.YtbnncgahepcfnaaGreatDoor
/- Draws of days. -/
namespace Go.Proofs.YtbnncgahepcfnaaGreatDoor
open Go.RowKit Go.G9
theorem built_rdsW (w : World) (xs : List Int) (hm : xs.length ≤ maxLen) : Rds 1 intC (w.alloc (.cells (xs.flatMap intC).toArray 3)) (some ⟨w.heap.size, 0, none⟩) xs := (OwnV.built (B := w.heap.size) (f := intC) w xs 3 (Nat.le_refl _) hm intC_len).rds (hf := intC_len)
theorem rds_take {T : Type} {sz : Nat} {f : T → List Value} {w : World} {A : Option Addr} {xs : List T} (h : Rds sz f w A xs) (k : Nat) : Rds sz f w A (xs.take k) := by
  intro h0
  obtain ⟨b, off, h1, h2, h3⟩ := h (by rw [List.length_take] at h0; omega)
  refine ⟨b, off, h1, h2, fun i x hx j u hu => h3 i x ?_ j u hu⟩
  rw [List.getElem?_take] at hx
  split at hx
  · exact hx
  · cases hx
theorem among_pre (L : Option Addr) (lc : Nat) (xs : List Int) (n : Nat) (hn0 : 1 ≤ n) (hn : n ≤ xs.length) (hx1 : xs.length ≤ 1000) (p : Nat) (A : Option Addr) (c : Nat) (cs : List UInt8) (hcs : cs.length ≤ 1048576) (N : Nat) (hN : N ≤ 900000) (w : World) (h : Cur w p A c cs N)
    (hL : Rds 1 intC w L xs) (hne : ∀ ad, L = some ad → 0 < xs.length → ad.block ≠ p) :
  Calls Tryz.prog 59 #[.pointer (some ⟨p, 0, none⟩), .slice L n lc] w fun e w' => ∃ s, e = .returned (.int .i64 s) ∧ s ∈ xs ∧ Stepped w w' p A c cs (N + 2) := by
  have h1 := among_is L lc (xs.take n) (by rw [List.length_take]; omega) (by rw [List.length_take]; omega) p A c cs hcs N hN w h (rds_take hL n) (fun ad h1 h2 => hne ad h1 (by omega))
  rw [List.length_take, Nat.min_eq_left hn] at h1
  exact h1.mono fun e w' ⟨s, h1, h2, h3⟩ => ⟨s, h1, List.mem_of_mem_take h2, h3⟩
set_option maxHeartbeats 1000000 in
set_option maxRecDepth 100000 in
theorem day24_is (p : Nat) (A : Option Addr) (c : Nat) (cs : List UInt8) (hcs : cs.length ≤ 1048576) (N : Nat) (hN : N ≤ 800000) (w : World) (hC : Cur w p A c cs N) :
  Calls Tryz.prog 80 #[.pointer (some ⟨p, 0, none⟩)] w fun e w' => ∃ d : Int, e = .returned (.int .i64 d) ∧ (-1 ≤ d ∧ d ≤ 3651) ∧ Stepped w w' p A c cs (N + 4) := by
  go_enter Tryz.func80, Tryz.ntmps80
  have hp := hC.lt
  have HG := grown_refl w (some p)
  have hL1 := built_rdsW w [0, 4, 5, 6, 7, 44, 100, 3649, 3650, -1, 3651] (by simp [maxLen])
  simp only [List.flatMap_cons, List.flatMap_nil, intC, List.append_nil, List.singleton_append] at hL1
  have HL1 := Lib.hid hL1; clear hL1
  go_wp2_with fail
  refine (pick_is 24 p A c cs hcs N (by omega) (by omega) _ (hC.later (by repeat (first | exact Below.refl _ _ | refine Below.alloc ?_ (by first | exact Nat.le_refl _ | (simp <;> omega)) _ | refine Below.setCell ?_ (by first | exact Nat.le_refl _ | (simp <;> omega)) _)))).mono ?_
  rintro e w1 ⟨r, rfl, ⟨hr0, _, hr1⟩, hS1⟩
  have hg1 : w.grownBy w1 (some p) := grown_tr (below_grown (by repeat (first | exact Below.refl _ _ | refine Below.alloc ?_ (by first | exact Nat.le_refl _ | (simp <;> omega)) _ | refine Below.setCell ?_ (by first | exact Nat.le_refl _ | (simp <;> omega)) _)) _) hS1.2
  replace hC := hS1.1
  have sz1 := hg1.size
  replace HG := grown_tr HG hg1
  have hr2 := hr1 (by omega)
  have HL2 := Lib.hid (rds_far HL1.out hS1.2 (fun ad h _ => by cases h; show w.heap.size ≠ p; omega))
  clear HL1 hr1
  go_wp2_with fail
  refine (among_pre (some ⟨w.heap.size, 0, none⟩) _ [0, 4, 5, 6, 7, 44, 100, 3649, 3650, -1, 3651] (9 + r / 11).toNat (by omega) (by simp only [List.length_cons, List.length_nil]; omega) (by simp) p A c cs hcs (N + 2) (by omega) _ (hC.later (by repeat (first | exact Below.refl _ _ | refine Below.alloc ?_ (by first | exact Nat.le_refl _ | (simp <;> omega)) _ | refine Below.setCell ?_ (by first | exact Nat.le_refl _ | (simp <;> omega)) _))) HL2.out (fun ad h _ => by cases h; show w.heap.size ≠ p; omega)).mono ?_
  rintro e w2 ⟨d, rfl, hd, hS2⟩
  have hg2 : w1.grownBy w2 (some p) := grown_tr (below_grown (by repeat (first | exact Below.refl _ _ | refine Below.alloc ?_ (by first | exact Nat.le_refl _ | (simp <;> omega)) _ | refine Below.setCell ?_ (by first | exact Nat.le_refl _ | (simp <;> omega)) _)) _) hS2.2
  replace hC := hS2.1
  have sz2 := hg2.size
  replace HG := grown_tr HG hg2
  have hd1 : -1 ≤ d ∧ d ≤ 3651 := by
    simp only [List.mem_cons, List.not_mem_nil, or_false] at hd
    omega
  clear hd HL2
  go_wp2
  go_ret
  exact ⟨d, rfl, hd1, hC, HG⟩
end Go.Proofs.YtbnncgahepcfnaaGreatDoor
