/- Clauses drawn by the cursor: words, votes. -/
import Derived.Test.YtndenojanflkgaaCl15
namespace Go.Proofs.Ytndenojanflkgaa
open Go.RowKit Go.G9
theorem rds_oneS (w : World) (s : ByteArray) (e : TypeId) : Rds 1 bC (w.alloc (.cells #[.string s] e)) (some ⟨w.heap.size, 0, none⟩) [s] := Rds.one _ _
set_option maxHeartbeats 2000000 in
set_option maxRecDepth 100000 in
theorem words_is (n : Int) (hn0 : 0 ≤ n) (hn1 : n ≤ 10) (p : Nat) (A : Option Addr) (c : Nat) (cs : List UInt8) (hcs : cs.length ≤ 1048576) (N : Nat) (hN : N ≤ 700000) (w : World) (hC : Cur w p A c cs N) :
  Calls Try.prog 43 #[.pointer (some ⟨p, 0, none⟩), .int .i64 n] w fun e w' => ∃ (ws : List ByteArray) (Y : Option Addr) (y : Nat), e = .returned (.slice Y ws.length y) ∧ ws.length ≤ 10 ∧ (∀ s, s ∈ ws → s.size ≤ 1000) ∧ OwnV w.heap.size 9 1 bC w' (.slice Y ws.length y) ws ∧ Stepped w w' p A c cs (N + 30) := by
  obtain ⟨i0, hi, hz0, hz1, hz2⟩ := info_parts info_strC
  go_enter Try.func43, Try.ntmps43
  have hp := hC.lt
  have HG := grown_refl w (some p)
  have hO0 : OwnV w.heap.size 9 1 bC (w.alloc (.cells #[] 9)) (.slice (some ⟨w.heap.size, 0, none⟩) 0 0) [] := OwnV.made w (Nat.le_refl _) _
  go_wp2_with fail
  refine (pick_is (n + 1) p A c cs hcs N (by omega) (by omega) _ (hC.later (by repeat (first | exact Below.refl _ _ | refine Below.alloc ?_ (by first | exact Nat.le_refl _ | (simp <;> omega)) _ | refine Below.setCell ?_ (by first | exact Nat.le_refl _ | (simp <;> omega)) _)))).mono ?_
  rintro e w1 ⟨r, rfl, ⟨hr0, hr1, hr2⟩, hS1⟩
  have hg1 : w.grownBy w1 (some p) := grown_tr (below_grown (by repeat (first | exact Below.refl _ _ | refine Below.alloc ?_ (by first | exact Nat.le_refl _ | (simp <;> omega)) _ | refine Below.setCell ?_ (by first | exact Nat.le_refl _ | (simp <;> omega)) _)) _) hS1.2
  replace hC := hS1.1
  have sz1 := hg1.size
  replace HG := grown_tr HG hg1
  have hr3 : r ≤ n := by
    by_cases h : n + 1 ≤ 1
    · have := hr1 h; omega
    · have := hr2 (by omega); omega
  replace hO0 := hO0.kept hS1.2 (fun k hk e => by have := (hO0.lt k hk).1; have := Option.some.inj e; omega)
  clear hr1 hr2
  obtain ⟨m0, rfl⟩ : ∃ m : Nat, r = m := ⟨r.toNat, by omega⟩
  go_wp2
  go_loopw [5, 6] (fun y i wr => ∃ (m : Nat) (ws : List ByteArray), i = .int .i64 (m : Int) ∧ ws.length + m ≤ 10 ∧ (∀ s, s ∈ ws → s.size ≤ 1000) ∧ OwnV w.heap.size 9 1 bC wr y ws ∧ Cur wr p A c cs (N + 2 + 2 * (10 - m)) ∧ w.grownBy wr (some p)) (fun _ i _ => (intOf i).toNat)
  case atStart => exact ⟨m0, [], rfl, by simp; omega, fun s hs => (by simp at hs), hO0, hC.mono (by omega), HG⟩
  case round =>
    clear hC hO0 HG
    obtain ⟨m, ws, rfl, hm, hw, hO, hC, HG⟩ := hrel
    have hpr := hC.lt
    obtain ⟨Y, y, hYe, _, _, _⟩ := hO.form bC_len
    subst hYe
    have HW := Lib.hid hw; clear hw
    by_cases hlt : 0 < m
    · have hmm : (m : Int) - 1 = ((m - 1 : Nat) : Int) := by omega
      have hL1 := built_rdsO wr [(⟨#[116, 104, 101]⟩ : ByteArray), (⟨#[102, 101, 101]⟩ : ByteArray), (⟨#[105, 115]⟩ : ByteArray), (⟨#[116, 101, 110]⟩ : ByteArray), (⟨#[115, 104, 97, 108, 108]⟩ : ByteArray), (⟨#[110, 111, 116]⟩ : ByteArray), (⟨#[98, 101]⟩ : ByteArray), (⟨#[112, 97, 105, 100]⟩ : ByteArray)] (by simp [maxLen])
      simp only [List.flatMap_cons, List.flatMap_nil, bC, List.append_nil, List.singleton_append] at hL1
      have HL1 := Lib.hid hL1; clear hL1
      go_wp2_with fail
      refine (of_is (some ⟨wr.heap.size, 0, none⟩) _ [(⟨#[116, 104, 101]⟩ : ByteArray), (⟨#[102, 101, 101]⟩ : ByteArray), (⟨#[105, 115]⟩ : ByteArray), (⟨#[116, 101, 110]⟩ : ByteArray), (⟨#[115, 104, 97, 108, 108]⟩ : ByteArray), (⟨#[110, 111, 116]⟩ : ByteArray), (⟨#[98, 101]⟩ : ByteArray), (⟨#[112, 97, 105, 100]⟩ : ByteArray)] (by simp) (by simp) p A c cs hcs (N + 2 + 2 * (10 - m)) (by omega) _ (hC.later (by repeat (first | exact Below.refl _ _ | refine Below.alloc ?_ (by first | exact Nat.le_refl _ | (simp <;> omega)) _ | refine Below.setCell ?_ (by first | exact Nat.le_refl _ | (simp <;> omega)) _))) HL1.out (fun ad h _ => by cases h; show wr.heap.size ≠ p; omega)).mono ?_
      rintro e w2 ⟨s, rfl, hq, hS2⟩
      have hg2 : wr.grownBy w2 (some p) := grown_tr (below_grown (by repeat (first | exact Below.refl _ _ | refine Below.alloc ?_ (by first | exact Nat.le_refl _ | (simp <;> omega)) _ | refine Below.setCell ?_ (by first | exact Nat.le_refl _ | (simp <;> omega)) _)) _) hS2.2
      replace hC := hS2.1
      have sz2 := hg2.size
      replace HG := grown_tr HG hg2
      have hs : s.size ≤ 1000 := by
        simp only [List.mem_cons, List.not_mem_nil, or_false] at hq
        rcases hq with h | h | h | h | h | h | h | h <;> (subst h; decide)
      clear hq HL1
      replace hO := hO.kept hg2 (fun k hk e => by have := (hO.lt k hk).1; have := Option.some.inj e; omega)
      go_wp2_with ((at_builtin; refine wpList_app1 rfl _ _ 36 rfl w.heap.size 9 i0 _ 1 16 Try.underlying36 hi hz0 hz1 hz2 rfl (by decide) bC bC_len bC_one _ ws rfl (hO.alloc _) ⟨w2.heap.size, 0, none⟩ 1 s rfl (rds_oneS _ _ _) (by unfold maxLen; omega) (by omega) (by have := HG.size; simp; omega) ?_; intro v4 w4 hO4 hg4 ha4))
      have hC4 := (hC.later (bl1 _ _)).row hg4 (fun k hk => by have := (hO.lt k hk).1; omega)
      have HG4 := grown_row2 (grown_tr HG (below_grown (bl1 _ _) _)) hg4 (fun k hk => (hO.lt k hk).1)
      go_roundw
      case rel => exact ⟨m - 1, _, by rw [← hmm], by simp; omega, fun s' hs' => by
        rcases List.mem_append.1 hs' with h | h
        · exact HW.out s' h
        · simp at h; subst h; exact hs, hO4, hC4.mono (by omega), HG4⟩
      case measure => simp [intOf]; omega
    · obtain rfl : m = 0 := by omega
      go_wp2
      go_ret
      exact ⟨ws, Y, y, rfl, by omega, HW.out, hO, hC.mono (by omega), HG⟩
set_option maxHeartbeats 2000000 in
set_option maxRecDepth 100000 in
theorem adopted_is (L : Option Addr) (lc n : Nat) (hn : n ≤ 100) (p : Nat) (A : Option Addr) (c : Nat) (cs : List UInt8) (hcs : cs.length ≤ 1048576) (N : Nat) (hN : N ≤ 700000) (w : World) (hC : Cur w p A c cs N) :
  Calls Try.prog 23 #[.pointer (some ⟨p, 0, none⟩), .slice L n lc] w fun e w' => ∃ (bs : List Bool) (Y : Option Addr) (y : Nat), e = .returned (.slice Y bs.length y) ∧ bs.length ≤ 101 ∧ OwnV w.heap.size 4 1 blC w' (.slice Y bs.length y) bs ∧ Stepped w w' p A c cs (N + 210) := by
  obtain ⟨i0, hi, hz0, hz1, hz2⟩ := info_parts info_bool
  go_enter Try.func23, Try.ntmps23
  have hp := hC.lt
  have HG := grown_refl w (some p)
  have hO0 : OwnV w.heap.size 4 1 blC (w.alloc (.cells #[] 4)) (.slice (some ⟨w.heap.size, 0, none⟩) 0 0) [] := OwnV.made w (Nat.le_refl _) _
  have hC0 := hC.later (bl1 w (.cells #[] 4))
  have HG0 := grown_tr HG (below_grown (bl1 w (.cells #[] 4)) (some p))
  go_wp2
  go_loopw [5, 6] (fun y i wr => ∃ (k : Nat) (bs : List Bool), i = .int .i64 (k : Int) ∧ k ≤ n ∧ bs.length = k ∧ OwnV w.heap.size 4 1 blC wr y bs ∧ Cur wr p A c cs (N + 2 * k) ∧ w.grownBy wr (some p)) (fun _ i _ => n - (intOf i).toNat)
  case atStart => exact ⟨0, [], rfl, Nat.zero_le _, rfl, hO0, hC0, HG0⟩
  case round =>
    clear hC hO0 HG hC0 HG0
    obtain ⟨k, bs, rfl, hk, hkl, hO, hC, HG⟩ := hrel
    have HKL := Lib.hid hkl; clear hkl
    obtain ⟨Y, y, hYe, _, _, _⟩ := hO.form blC_len
    subst hYe
    by_cases hlt : k < n
    · go_wp2_with fail
      refine (one_is 3 p A c cs hcs (N + 2 * k) (by omega) (by omega) _ (hC.later (by repeat (first | exact Below.refl _ _ | refine Below.alloc ?_ (by first | exact Nat.le_refl _ | (simp <;> omega)) _ | refine Below.setCell ?_ (by first | exact Nat.le_refl _ | (simp <;> omega)) _)))).mono ?_
      rintro e w1 ⟨b, rfl, hS1⟩
      have hg1 : wr.grownBy w1 (some p) := grown_tr (below_grown (by repeat (first | exact Below.refl _ _ | refine Below.alloc ?_ (by first | exact Nat.le_refl _ | (simp <;> omega)) _ | refine Below.setCell ?_ (by first | exact Nat.le_refl _ | (simp <;> omega)) _)) _) hS1.2
      replace hC := hS1.1
      have sz1 := hg1.size
      replace HG := grown_tr HG hg1
      replace hO := hO.kept hg1 (fun k hk e => by have := (hO.lt k hk).1; have := Option.some.inj e; omega)
      have hbl2 : bs.length ≤ 100 := by have := HKL.out; omega
      go_wp2_with ((at_builtin; refine wpList_app1 rfl _ _ 25 rfl w.heap.size 4 i0 _ 1 1 Try.underlying25 hi hz0 hz1 hz2 rfl (by decide) blC blC_len blC_one _ bs rfl (hO.alloc _) ⟨w1.heap.size, 0, none⟩ 1 (!b) rfl (Rds.one _ _) (by unfold maxLen; omega) (by omega) (by have := HG.size; simp; omega) ?_; intro v4 w4 hO4 hg4 ha4))
      have hC4 := (hC.later (bl1 _ _)).row hg4 (fun k hk => by have := (hO.lt k hk).1; omega)
      have HG4 := grown_row2 (grown_tr HG (below_grown (bl1 _ _) _)) hg4 (fun k hk => (hO.lt k hk).1)
      go_roundw
      case rel => exact ⟨k + 1, _, by go_num, by omega, by have := HKL.out; simp; omega, hO4, hC4.mono (by omega), HG4⟩
      case measure => simp [intOf]; omega
    · obtain rfl : k = n := by omega
      have hbl2 : bs.length ≤ 100 := by have := HKL.out; omega
      go_wp2_with fail
      refine (one_is 24 p A c cs hcs (N + 2 * k) (by omega) (by omega) _ (hC.later (by repeat (first | exact Below.refl _ _ | refine Below.alloc ?_ (by first | exact Nat.le_refl _ | (simp <;> omega)) _ | refine Below.setCell ?_ (by first | exact Nat.le_refl _ | (simp <;> omega)) _)))).mono ?_
      rintro e w2 ⟨b, rfl, hS2⟩
      have hg2 : wr.grownBy w2 (some p) := grown_tr (below_grown (by repeat (first | exact Below.refl _ _ | refine Below.alloc ?_ (by first | exact Nat.le_refl _ | (simp <;> omega)) _ | refine Below.setCell ?_ (by first | exact Nat.le_refl _ | (simp <;> omega)) _)) _) hS2.2
      replace hC := hS2.1
      have sz2 := hg2.size
      replace HG := grown_tr HG hg2
      replace hO := hO.kept hg2 (fun k hk e => by have := (hO.lt k hk).1; have := Option.some.inj e; omega)
      cases b
      · go_wp2
        go_ret
        exact ⟨bs, Y, y, rfl, by omega, hO, hC.mono (by omega), HG⟩
      · go_wp2_with ((at_builtin; refine wpList_app1 rfl _ _ 25 rfl w.heap.size 4 i0 _ 1 1 Try.underlying25 hi hz0 hz1 hz2 rfl (by decide) blC blC_len blC_one _ bs rfl (hO.alloc _) ⟨w2.heap.size, 0, none⟩ 1 true rfl (Rds.one _ _) (by unfold maxLen; omega) (by omega) (by have := HG.size; simp; omega) ?_; intro v4 w4 hO4 hg4 ha4))
        have hC4 := (hC.later (bl1 _ _)).row hg4 (fun k hk => by have := (hO.lt k hk).1; omega)
        have HG4 := grown_row2 (grown_tr HG (below_grown (bl1 _ _) _)) hg4 (fun k hk => (hO.lt k hk).1)
        obtain ⟨Y2, y2, rfl, _, _, _⟩ := hO4.form blC_len
        go_ret
        exact ⟨_, Y2, y2, rfl, by simp; omega, hO4, hC4.mono (by omega), HG4⟩
end Go.Proofs.Ytndenojanflkgaa
