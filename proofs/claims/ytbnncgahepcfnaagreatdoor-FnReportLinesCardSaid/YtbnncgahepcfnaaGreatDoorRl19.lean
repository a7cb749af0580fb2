/- A report drawn by the cursor. -/
import Derived.Test.YtbnncgahepcfnaaGreatDoorRl18
import Derived.Test.YtbnncgahepcfnaaGreatDoorRl17
import Derived.Test.YtbnncgahepcfnaaGreatDoorRl7
import Derived.Test.YtbnncgahepcfnaaGreatDoorRl9
import Derived.Deep.Cut
import Derived.Outline
import Derived.Test.YtbnncgahepcfnaaGreatDoorRl8
import Derived.Test.YtbnncgahepcfnaaGreatDoorRl6
import Derived.Test.YtbnncgahepcfnaaGreatDoorRows
namespace Go.G9
open Go.RowKit
/-- A slice of the call's own, read: its blocks lie from lo on. -/
structure SegR (lo hi : Nat) {T : Type} (sz : Nat) (f : T → List Value) (w : World) (A : Option Addr) (c : Nat) (xs : List T) : Prop where
  rds : Rds sz f w A xs
  nil : A = none → xs = [] ∧ c = 0
  rng : ∀ ad, A = some ad → 0 < xs.length → lo ≤ ad.block ∧ ad.block < hi
end Go.G9
namespace Go.Proofs.YtbnncgahepcfnaaGreatDoor
open Go.RowKit Go.G9
def lenOf : Value → Nat
  | .slice _ n _ => n
  | _ => 0
theorem res_one (x : Res) : ∀ u ∈ Res.cells x, u.oneCell' = true := by
  intro u hu
  simp only [Res.cells, List.mem_cons, List.not_mem_nil, or_false] at hu
  rcases hu with rfl | rfl | rfl | rfl | rfl <;> rfl
theorem res_len (x : Res) : (Res.cells x).length = 5 := rfl
theorem rds_oneR (w : World) (m : ByteArray) (nd y n ab : Int) (hm : m.size ≤ maxLen) (e : TypeId) : Rds 5 Res.cells (w.alloc (.cells #[.string m, .int .i64 nd, .int .i64 y, .int .i64 n, .int .i64 ab] e)) (some ⟨w.heap.size, 0, none⟩) [(⟨m, nd, y, n, ab, hm⟩ : Res)] := by
  have h := (OwnV.built (B := w.heap.size) (f := Res.cells) w [(⟨m, nd, y, n, ab, hm⟩ : Res)] e (Nat.le_refl _) (by simp [maxLen]) res_len).rds (hf := res_len)
  simpa [Res.cells] using h
set_option maxHeartbeats 4000000 in
set_option maxRecDepth 100000 in
theorem report_is (p : Nat) (A : Option Addr) (c : Nat) (cs : List UInt8) (hcs : cs.length ≤ 1048576) (N : Nat) (hN : N ≤ 500000) (w : World) (hC : Cur w p A c cs N) :
  Calls Tryz.prog 56 #[.pointer (some ⟨p, 0, none⟩)] w fun e w' => ∃ (xs : List Res) (Y : Option Addr) (yc : Nat), e = .returned (.slice Y xs.length yc) ∧ xs.length ≤ 14 ∧ OwnV w.heap.size 27 5 Res.cells w' (.slice Y xs.length yc) xs ∧ Stepped w w' p A c cs (N + 400) := by
  obtain ⟨i0, hi, hz0, hz1, hz2⟩ := info_parts info_Res
  go_enter Tryz.func56, Tryz.ntmps56
  have hp := hC.lt
  have HG := grown_refl w (some p)
  have hO0 : OwnV w.heap.size 27 5 Res.cells (w.alloc (.cells #[] 27)) (.slice (some ⟨w.heap.size, 0, none⟩) 0 0) [] := OwnV.made w (Nat.le_refl _) _
  go_wp2_with fail
  refine (pick_is 7 p A c cs hcs N (by omega) (by omega) _ (hC.later (by repeat (first | exact Below.refl _ _ | refine Below.alloc ?_ (by first | exact Nat.le_refl _ | (simp <;> omega)) _ | refine Below.setCell ?_ (by first | exact Nat.le_refl _ | (simp <;> omega)) _)))).mono ?_
  rintro e w1 ⟨r, rfl, ⟨hr0, _, hr1⟩, hS1⟩
  have hg1 : w.grownBy w1 (some p) := grown_tr (below_grown (by repeat (first | exact Below.refl _ _ | refine Below.alloc ?_ (by first | exact Nat.le_refl _ | (simp <;> omega)) _ | refine Below.setCell ?_ (by first | exact Nat.le_refl _ | (simp <;> omega)) _)) _) hS1.2
  replace hC := hS1.1
  have sz1 := hg1.size
  replace HG := grown_tr HG hg1
  have hr2 := hr1 (by omega)
  replace hO0 := hO0.kept hS1.2 (fun k hk e => by have := (hO0.lt k hk).1; have := Option.some.inj e; omega)
  clear hr1
  obtain ⟨m0, rfl⟩ : ∃ m : Nat, r = m := ⟨r.toNat, by omega⟩
  go_wp2
  go_loopw [3, 4] (fun y i wr => ∃ (m : Nat) (xs : List Res), i = .int .i64 (m : Int) ∧ xs.length + m ≤ 6 ∧ OwnV w.heap.size 27 5 Res.cells wr y xs ∧ Cur wr p A c cs (N + 2 + 20 * (6 - m)) ∧ w.grownBy wr (some p)) (fun _ i _ => (intOf i).toNat)
  case atStart => exact ⟨m0, [], rfl, by first | omega | (simp; omega), hO0, hC.mono (by omega), HG⟩
  case round =>
    clear hC hO0 HG
    obtain ⟨m, xs, rfl, hm, hO, hC, HG⟩ := hrel
    by_cases hlt : 0 < m
    · have hmm : (m : Int) - 1 = ((m - 1 : Nat) : Int) := by omega
      go_wp2_with fail
      refine (outcome_is p A c cs hcs (N + 2 + 20 * (6 - m)) (by omega) _ (hC.later (by repeat (first | exact Below.refl _ _ | refine Below.alloc ?_ (by first | exact Nat.le_refl _ | (simp <;> omega)) _ | refine Below.setCell ?_ (by first | exact Nat.le_refl _ | (simp <;> omega)) _)))).mono ?_
      rintro e w2 ⟨mo, nd, yy, nn, ab, rfl, hmz, _, _, _, _, hS2⟩
      have hg2 : wr.grownBy w2 (some p) := grown_tr (below_grown (by repeat (first | exact Below.refl _ _ | refine Below.alloc ?_ (by first | exact Nat.le_refl _ | (simp <;> omega)) _ | refine Below.setCell ?_ (by first | exact Nat.le_refl _ | (simp <;> omega)) _)) _) hS2.2
      replace hC := hS2.1
      have sz2 := hg2.size
      replace HG := grown_tr HG hg2
      replace hO := hO.kept hS2.2 (fun k hk e => by have := (hO.lt k hk).1; have := Option.some.inj e; omega)
      have hml : mo.size ≤ maxLen := by unfold maxLen; omega
      go_wp2_with ((at_builtin; refine wpList_app1 rfl _ _ 34 rfl w.heap.size 27 i0 _ 5 48 Tryz.underlying34 hi hz0 hz1 hz2 rfl (by decide) Res.cells res_len res_one _ xs rfl (hO.alloc _) ⟨w2.heap.size, 0, none⟩ 1 ⟨mo, nd, yy, nn, ab, hml⟩ rfl (rds_oneR _ _ _ _ _ _ _ _) (by unfold maxLen; omega) (by omega) (by have := HG.size; simp; omega) ?_; intro v4 w4 hO4 hg4 ha4))
      have hC4 := (hC.later (bl1 _ _)).row hg4 (fun k hk => by have := (hO.lt k hk).1; omega)
      have HG4 := grown_row2 (grown_tr HG (below_grown (bl1 _ _) _)) hg4 (fun k hk => (hO.lt k hk).1)
      go_roundw
      case rel => exact ⟨m - 1, _, by rw [← hmm], by simp; omega, hO4, hC4.mono (by omega), HG4⟩
      case measure => simp [intOf]; omega
    · obtain rfl : m = 0 := by omega
      go_wp2_with fail
      refine (one_is 24 p A c cs hcs (N + 2 + 20 * (6 - 0)) (by omega) (by omega) _ (hC.later (by repeat (first | exact Below.refl _ _ | refine Below.alloc ?_ (by first | exact Nat.le_refl _ | (simp <;> omega)) _ | refine Below.setCell ?_ (by first | exact Nat.le_refl _ | (simp <;> omega)) _)))).mono ?_
      rintro e w3 ⟨b, rfl, hS3⟩
      have hg3 : wr.grownBy w3 (some p) := grown_tr (below_grown (by repeat (first | exact Below.refl _ _ | refine Below.alloc ?_ (by first | exact Nat.le_refl _ | (simp <;> omega)) _ | refine Below.setCell ?_ (by first | exact Nat.le_refl _ | (simp <;> omega)) _)) _) hS3.2
      replace hC := hS3.1
      have sz3 := hg3.size
      replace HG := grown_tr HG hg3
      replace hO := hO.kept hS3.2 (fun k hk e => by have := (hO.lt k hk).1; have := Option.some.inj e; omega)
      cases b
      · obtain ⟨Y, yc, rfl, _, _, _⟩ := hO.form res_len
        go_wp2
        go_ret
        exact ⟨xs, Y, yc, rfl, by omega, hO, hC.mono (by omega), HG⟩
      · go_wp2
        go_loopw [3] (fun y wq => ∃ (xs : List Res), xs.length ≤ 13 ∧ OwnV w.heap.size 27 5 Res.cells wq y xs ∧ Cur wq p A c cs (N + 130 + 2 * xs.length) ∧ w.grownBy wq (some p)) (fun y _ => 20 - lenOf y)
        case atStart => exact ⟨xs, by omega, hO, hC.mono (by omega), HG⟩
        case round =>
          clear hC hO HG hm
          obtain ⟨xs, hm, hO, hC, HG⟩ := hrel
          obtain ⟨Y, yc, rfl, _, _, _⟩ := hO.form res_len
          go_wp2_with fail
          refine (pick_is 2 p A c cs hcs (N + 130 + 2 * xs.length) (by omega) (by omega) _ (hC.later (by repeat (first | exact Below.refl _ _ | refine Below.alloc ?_ (by first | exact Nat.le_refl _ | (simp <;> omega)) _ | refine Below.setCell ?_ (by first | exact Nat.le_refl _ | (simp <;> omega)) _)))).mono ?_
          rintro e w4 ⟨r, rfl, ⟨hr0, _, hr1⟩, hS4⟩
          have hg4 : wr.grownBy w4 (some p) := grown_tr (below_grown (by repeat (first | exact Below.refl _ _ | refine Below.alloc ?_ (by first | exact Nat.le_refl _ | (simp <;> omega)) _ | refine Below.setCell ?_ (by first | exact Nat.le_refl _ | (simp <;> omega)) _)) _) hS4.2
          replace hC := hS4.1
          have sz4 := hg4.size
          replace HG := grown_tr HG hg4
          have hr2 := hr1 (by omega)
          clear hr1
          replace hO := hO.kept hS4.2 (fun k hk e => by have := (hO.lt k hk).1; have := Option.some.inj e; omega)
          by_cases hlt : (xs.length : Int) < 12 + r
          · have hml : ((⟨#[120]⟩ : ByteArray) : ByteArray).size ≤ maxLen := by decide
            go_wp2_with ((at_builtin; refine wpList_app1 rfl _ _ 34 rfl w.heap.size 27 i0 _ 5 48 Tryz.underlying34 hi hz0 hz1 hz2 rfl (by decide) Res.cells res_len res_one _ xs rfl (hO.alloc _) ⟨w4.heap.size, 0, none⟩ 1 ⟨(⟨#[120]⟩ : ByteArray), 1, 0, 0, 0, hml⟩ rfl (rds_oneR _ _ _ _ _ _ _ _) (by unfold maxLen; omega) (by omega) (by have := HG.size; simp; omega) ?_; intro v4 w4 hO4 hg4 ha4))
            have hC4 := (hC.later (bl1 _ _)).row hg4 (fun k hk => by have := (hO.lt k hk).1; omega)
            have HG4 := grown_row2 (grown_tr HG (below_grown (bl1 _ _) _)) hg4 (fun k hk => (hO.lt k hk).1)
            obtain ⟨Y4, yc4, rfl, _, _, _⟩ := hO4.form res_len
            go_roundw
            case rel => exact ⟨_, by simp; omega, hO4, hC4.mono (by simp; omega), HG4⟩
            case measure => simp [lenOf]; omega
          · go_wp2
            go_ret
            exact ⟨xs, Y, yc, rfl, by omega, hO, hC.mono (by omega), HG⟩
end Go.Proofs.YtbnncgahepcfnaaGreatDoor
/- The draws of a report, and impl.IsAdopted. -/
namespace Go.Proofs.YtbnncgahepcfnaaGreatDoor
open Go.RowKit Go.G9
set_option maxHeartbeats 400000 in
set_option maxRecDepth 100000 in
theorem drawIsReport_is (A : Option Addr) (c : Nat) (cs : List UInt8) (hcs : cs.length ≤ 1048576) (w : World) (hR : Rds 1 u8C w A cs) :
  Calls Tryz.prog 51 #[.slice A cs.length c] w fun e w' => ∃ (xs : List Res) (Y : Option Addr) (yc : Nat), e = .returned (.slice Y xs.length yc) ∧ xs.length ≤ 14 ∧ OwnV w.heap.size 27 5 Res.cells w' (.slice Y xs.length yc) xs ∧ Below w.heap.size w w' := by
  go_enter Tryz.func51, Tryz.ntmps51
  go_upto_region 2 with fail
  have hlt : ∀ ad, A = some ad → 0 < cs.length → ad.block < w.heap.size := fun ad h h0 => by
    obtain ⟨b, off, h1, h2, _⟩ := hR h0
    rw [h1] at h; cases h; exact h2
  have hP := Blk.new w 65 #[.slice A cs.length c, .int .i64 0, .int .u64 0]
  have HB : Below w.heap.size w (w.alloc (.cells #[.slice A cs.length c, .int .i64 0, .int .u64 0] 65)) := bl1 w _
  generalize (w.alloc (.cells #[.slice A cs.length c, .int .i64 0, .int .u64 0] 65)) = wA at *
  have hC : Cur wA w.heap.size A c cs 0 := ⟨⟨0, 0, hP, by decide, by decide⟩, hR.below HB, fun ad h h0 => by have := hlt ad h h0; omega⟩
  have hPl := hP.lt
  obtain ⟨p, hpe⟩ : ∃ p, p = w.heap.size := ⟨_, rfl⟩
  rw [← hpe] at hC hPl
  obtain ⟨n0, hn0⟩ : ∃ n : Nat, n ≤ 0 := ⟨0, Nat.le_refl _⟩
  replace hC : Cur wA p A c cs n0 := hC.mono (Nat.zero_le _)
  simp only [← hpe]
  have hp := hC.lt
  have HG := grown_refl w (some p)
  replace HG : w.grownBy wA (some p) := below_grown HB _
  have szw : w.heap.size ≤ wA.heap.size := HB.size
  clear hR hlt hP HB
  go_wp2_with fail
  rw [← hpe]
  refine (report_is p A c cs hcs n0 (by omega) _ hC).mono ?_
  rintro e w1 ⟨xs, Y, yc, rfl, hl, hO, hS1⟩
  replace HG := grown_tr HG hS1.2
  go_wp2
  go_ret
  exact ⟨xs, Y, yc, rfl, hl, hO.base (by omega), grown_below HG (Nat.le_refl _) (fun k hk => by cases hk; omega)⟩
end Go.Proofs.YtbnncgahepcfnaaGreatDoor
/- A string spoilt by the cursor. -/
namespace Go.Proofs.YtbnncgahepcfnaaGreatDoor
open Go.RowKit Go.G9
set_option maxHeartbeats 1000000 in
set_option maxRecDepth 100000 in
theorem spoilt_is (t s : ByteArray) (ht : t.size ≤ 1048576) (hs0 : 0 < s.size) (hs : s.size ≤ 1048576) (p : Nat) (A : Option Addr) (c : Nat) (cs : List UInt8) (hcs : cs.length ≤ 1048576) (N : Nat) (hN : N ≤ 800000) (w : World) (hC : Cur w p A c cs N) :
  Calls Tryz.prog 49 #[.pointer (some ⟨p, 0, none⟩), .string t, .string s] w fun e w' => ∃ x : ByteArray, e = .returned (.string x) ∧ x.size ≤ t.size + 1 ∧ Stepped w w' p A c cs (N + 6) := by
  go_enter Tryz.func49, Tryz.ntmps49
  have hp := hC.lt
  have HG := grown_refl w (some p)
  have hn : t.toList.isEmpty = false → 0 < t.size := by
    intro he
    rw [ByteArray.toList_eq] at he
    rcases Nat.eq_zero_or_pos t.size with h | h
    · exfalso
      have h2 : t.data.toList = [] := List.length_eq_zero_iff.1 (by rw [Array.length_toList]; exact h)
      rw [h2] at he; cases he
    · exact h
  rcases Bool.eq_false_or_eq_true t.toList.isEmpty with h0 | h0
  · have h1 : (1 : Int) ≤ s.size := by omega
    go_wp2
    refine bodyPost_ret (v := .string (s.extract 0 1)) (by simp [results, Tryz.results49, go_sem]) rfl ?_
    refine ⟨_, rfl, by rw [ByteArray.size_extract]; omega, hC.mono (by omega), HG⟩
  · have hn' := hn h0
    clear hn
    go_wp2_with fail
    refine (pick_is t.size p A c cs hcs N (by omega) (by omega) _ (hC.later (by repeat (first | exact Below.refl _ _ | refine Below.alloc ?_ (by first | exact Nat.le_refl _ | (simp <;> omega)) _ | refine Below.setCell ?_ (by first | exact Nat.le_refl _ | (simp <;> omega)) _)))).mono ?_
    rintro e w1 ⟨i, rfl, ⟨hi0, hi1, hi2⟩, hS1⟩
    have hg1 : w.grownBy w1 (some p) := grown_tr (below_grown (by repeat (first | exact Below.refl _ _ | refine Below.alloc ?_ (by first | exact Nat.le_refl _ | (simp <;> omega)) _ | refine Below.setCell ?_ (by first | exact Nat.le_refl _ | (simp <;> omega)) _)) _) hS1.2
    replace hC := hS1.1
    have sz1 := hg1.size
    replace HG := grown_tr HG hg1
    have hi3 : i < t.size := by
      by_cases h : (1 : Int) < t.size
      · exact hi2 h
      · have := hi1 (by omega); omega
    obtain ⟨k, rfl⟩ : ∃ k : Nat, i = k := ⟨i.toNat, by omega⟩
    clear hi1 hi2
    go_wp2_with fail
    refine (pick_is s.size p A c cs hcs (N + 2) (by omega) (by omega) _ (hC.later (by repeat (first | exact Below.refl _ _ | refine Below.alloc ?_ (by first | exact Nat.le_refl _ | (simp <;> omega)) _ | refine Below.setCell ?_ (by first | exact Nat.le_refl _ | (simp <;> omega)) _)))).mono ?_
    rintro e w2 ⟨j, rfl, ⟨hj0, hj1, hj2⟩, hS2⟩
    have hg2 : w1.grownBy w2 (some p) := grown_tr (below_grown (by repeat (first | exact Below.refl _ _ | refine Below.alloc ?_ (by first | exact Nat.le_refl _ | (simp <;> omega)) _ | refine Below.setCell ?_ (by first | exact Nat.le_refl _ | (simp <;> omega)) _)) _) hS2.2
    replace hC := hS2.1
    have sz2 := hg2.size
    replace HG := grown_tr HG hg2
    have hj3 : j < s.size := by
      by_cases h : (1 : Int) < s.size
      · exact hj2 h
      · have := hj1 (by omega); omega
    obtain ⟨m, rfl⟩ : ∃ m : Nat, j = m := ⟨j.toNat, by omega⟩
    clear hj1 hj2
    have hk : k < t.size := by omega
    have hm : m < s.size := by omega
    have hm' : (m : Int) ≤ s.size := by omega
    have hm1 : (1 : Int) ≤ (s.extract m s.size).size := by rw [ByteArray.size_extract]; omega
    have hk' : (k : Int) ≤ t.size := by omega
    have hk1 : (k : Int) + 1 ≤ t.size := by omega
    go_wp2_with fail
    refine (pick_is 3 p A c cs hcs (N + 2 + 2) (by omega) (by omega) _ (hC.later (by repeat (first | exact Below.refl _ _ | refine Below.alloc ?_ (by first | exact Nat.le_refl _ | (simp <;> omega)) _ | refine Below.setCell ?_ (by first | exact Nat.le_refl _ | (simp <;> omega)) _)))).mono ?_
    rintro e w3 ⟨r, rfl, ⟨hr0, _, hr1⟩, hS3⟩
    have hg3 : w2.grownBy w3 (some p) := grown_tr (below_grown (by repeat (first | exact Below.refl _ _ | refine Below.alloc ?_ (by first | exact Nat.le_refl _ | (simp <;> omega)) _ | refine Below.setCell ?_ (by first | exact Nat.le_refl _ | (simp <;> omega)) _)) _) hS3.2
    replace hC := hS3.1
    have sz3 := hg3.size
    replace HG := grown_tr HG hg3
    have hr2 := hr1 (by omega)
    clear hr1
    rcases Int.lt_trichotomy r 1 with hr | hr | hr
    · obtain rfl : r = 0 := by omega
      go_upto_region 7 with fail
      refine wp_region_kin (by kernel_rfl) (by kernel_rfl) ?_
      repeat (go_big_quiet_step ((fail)))
      refine wpQuiet_nil ?_
      intro K
      go_wp2
      go_ret
      exact ⟨_, rfl, by simp only [ByteArray.size_append, ByteArray.size_extract]; omega, (hC.later K.below).mono (by omega), grown_tr HG (below_grown K.below _)⟩
    · subst hr
      go_upto_region 9 with fail
      refine wp_region_kin (by kernel_rfl) (by kernel_rfl) ?_
      repeat (go_big_quiet_step ((fail)))
      refine wpQuiet_nil ?_
      intro K
      go_wp2
      go_ret
      exact ⟨_, rfl, by simp only [ByteArray.size_append, ByteArray.size_extract]; omega, (hC.later K.below).mono (by omega), grown_tr HG (below_grown K.below _)⟩
    · obtain rfl : r = 2 := by omega
      go_upto_region 10 with fail
      refine wp_region_kin (by kernel_rfl) (by kernel_rfl) ?_
      repeat (go_big_quiet_step ((fail)))
      refine wpQuiet_nil ?_
      intro K
      go_wp2
      go_ret
      exact ⟨_, rfl, by simp only [ByteArray.size_append, ByteArray.size_extract]; omega, (hC.later K.below).mono (by omega), grown_tr HG (below_grown K.below _)⟩
end Go.Proofs.YtbnncgahepcfnaaGreatDoor
/- The draws of the law of report lines. -/
namespace Go.Proofs.YtbnncgahepcfnaaGreatDoor
open Go.RowKit Go.G9
def strV : Value → ByteArray
  | .string s => s
  | _ => ⟨#[]⟩
theorem olOut_small (r : Res) : ∃ s b, olOut r = .tuple #[.string s, .bool b] ∧ s.size ≤ 200 := by
  unfold olOut
  split
  · rename_i h; exact ⟨_, _, rfl, by have := Res.line_size r h; omega⟩
  · exact ⟨_, _, rfl, by decide⟩
theorem rtOut_small (xs : List Res) : ∃ s b, rtOut xs = .tuple #[.string s, .bool b] ∧ s.size ≤ 2000 := by
  unfold rtOut
  split
  · rename_i h
    refine ⟨_, _, rfl, ?_⟩
    have := repTo_size h xs.length
    have hl : xs.length ≤ 12 := reportB_len h
    unfold repTxt
    omega
  · exact ⟨_, _, rfl, by decide⟩
set_option maxHeartbeats 400000 in
set_option maxRecDepth 100000 in
theorem drawOutcomeLine_is (A : Option Addr) (c : Nat) (cs : List UInt8) (hcs : cs.length ≤ 1048576) (w : World) (hR : Rds 1 u8C w A cs) :
  Calls Tryz.prog 6 #[.slice A cs.length c] w fun e w' => ∃ (m : ByteArray) (nd y n ab : Int), e = .returned (.agg #[.string m, .int .i64 nd, .int .i64 y, .int .i64 n, .int .i64 ab]) ∧ m.size ≤ 12 ∧ Below w.heap.size w w' := by
  go_enter Tryz.func6, Tryz.ntmps6
  go_upto_region 2 with fail
  have hlt : ∀ ad, A = some ad → 0 < cs.length → ad.block < w.heap.size := fun ad h h0 => by
    obtain ⟨b, off, h1, h2, _⟩ := hR h0
    rw [h1] at h; cases h; exact h2
  have hZ := (Blk.new w 27 #[.string ⟨#[]⟩, .int .i64 0, .int .i64 0, .int .i64 0, .int .i64 0]).alloc (.cells #[.slice A cs.length c, .int .i64 0, .int .u64 0] 65)
  have hP := Blk.new2 w (.cells #[.string ⟨#[]⟩, .int .i64 0, .int .i64 0, .int .i64 0, .int .i64 0] 27) 65 #[.slice A cs.length c, .int .i64 0, .int .u64 0]
  have HB : Below w.heap.size w ((w.alloc (.cells #[.string ⟨#[]⟩, .int .i64 0, .int .i64 0, .int .i64 0, .int .i64 0] 27)).alloc (.cells #[.slice A cs.length c, .int .i64 0, .int .u64 0] 65)) := bl2 w _ _
  generalize ((w.alloc (.cells #[.string ⟨#[]⟩, .int .i64 0, .int .i64 0, .int .i64 0, .int .i64 0] 27)).alloc (.cells #[.slice A cs.length c, .int .i64 0, .int .u64 0] 65)) = wA at *
  have hC : Cur wA (w.heap.size + 1) A c cs 0 := ⟨⟨0, 0, hP, by decide, by decide⟩, hR.below HB, fun ad h h0 => by have := hlt ad h h0; omega⟩
  obtain ⟨p, hpe⟩ : ∃ p, p = w.heap.size + 1 := ⟨_, rfl⟩
  rw [← hpe] at hC
  obtain ⟨n0, hn0⟩ : ∃ n : Nat, n ≤ 0 := ⟨0, Nat.le_refl _⟩
  replace hC : Cur wA p A c cs n0 := hC.mono (Nat.zero_le _)
  simp only [← hpe]
  have hp := hC.lt
  have HG := grown_refl w (some p)
  replace HG : w.grownBy wA (some p) := below_grown HB _
  have szw : w.heap.size ≤ wA.heap.size := HB.size
  have HPE := Lib.hid hpe
  have hwp : w.heap.size < p := by omega
  clear hR hlt hP HB hpe
  have z0 := (hZ.cell 0).trans (show _ = some (.string ⟨#[]⟩) from rfl)
  have z1 := (hZ.cell 1).trans (show _ = some (.int .i64 0) from rfl)
  have z2 := (hZ.cell 2).trans (show _ = some (.int .i64 0) from rfl)
  have z3 := (hZ.cell 3).trans (show _ = some (.int .i64 0) from rfl)
  have z4 := (hZ.cell 4).trans (show _ = some (.int .i64 0) from rfl)
  go_wp2_with fail
  refine (outcome_is p A c cs hcs n0 (by omega) _ (hC.later (by repeat (first | exact Below.refl _ _ | refine Below.alloc ?_ (by first | exact Nat.le_refl _ | (simp <;> omega)) _ | refine Below.setCell ?_ (by first | exact Nat.le_refl _ | (simp <;> omega)) _)))).mono ?_
  rintro e w1 ⟨m, nd, y, n, ab, rfl, hm, _, _, _, _, hS1⟩
  clear z0 z1 z2 z3 z4
  have hg1 : wA.grownBy w1 (some p) := grown_tr (below_grown (by repeat (first | exact Below.refl _ _ | refine Below.alloc ?_ (by first | exact Nat.le_refl _ | (simp <;> omega)) _ | refine Below.setCell ?_ (by first | exact Nat.le_refl _ | (simp <;> omega)) _)) _) hS1.2
  replace hC := hS1.1
  have sz1 := hg1.size
  replace HG := grown_tr HG hg1
  replace hZ := hZ.grownB hg1 (by omega)
  have z0 := (hZ.cell 0).trans (show _ = some (.string ⟨#[]⟩) from rfl)
  have z1 := (hZ.cell 1).trans (show _ = some (.int .i64 0) from rfl)
  have z2 := (hZ.cell 2).trans (show _ = some (.int .i64 0) from rfl)
  have z3 := (hZ.cell 3).trans (show _ = some (.int .i64 0) from rfl)
  have z4 := (hZ.cell 4).trans (show _ = some (.int .i64 0) from rfl)
  clear hC
  have fhZ0 := hZ.frozen 0
  have fhZ1 := hZ.frozen 1
  have fhZ2 := hZ.frozen 2
  have fhZ3 := hZ.frozen 3
  have fhZ4 := hZ.frozen 4
  have yhZ := hZ.lt
  go_wp2
  clear fhZ0 fhZ1 fhZ2 fhZ3 fhZ4 yhZ z0 z1 z2 z3 z4
  have HG2 : w.grownBy (((((w1.setCell ⟨w.heap.size, 0, none⟩ (.string m)).setCell ⟨w.heap.size, 1, none⟩ (.int .i64 nd)).setCell ⟨w.heap.size, 2, none⟩ (.int .i64 y)).setCell ⟨w.heap.size, 3, none⟩ (.int .i64 n)).setCell ⟨w.heap.size, 4, none⟩ (.int .i64 ab)) (some p) := (grown_store (grown_store (grown_store (grown_store (grown_store HG (g := w.heap.size) (Nat.le_refl _) 0 (.string m)) (g := w.heap.size) (Nat.le_refl _) 1 (.int .i64 nd)) (g := w.heap.size) (Nat.le_refl _) 2 (.int .i64 y)) (g := w.heap.size) (Nat.le_refl _) 3 (.int .i64 n)) (g := w.heap.size) (Nat.le_refl _) 4 (.int .i64 ab))
  have hZ2 : Blk (((((w1.setCell ⟨w.heap.size, 0, none⟩ (.string m)).setCell ⟨w.heap.size, 1, none⟩ (.int .i64 nd)).setCell ⟨w.heap.size, 2, none⟩ (.int .i64 y)).setCell ⟨w.heap.size, 3, none⟩ (.int .i64 n)).setCell ⟨w.heap.size, 4, none⟩ (.int .i64 ab)) w.heap.size 27 #[.string m, .int .i64 nd, .int .i64 y, .int .i64 n, .int .i64 ab] := (((((hZ.set_ 0 (.string m)).set_ 1 (.int .i64 nd)).set_ 2 (.int .i64 y)).set_ 3 (.int .i64 n)).set_ 4 (.int .i64 ab))
  clear hZ HG
  generalize (((((w1.setCell ⟨w.heap.size, 0, none⟩ (.string m)).setCell ⟨w.heap.size, 1, none⟩ (.int .i64 nd)).setCell ⟨w.heap.size, 2, none⟩ (.int .i64 y)).setCell ⟨w.heap.size, 3, none⟩ (.int .i64 n)).setCell ⟨w.heap.size, 4, none⟩ (.int .i64 ab)) = W9 at *
  have z0 := (hZ2.cell 0).trans (show _ = some (.string m) from rfl)
  have z1 := (hZ2.cell 1).trans (show _ = some (.int .i64 nd) from rfl)
  have z2 := (hZ2.cell 2).trans (show _ = some (.int .i64 y) from rfl)
  have z3 := (hZ2.cell 3).trans (show _ = some (.int .i64 n) from rfl)
  have z4 := (hZ2.cell 4).trans (show _ = some (.int .i64 ab) from rfl)
  refine bodyPost_ret (v := .agg #[.string m, .int .i64 nd, .int .i64 y, .int .i64 n, .int .i64 ab]) (by simp [results, Tryz.results6, go_sem, z0, z1, z2, z3, z4]) rfl ?_
  exact ⟨m, nd, y, n, ab, rfl, hm, grown_below HG2 (Nat.le_refl _) (fun k hk => by cases hk; omega)⟩
theorem drawReportText_is (A : Option Addr) (c : Nat) (cs : List UInt8) (hcs : cs.length ≤ 1048576) (w : World) (hR : Rds 1 u8C w A cs) :
  Calls Tryz.prog 12 #[.slice A cs.length c] w fun e w' => ∃ (xs : List Res) (Y : Option Addr) (yc : Nat), e = .returned (.slice Y xs.length yc) ∧ xs.length ≤ 14 ∧ OwnV w.heap.size 27 5 Res.cells w' (.slice Y xs.length yc) xs ∧ Below w.heap.size w w' := by
  go_enter Tryz.func12, Tryz.ntmps12
  go_wp2_with fail
  refine (drawIsReport_is A c cs hcs _ hR).mono ?_
  rintro e w1 ⟨xs, Y, yc, rfl, hl, hO, hb⟩
  go_wp2
  go_ret
  exact ⟨xs, Y, yc, rfl, hl, hO, hb⟩
set_option maxHeartbeats 400000 in
set_option maxRecDepth 100000 in
theorem drawParseOutcome_is (A : Option Addr) (c : Nat) (cs : List UInt8) (hcs : cs.length ≤ 1048576) (w : World) (hR : Rds 1 u8C w A cs) :
  Calls Tryz.prog 10 #[.slice A cs.length c] w fun e w' => ∃ s : ByteArray, e = .returned (.string s) ∧ s.size ≤ 10000 ∧ Below w.heap.size w w' := by
  go_enter Tryz.func10, Tryz.ntmps10
  go_upto_region 2 with fail
  have hlt : ∀ ad, A = some ad → 0 < cs.length → ad.block < w.heap.size := fun ad h h0 => by
    obtain ⟨b, off, h1, h2, _⟩ := hR h0
    rw [h1] at h; cases h; exact h2
  have hP := Blk.new w 65 #[.slice A cs.length c, .int .i64 0, .int .u64 0]
  have HB : Below w.heap.size w (w.alloc (.cells #[.slice A cs.length c, .int .i64 0, .int .u64 0] 65)) := bl1 w _
  generalize (w.alloc (.cells #[.slice A cs.length c, .int .i64 0, .int .u64 0] 65)) = wA at *
  have hC : Cur wA w.heap.size A c cs 0 := ⟨⟨0, 0, hP, by decide, by decide⟩, hR.below HB, fun ad h h0 => by have := hlt ad h h0; omega⟩
  have hPl := hP.lt
  obtain ⟨p, hpe⟩ : ∃ p, p = w.heap.size := ⟨_, rfl⟩
  rw [← hpe] at hC hPl
  obtain ⟨n0, hn0⟩ : ∃ n : Nat, n ≤ 0 := ⟨0, Nat.le_refl _⟩
  replace hC : Cur wA p A c cs n0 := hC.mono (Nat.zero_le _)
  simp only [← hpe]
  have hp := hC.lt
  have HG := grown_refl w (some p)
  replace HG : w.grownBy wA (some p) := below_grown HB _
  have szw : w.heap.size ≤ wA.heap.size := HB.size
  have hwp : w.heap.size ≤ p := by omega
  clear hR hlt hP HB
  go_wp2_with fail
  rw [← hpe]
  clear hpe
  refine (outcome_is p A c cs hcs n0 (by omega) _ hC).mono ?_
  rintro e wO ⟨m, nd, y, n, ab, rfl, hm, _, _, _, _, hSO⟩
  replace HG := grown_tr HG hSO.2
  replace hC := hSO.1
  have hml : m.size ≤ maxLen := by unfold maxLen; omega
  obtain ⟨s, b, hs, hsz⟩ := olOut_small ⟨m, nd, y, n, ab, hml⟩
  go_wp2_with fail
  refine (sOutcomeLine_is ⟨m, nd, y, n, ab, hml⟩ _ hs _).mono ?_
  rintro e w1 ⟨rfl, hS1⟩
  have hb1 : Below wO.heap.size wO w1 := bth (by repeat (first | exact Below.refl _ _ | refine Below.alloc ?_ (by first | exact Nat.le_refl _ | (simp <;> omega)) _ | refine Below.setCell ?_ (by first | exact Nat.le_refl _ | (simp <;> omega)) _)) hS1
  have hg1 : wO.grownBy w1 (some p) := below_grown hb1 _
  replace hC := hC.later hb1
  have sz1 := hg1.size
  replace HG := grown_tr HG hg1
  go_wp2_with fail
  refine (one_is 4 p A c cs hcs (n0 + 20) (by omega) (by omega) _ (hC.later (by repeat (first | exact Below.refl _ _ | refine Below.alloc ?_ (by first | exact Nat.le_refl _ | (simp <;> omega)) _ | refine Below.setCell ?_ (by first | exact Nat.le_refl _ | (simp <;> omega)) _)))).mono ?_
  rintro e w2 ⟨b, rfl, hS2⟩
  have hg2 : w1.grownBy w2 (some p) := grown_tr (below_grown (by repeat (first | exact Below.refl _ _ | refine Below.alloc ?_ (by first | exact Nat.le_refl _ | (simp <;> omega)) _ | refine Below.setCell ?_ (by first | exact Nat.le_refl _ | (simp <;> omega)) _)) _) hS2.2
  replace hC := hS2.1
  have sz2 := hg2.size
  replace HG := grown_tr HG hg2
  cases b
  · go_wp2
    go_ret
    exact ⟨s, rfl, by omega, grown_below HG (Nat.le_refl _) (fun k hk => by cases hk; omega)⟩
  · go_wp2_with fail
    refine (spoilt_is s (⟨#[48, 44, 32, 58, 116, 97]⟩ : ByteArray) (by omega) (by decide) (by decide) p A c cs hcs (n0 + 20 + 2) (by omega) _ (hC.later (by repeat (first | exact Below.refl _ _ | refine Below.alloc ?_ (by first | exact Nat.le_refl _ | (simp <;> omega)) _ | refine Below.setCell ?_ (by first | exact Nat.le_refl _ | (simp <;> omega)) _)))).mono ?_
    rintro e w3 ⟨x, rfl, hx, hS3⟩
    have hg3 : w2.grownBy w3 (some p) := grown_tr (below_grown (by repeat (first | exact Below.refl _ _ | refine Below.alloc ?_ (by first | exact Nat.le_refl _ | (simp <;> omega)) _ | refine Below.setCell ?_ (by first | exact Nat.le_refl _ | (simp <;> omega)) _)) _) hS3.2
    replace hC := hS3.1
    have sz3 := hg3.size
    replace HG := grown_tr HG hg3
    go_wp2
    go_ret
    exact ⟨x, rfl, by omega, grown_below HG (Nat.le_refl _) (fun k hk => by cases hk; omega)⟩
set_option maxHeartbeats 400000 in
set_option maxRecDepth 100000 in
theorem drawParseReport_is (A : Option Addr) (c : Nat) (cs : List UInt8) (hcs : cs.length ≤ 1048576) (w : World) (hR : Rds 1 u8C w A cs) :
  Calls Tryz.prog 18 #[.slice A cs.length c] w fun e w' => ∃ s : ByteArray, e = .returned (.string s) ∧ s.size ≤ 10000 ∧ Below w.heap.size w w' := by
  go_enter Tryz.func18, Tryz.ntmps18
  go_upto_region 2 with fail
  have hlt : ∀ ad, A = some ad → 0 < cs.length → ad.block < w.heap.size := fun ad h h0 => by
    obtain ⟨b, off, h1, h2, _⟩ := hR h0
    rw [h1] at h; cases h; exact h2
  have hP := Blk.new w 65 #[.slice A cs.length c, .int .i64 0, .int .u64 0]
  have HB : Below w.heap.size w (w.alloc (.cells #[.slice A cs.length c, .int .i64 0, .int .u64 0] 65)) := bl1 w _
  generalize (w.alloc (.cells #[.slice A cs.length c, .int .i64 0, .int .u64 0] 65)) = wA at *
  have hC : Cur wA w.heap.size A c cs 0 := ⟨⟨0, 0, hP, by decide, by decide⟩, hR.below HB, fun ad h h0 => by have := hlt ad h h0; omega⟩
  have hPl := hP.lt
  obtain ⟨p, hpe⟩ : ∃ p, p = w.heap.size := ⟨_, rfl⟩
  rw [← hpe] at hC hPl
  obtain ⟨n0, hn0⟩ : ∃ n : Nat, n ≤ 0 := ⟨0, Nat.le_refl _⟩
  replace hC : Cur wA p A c cs n0 := hC.mono (Nat.zero_le _)
  simp only [← hpe]
  have hp := hC.lt
  have HG := grown_refl w (some p)
  replace HG : w.grownBy wA (some p) := below_grown HB _
  have szw : w.heap.size ≤ wA.heap.size := HB.size
  have hwp : w.heap.size ≤ p := by omega
  clear hR hlt hP HB
  go_wp2_with fail
  rw [← hpe]
  clear hpe
  refine (report_is p A c cs hcs n0 (by omega) _ hC).mono ?_
  rintro e wO ⟨xs, Y, yc, rfl, hl, hO, hSO⟩
  replace HG := grown_tr HG hSO.2
  replace hC := hSO.1
  have RX := hO.rds (hf := res_len)
  clear hO
  obtain ⟨s, b, hs, hsz⟩ := rtOut_small xs
  go_wp2_with fail
  refine (sReportText_is Y yc xs (by omega) _ hs _ RX).mono ?_
  rintro e w1 ⟨rfl, hS1⟩
  have hb1 : Below wO.heap.size wO w1 := bth (by repeat (first | exact Below.refl _ _ | refine Below.alloc ?_ (by first | exact Nat.le_refl _ | (simp <;> omega)) _ | refine Below.setCell ?_ (by first | exact Nat.le_refl _ | (simp <;> omega)) _)) hS1
  have hg1 : wO.grownBy w1 (some p) := below_grown hb1 _
  replace hC := hC.later hb1
  have sz1 := hg1.size
  replace HG := grown_tr HG hg1
  clear RX
  go_wp2_with fail
  refine (one_is 4 p A c cs hcs (n0 + 400) (by omega) (by omega) _ (hC.later (by repeat (first | exact Below.refl _ _ | refine Below.alloc ?_ (by first | exact Nat.le_refl _ | (simp <;> omega)) _ | refine Below.setCell ?_ (by first | exact Nat.le_refl _ | (simp <;> omega)) _)))).mono ?_
  rintro e w2 ⟨b, rfl, hS2⟩
  have hg2 : w1.grownBy w2 (some p) := grown_tr (below_grown (by repeat (first | exact Below.refl _ _ | refine Below.alloc ?_ (by first | exact Nat.le_refl _ | (simp <;> omega)) _ | refine Below.setCell ?_ (by first | exact Nat.le_refl _ | (simp <;> omega)) _)) _) hS2.2
  replace hC := hS2.1
  have sz2 := hg2.size
  replace HG := grown_tr HG hg2
  cases b
  · go_wp2
    go_ret
    exact ⟨s, rfl, by omega, grown_below HG (Nat.le_refl _) (fun k hk => by cases hk; omega)⟩
  · go_wp2_with fail
    refine (spoilt_is s (⟨#[48, 44, 32, 58, 10, 97]⟩ : ByteArray) (by omega) (by decide) (by decide) p A c cs hcs (n0 + 400 + 2) (by omega) _ (hC.later (by repeat (first | exact Below.refl _ _ | refine Below.alloc ?_ (by first | exact Nat.le_refl _ | (simp <;> omega)) _ | refine Below.setCell ?_ (by first | exact Nat.le_refl _ | (simp <;> omega)) _)))).mono ?_
    rintro e w3 ⟨x, rfl, hx, hS3⟩
    have hg3 : w2.grownBy w3 (some p) := grown_tr (below_grown (by repeat (first | exact Below.refl _ _ | refine Below.alloc ?_ (by first | exact Nat.le_refl _ | (simp <;> omega)) _ | refine Below.setCell ?_ (by first | exact Nat.le_refl _ | (simp <;> omega)) _)) _) hS3.2
    replace hC := hS3.1
    have sz3 := hg3.size
    replace HG := grown_tr HG hg3
    go_wp2
    go_ret
    exact ⟨x, rfl, by omega, grown_below HG (Nat.le_refl _) (fun k hk => by cases hk; omega)⟩
end Go.Proofs.YtbnncgahepcfnaaGreatDoor
/- What the inputs of the laws read as: the reader of each struct, over this program. -/
namespace Go.Proofs.YtbnncgahepcfnaaGreatDoor
open Go.ChangeShapes Go.WideShapes Go.ChangeAt Go.RowKit Go.Deep Go.G9
theorem prog_own : ownKnob Tryz.prog.godebug = none := by kernel_rfl
theorem prog_laid : laidOutB Tryz.prog = true := by kernel_rfl
theorem cells_int : Tryz.prog.cellsOf 3 = 1 := by kernel_rfl
theorem cells_string : Tryz.prog.cellsOf 9 = 1 := by kernel_rfl
theorem cells_bool : Tryz.prog.cellsOf 4 = 1 := by kernel_rfl
section
variable {H : Type} {enc : TypeId × Value → H} {w : World} {base : Nat} {sp : Nat → Bool} {hd : Bool} {fuel : Nat} {cs : List Value} {x : DataW H × List MemPlace}
theorem rd_Int (h : DataW.trod enc Tryz.prog w base sp hd fuel 3 cs = some x) : ∃ y : Int, cs = intC y := by
  obtain ⟨n, rfl, _, _⟩ := DataW.trod_int Tryz.underlying3 h
  exact ⟨n, rfl⟩
end
end Go.Proofs.YtbnncgahepcfnaaGreatDoor
/- Bytes that come in. -/
namespace Go.Proofs.YtbnncgahepcfnaaGreatDoor
open Go.RowKit Go.G9 Go.ChangeShapes Go.WideShapes Go.ChangeAt
variable {H : Type} {enc : TypeId × Value → H} {w : World} {base fuel : Nat} {sp : Nat → Bool} {hd : Bool} {cs : List Value} {x : DataW H × List MemPlace}
theorem cells_u8 : Tryz.prog.cellsOf 5 = 1 := by kernel_rfl
theorem rd_u8 (h : DataW.trod enc Tryz.prog w base sp hd fuel 5 cs = some x) : ∃ y : UInt8, cs = u8C y := by
  obtain ⟨n, rfl, h1, h2⟩ := DataW.trod_int Tryz.underlying5 h
  unfold Lit.wf at h2
  rw [Bool.and_eq_true, decide_eq_true_eq, decide_eq_true_eq] at h2
  have m1 : IntKind.u8.min = 0 := by decide
  have m2 : IntKind.u8.max = 255 := by decide
  have h3 : 0 ≤ n ∧ n ≤ 255 := by
    rw [m1, m2] at h2
    omega
  refine ⟨UInt8.ofNat n.toNat, ?_⟩
  show [Value.int .u8 n] = [Value.int .u8 ((UInt8.ofNat n.toNat).toNat : Int)]
  have e : ((UInt8.ofNat n.toNat).toNat : Int) = n := by
    rw [UInt8.toNat_ofNat']
    omega
  rw [e]
end Go.Proofs.YtbnncgahepcfnaaGreatDoor
