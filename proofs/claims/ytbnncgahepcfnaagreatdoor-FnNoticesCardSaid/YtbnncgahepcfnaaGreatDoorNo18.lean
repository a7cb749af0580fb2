/- A report drawn by the cursor. -/
import Derived.Test.YtbnncgahepcfnaaGreatDoorNo17
import Derived.Test.YtbnncgahepcfnaaGreatDoorNo16
import Derived.Test.YtbnncgahepcfnaaGreatDoorNo10
namespace Go.G9
open Go.RowKit
/-- A slice of the call's own, read: its blocks lie from lo on. -/
structure SegR (lo hi : Nat) {T : Type} (sz : Nat) (f : T → List Value) (w : World) (A : Option Addr) (c : Nat) (xs : List T) : Prop where
  rds : Rds sz f w A xs
  nil : A = none → xs = [] ∧ c = 0
  rng : ∀ ad, A = some ad → 0 < xs.length → lo ≤ ad.block ∧ ad.block < hi
end Go.G9
namespace Go.Proofs.YtbnncgahepcfnaaGreatDoor
open Go.RowKit Go.G9
def lenOf : Value → Nat
  | .slice _ n _ => n
  | _ => 0
theorem res_one (x : Res) : ∀ u ∈ Res.cells x, u.oneCell' = true := by
  intro u hu
  simp only [Res.cells, List.mem_cons, List.not_mem_nil, or_false] at hu
  rcases hu with rfl | rfl | rfl | rfl | rfl <;> rfl
theorem res_len (x : Res) : (Res.cells x).length = 5 := rfl
theorem rds_oneR (w : World) (m : ByteArray) (nd y n ab : Int) (hm : m.size ≤ maxLen) (e : TypeId) : Rds 5 Res.cells (w.alloc (.cells #[.string m, .int .i64 nd, .int .i64 y, .int .i64 n, .int .i64 ab] e)) (some ⟨w.heap.size, 0, none⟩) [(⟨m, nd, y, n, ab, hm⟩ : Res)] := by
  have h := (OwnV.built (B := w.heap.size) (f := Res.cells) w [(⟨m, nd, y, n, ab, hm⟩ : Res)] e (Nat.le_refl _) (by simp [maxLen]) res_len).rds (hf := res_len)
  simpa [Res.cells] using h
set_option maxHeartbeats 4000000 in
set_option maxRecDepth 100000 in
theorem report_is (p : Nat) (A : Option Addr) (c : Nat) (cs : List UInt8) (hcs : cs.length ≤ 1048576) (N : Nat) (hN : N ≤ 500000) (w : World) (hC : Cur w p A c cs N) :
  Calls Tryz.prog 56 #[.pointer (some ⟨p, 0, none⟩)] w fun e w' => ∃ (xs : List Res) (Y : Option Addr) (yc : Nat), e = .returned (.slice Y xs.length yc) ∧ xs.length ≤ 14 ∧ OwnV w.heap.size 27 5 Res.cells w' (.slice Y xs.length yc) xs ∧ Stepped w w' p A c cs (N + 400) := by
  obtain ⟨i0, hi, hz0, hz1, hz2⟩ := info_parts info_Res
  go_enter Tryz.func56, Tryz.ntmps56
  have hp := hC.lt
  have HG := grown_refl w (some p)
  have hO0 : OwnV w.heap.size 27 5 Res.cells (w.alloc (.cells #[] 27)) (.slice (some ⟨w.heap.size, 0, none⟩) 0 0) [] := OwnV.made w (Nat.le_refl _) _
  go_wp2_with fail
  refine (pick_is 7 p A c cs hcs N (by omega) (by omega) _ (hC.later (by repeat (first | exact Below.refl _ _ | refine Below.alloc ?_ (by first | exact Nat.le_refl _ | (simp <;> omega)) _ | refine Below.setCell ?_ (by first | exact Nat.le_refl _ | (simp <;> omega)) _)))).mono ?_
  rintro e w1 ⟨r, rfl, ⟨hr0, _, hr1⟩, hS1⟩
  have hg1 : w.grownBy w1 (some p) := grown_tr (below_grown (by repeat (first | exact Below.refl _ _ | refine Below.alloc ?_ (by first | exact Nat.le_refl _ | (simp <;> omega)) _ | refine Below.setCell ?_ (by first | exact Nat.le_refl _ | (simp <;> omega)) _)) _) hS1.2
  replace hC := hS1.1
  have sz1 := hg1.size
  replace HG := grown_tr HG hg1
  have hr2 := hr1 (by omega)
  replace hO0 := hO0.kept hS1.2 (fun k hk e => by have := (hO0.lt k hk).1; have := Option.some.inj e; omega)
  clear hr1
  obtain ⟨m0, rfl⟩ : ∃ m : Nat, r = m := ⟨r.toNat, by omega⟩
  go_wp2
  go_loopw [3, 4] (fun y i wr => ∃ (m : Nat) (xs : List Res), i = .int .i64 (m : Int) ∧ xs.length + m ≤ 6 ∧ OwnV w.heap.size 27 5 Res.cells wr y xs ∧ Cur wr p A c cs (N + 2 + 20 * (6 - m)) ∧ w.grownBy wr (some p)) (fun _ i _ => (intOf i).toNat)
  case atStart => exact ⟨m0, [], rfl, by first | omega | (simp; omega), hO0, hC.mono (by omega), HG⟩
  case round =>
    clear hC hO0 HG
    obtain ⟨m, xs, rfl, hm, hO, hC, HG⟩ := hrel
    by_cases hlt : 0 < m
    · have hmm : (m : Int) - 1 = ((m - 1 : Nat) : Int) := by omega
      go_wp2_with fail
      refine (outcome_is p A c cs hcs (N + 2 + 20 * (6 - m)) (by omega) _ (hC.later (by repeat (first | exact Below.refl _ _ | refine Below.alloc ?_ (by first | exact Nat.le_refl _ | (simp <;> omega)) _ | refine Below.setCell ?_ (by first | exact Nat.le_refl _ | (simp <;> omega)) _)))).mono ?_
      rintro e w2 ⟨mo, nd, yy, nn, ab, rfl, hmz, _, _, _, _, hS2⟩
      have hg2 : wr.grownBy w2 (some p) := grown_tr (below_grown (by repeat (first | exact Below.refl _ _ | refine Below.alloc ?_ (by first | exact Nat.le_refl _ | (simp <;> omega)) _ | refine Below.setCell ?_ (by first | exact Nat.le_refl _ | (simp <;> omega)) _)) _) hS2.2
      replace hC := hS2.1
      have sz2 := hg2.size
      replace HG := grown_tr HG hg2
      replace hO := hO.kept hS2.2 (fun k hk e => by have := (hO.lt k hk).1; have := Option.some.inj e; omega)
      have hml : mo.size ≤ maxLen := by unfold maxLen; omega
      go_wp2_with ((at_builtin; refine wpList_app1 rfl _ _ 34 rfl w.heap.size 27 i0 _ 5 48 Tryz.underlying34 hi hz0 hz1 hz2 rfl (by decide) Res.cells res_len res_one _ xs rfl (hO.alloc _) ⟨w2.heap.size, 0, none⟩ 1 ⟨mo, nd, yy, nn, ab, hml⟩ rfl (rds_oneR _ _ _ _ _ _ _ _) (by unfold maxLen; omega) (by omega) (by have := HG.size; simp; omega) ?_; intro v4 w4 hO4 hg4 ha4))
      have hC4 := (hC.later (bl1 _ _)).row hg4 (fun k hk => by have := (hO.lt k hk).1; omega)
      have HG4 := grown_row2 (grown_tr HG (below_grown (bl1 _ _) _)) hg4 (fun k hk => (hO.lt k hk).1)
      go_roundw
      case rel => exact ⟨m - 1, _, by rw [← hmm], by simp; omega, hO4, hC4.mono (by omega), HG4⟩
      case measure => simp [intOf]; omega
    · obtain rfl : m = 0 := by omega
      go_wp2_with fail
      refine (one_is 24 p A c cs hcs (N + 2 + 20 * (6 - 0)) (by omega) (by omega) _ (hC.later (by repeat (first | exact Below.refl _ _ | refine Below.alloc ?_ (by first | exact Nat.le_refl _ | (simp <;> omega)) _ | refine Below.setCell ?_ (by first | exact Nat.le_refl _ | (simp <;> omega)) _)))).mono ?_
      rintro e w3 ⟨b, rfl, hS3⟩
      have hg3 : wr.grownBy w3 (some p) := grown_tr (below_grown (by repeat (first | exact Below.refl _ _ | refine Below.alloc ?_ (by first | exact Nat.le_refl _ | (simp <;> omega)) _ | refine Below.setCell ?_ (by first | exact Nat.le_refl _ | (simp <;> omega)) _)) _) hS3.2
      replace hC := hS3.1
      have sz3 := hg3.size
      replace HG := grown_tr HG hg3
      replace hO := hO.kept hS3.2 (fun k hk e => by have := (hO.lt k hk).1; have := Option.some.inj e; omega)
      cases b
      · obtain ⟨Y, yc, rfl, _, _, _⟩ := hO.form res_len
        go_wp2
        go_ret
        exact ⟨xs, Y, yc, rfl, by omega, hO, hC.mono (by omega), HG⟩
      · go_wp2
        go_loopw [3] (fun y wq => ∃ (xs : List Res), xs.length ≤ 13 ∧ OwnV w.heap.size 27 5 Res.cells wq y xs ∧ Cur wq p A c cs (N + 130 + 2 * xs.length) ∧ w.grownBy wq (some p)) (fun y _ => 20 - lenOf y)
        case atStart => exact ⟨xs, by omega, hO, hC.mono (by omega), HG⟩
        case round =>
          clear hC hO HG hm
          obtain ⟨xs, hm, hO, hC, HG⟩ := hrel
          obtain ⟨Y, yc, rfl, _, _, _⟩ := hO.form res_len
          go_wp2_with fail
          refine (pick_is 2 p A c cs hcs (N + 130 + 2 * xs.length) (by omega) (by omega) _ (hC.later (by repeat (first | exact Below.refl _ _ | refine Below.alloc ?_ (by first | exact Nat.le_refl _ | (simp <;> omega)) _ | refine Below.setCell ?_ (by first | exact Nat.le_refl _ | (simp <;> omega)) _)))).mono ?_
          rintro e w4 ⟨r, rfl, ⟨hr0, _, hr1⟩, hS4⟩
          have hg4 : wr.grownBy w4 (some p) := grown_tr (below_grown (by repeat (first | exact Below.refl _ _ | refine Below.alloc ?_ (by first | exact Nat.le_refl _ | (simp <;> omega)) _ | refine Below.setCell ?_ (by first | exact Nat.le_refl _ | (simp <;> omega)) _)) _) hS4.2
          replace hC := hS4.1
          have sz4 := hg4.size
          replace HG := grown_tr HG hg4
          have hr2 := hr1 (by omega)
          clear hr1
          replace hO := hO.kept hS4.2 (fun k hk e => by have := (hO.lt k hk).1; have := Option.some.inj e; omega)
          by_cases hlt : (xs.length : Int) < 12 + r
          · have hml : ((⟨#[120]⟩ : ByteArray) : ByteArray).size ≤ maxLen := by decide
            go_wp2_with ((at_builtin; refine wpList_app1 rfl _ _ 34 rfl w.heap.size 27 i0 _ 5 48 Tryz.underlying34 hi hz0 hz1 hz2 rfl (by decide) Res.cells res_len res_one _ xs rfl (hO.alloc _) ⟨w4.heap.size, 0, none⟩ 1 ⟨(⟨#[120]⟩ : ByteArray), 1, 0, 0, 0, hml⟩ rfl (rds_oneR _ _ _ _ _ _ _ _) (by unfold maxLen; omega) (by omega) (by have := HG.size; simp; omega) ?_; intro v4 w4 hO4 hg4 ha4))
            have hC4 := (hC.later (bl1 _ _)).row hg4 (fun k hk => by have := (hO.lt k hk).1; omega)
            have HG4 := grown_row2 (grown_tr HG (below_grown (bl1 _ _) _)) hg4 (fun k hk => (hO.lt k hk).1)
            obtain ⟨Y4, yc4, rfl, _, _, _⟩ := hO4.form res_len
            go_roundw
            case rel => exact ⟨_, by simp; omega, hO4, hC4.mono (by simp; omega), HG4⟩
            case measure => simp [lenOf]; omega
          · go_wp2
            go_ret
            exact ⟨xs, Y, yc, rfl, by omega, hO, hC.mono (by omega), HG⟩
end Go.Proofs.YtbnncgahepcfnaaGreatDoor
