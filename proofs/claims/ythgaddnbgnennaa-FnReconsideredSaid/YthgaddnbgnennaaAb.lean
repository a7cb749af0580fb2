/- Decided questions: who was absent, by the program. -/
import Derived.Test.YthgaddnbgnennaaAbP
import Derived.Test.YthgaddnbgnennaaSrt
import Derived.Test.YthgaddnbgnennaaMkr
import Derived.Lib.AppendZeros
import Derived.Deep.Cut
namespace Go.Proofs.Ythgaddnbgnennaa
open Go.RowKit Go.G9 Go.Sort
set_option maxHeartbeats 1000000 in
set_option maxRecDepth 100000 in
theorem growI_is (n : Nat) (hn : n ≤ 1048576) (w : World) : Calls Try.prog 97 #[.slice none 0 0, .int .i64 n] w fun e w' => ∃ A c, e = .returned (.slice A 0 c) ∧ OwnV w.heap.size 3 1 intC w' (.slice A 0 c) ([] : List Int) ∧ Below w.heap.size w w' := by
  obtain ⟨i0, hi, hz0, hz1, hz2⟩ := info_parts info_int
  rcases Nat.eq_zero_or_pos n with h0 | h0
  · subst h0
    go_enter Try.func97, Try.ntmps97
    go_wp2
    go_ret
    exact ⟨none, 0, rfl, OwnV.nil, Below.refl _ _⟩
  · have hr := fun ty => Lib.run_append_nil_zeros (P := Try.prog) w 22 3 ty 3 i0 (.int .i64 0) .i64 .i64 Try.underlying22 Try.underlying3 hi hz0 n h0 (by omega) (by omega) (by rw [hz2]; omega)
    have hge := grownCap_ge w n 0 3
    have hcm := grownCap_le_maxLen w n 0 3 (by unfold maxLen; omega)
    have h0' : (0 : Int) < n := by omega
    generalize grownCap w n 0 3 = cap at *
    go_enter Try.func97, Try.ntmps97
    go_wp2_with (at_builtin; refine Lib.wpList_append_run _ rfl _ _ _ _ rfl _ _ rfl rfl _ _ (hr _) ?_)
    go_ret
    refine ⟨_, _, rfl, ⟨rfl, .inr ⟨w.heap.size, cap, _, rfl, Nat.le_refl _, Blk.new w.drew _ _, Nat.zero_le _, hcm, ?_, by simp⟩⟩, ⟨rfl, rfl, rfl, by simp, fun k hk => (bl1 w.drew _).block k hk⟩⟩
    simp only [Array.size_append, size_zeroCells]
    show n * 1 + (cap - n) * 1 = cap * 1
    omega
def catTo (ys ns : List Int) : Nat → List Int
  | 0 => []
  | 1 => []
  | 2 => ys
  | _ => ys ++ ns
def szTo (ys ns : List Int) : Nat → Nat
  | 0 => 0
  | 1 => 0
  | 2 => ys.length
  | _ => ys.length + ns.length
set_option maxHeartbeats 2000000 in
set_option maxRecDepth 100000 in
theorem concat3_is (g : Nat) (g0 : Nat) (Y N : Option Addr) (yc nc : Nat) (ys ns : List Int) (hy : ys.length ≤ 100) (hn : ns.length ≤ 100) (w : World) (hB : Blk w g 22 #[.slice (some ⟨g0, 0, none⟩) 0 0, .slice Y ys.length yc, .slice N ns.length nc])
    (hRy : Rds 1 intC w Y ys) (hRn : Rds 1 intC w N ns) (hYn : Y = none → ys = [] ∧ yc = 0) (hNn : N = none → ns = [] ∧ nc = 0) :
  Calls Try.prog 80 #[.slice (some ⟨g, 0, none⟩) 3 3] w fun e w' => ∃ A c, e = .returned (.slice A (ys ++ ns).length c) ∧ OwnV w.heap.size 3 1 intC w' (.slice A (ys ++ ns).length c) (ys ++ ns) ∧ Below w.heap.size w w' := by
  obtain ⟨i0, hi, hz0, hz1, hz2⟩ := info_parts info_int
  have hlg := hB.lt
  have x0 := (hB.cell 0).trans (show _ = some (.slice (some ⟨g0, 0, none⟩) 0 0) from rfl)
  have x1 := (hB.cell 1).trans (show _ = some (.slice Y ys.length yc) from rfl)
  have x2 := (hB.cell 2).trans (show _ = some (.slice N ns.length nc) from rfl)
  go_enter Try.func80, Try.ntmps80
  go_wp2
  go_loop [3, 5, 11] (fun s _ i => ∃ k : Nat, k ≤ 3 ∧ i = .int .i64 k ∧ s = .int .i64 (szTo ys ns k : Nat)) (fun _ _ i => 3 - (intOf i).toNat)
  case atStart => exact ⟨0, by omega, rfl, rfl⟩
  case round =>
    obtain ⟨k, hk, rfl, rfl⟩ := hrel
    rcases (show k = 0 ∨ k = 1 ∨ k = 2 ∨ k = 3 by omega) with rfl | rfl | rfl | rfl
    · simp only [szTo]
      go_wp2
      go_round
      case rel => exact ⟨1, by omega, rfl, rfl⟩
      case measure => simp [intOf]
    · simp only [szTo]
      go_wp2
      go_round
      case rel => exact ⟨2, by omega, rfl, by simp [szTo]⟩
      case measure => simp [intOf]
    · simp only [szTo]
      go_wp2
      go_round
      case rel => exact ⟨3, by omega, rfl, by simp [szTo]⟩
      case measure => simp [intOf]
    · simp only [szTo]
      clear x0 x1 x2
      go_wp2_with fail
      refine (growI_is (ys.length + ns.length) (by omega) w).mono ?_
      rintro e w1 ⟨A1, c1, rfl, hO1, hb1⟩
      have hB1 := hB.below hb1 hlg
      have x0 := (hB1.cell 0).trans (show _ = some (.slice (some ⟨g0, 0, none⟩) 0 0) from rfl)
      go_wp2
      go_loopw [6, 8, 27] (fun v _ i wr => ∃ k : Nat, k ≤ 3 ∧ i = .int .i64 k ∧ OwnV w.heap.size 3 1 intC wr v (catTo ys ns k) ∧ Below w.heap.size w wr) (fun _ _ i _ => 3 - (intOf i).toNat)
      case atStart => exact ⟨0, by omega, rfl, hO1, hb1⟩
      case round =>
        clear x0 hO1 hb1 hB1
        obtain ⟨k, hk, rfl, hO, hb⟩ := hrel
        have hB2 := hB.below hb hlg
        have z1 := hb.size
        have x0 := (hB2.cell 0).trans (show _ = some (.slice (some ⟨g0, 0, none⟩) 0 0) from rfl)
        have x1 := (hB2.cell 1).trans (show _ = some (.slice Y ys.length yc) from rfl)
        have x2 := (hB2.cell 2).trans (show _ = some (.slice N ns.length nc) from rfl)
        have HO := Lib.hid hO; clear hO
        rcases (show k = 0 ∨ k = 1 ∨ k = 2 ∨ k = 3 by omega) with rfl | rfl | rfl | rfl
        · go_wp2_with ((at_builtin; refine wpList_app rfl _ _ 22 rfl w.heap.size 3 i0 _ 1 8 Try.underlying22 hi hz0 hz1 hz2 rfl (by decide) intC intC_len intC_one _ ([] : List Int) rfl HO.out (some ⟨g0, 0, none⟩) 0 ([] : List Int) rfl Rds.nil (fun h => by cases h) (by unfold maxLen; simp) (by simp) (by omega) ?_; intro v' w4 hO4 hg4))
          go_roundw
          case rel => exact ⟨1, by omega, rfl, hO4, hb.grown hg4 (by omega) (fun q hq => (HO.out.lt q hq).1)⟩
          case measure => simp [intOf]
        · go_wp2_with ((at_builtin; refine wpList_app rfl _ _ 22 rfl w.heap.size 3 i0 _ 1 8 Try.underlying22 hi hz0 hz1 hz2 rfl (by decide) intC intC_len intC_one _ ([] : List Int) rfl HO.out Y yc ys rfl (hRy.below hb) hYn (by unfold maxLen; simp; omega) (by simp; omega) (by omega) ?_; intro v' w4 hO4 hg4))
          go_roundw
          case rel => exact ⟨2, by omega, rfl, hO4, hb.grown hg4 (by omega) (fun q hq => (HO.out.lt q hq).1)⟩
          case measure => simp [intOf]
        · go_wp2_with ((at_builtin; refine wpList_app rfl _ _ 22 rfl w.heap.size 3 i0 _ 1 8 Try.underlying22 hi hz0 hz1 hz2 rfl (by decide) intC intC_len intC_one _ ys rfl HO.out N nc ns rfl (hRn.below hb) hNn (by unfold maxLen; omega) (by omega) (by omega) ?_; intro v' w4 hO4 hg4))
          go_roundw
          case rel => exact ⟨3, by omega, rfl, hO4, hb.grown hg4 (by omega) (fun q hq => (HO.out.lt q hq).1)⟩
          case measure => simp [intOf]
        · obtain ⟨A, c, rfl, hl, _, _⟩ := HO.out.form intC_len
          go_wp2
          go_ret
          exact ⟨A, c, rfl, HO.out, hb⟩
end Go.Proofs.Ythgaddnbgnennaa
