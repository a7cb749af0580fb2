/- Ordered outcomes: the program's own function. -/
import Derived.Test.YtbnncgahepcfnaaDoorOoI
import Derived.Deep.RegionWith
import Derived.Deep.Cut
namespace Go.Proofs.YtbnncgahepcfnaaDoor
open Go.RowKit Go.G9
theorem own_some {T : Type} {B sz : Nat} {f : T → List Value} {e : TypeId} {w : World} {v : Value} {xs : List T} (hO : OwnV B e sz f w v xs) (hn : 0 < xs.length) : ∃ g cap, v = .slice (some ⟨g, 0, none⟩) xs.length cap ∧ B ≤ g := by
  rcases hO.2 with ⟨_, h0⟩ | ⟨g, cap, cur, hv, hB, _⟩
  · omega
  · exact ⟨g, cap, hv, hB⟩
theorem rg_succ (k : Nat) : rg (k + 1) = rg k ++ [(k : Int)] := by simp [rg, List.range_succ]
set_option maxHeartbeats 2000000 in
set_option maxRecDepth 100000 in
theorem upTo_is (n : Nat) (hn : n ≤ 1000) (w : World) :
  Calls Tryd.prog 57 #[.int .i64 n] w fun e w' => ∃ g c, e = .returned (.slice (some ⟨g, 0, none⟩) n c) ∧ w.heap.size ≤ g ∧ OwnV w.heap.size 3 1 intC w' (.slice (some ⟨g, 0, none⟩) n c) (rg n) ∧ Below w.heap.size w w' := by
  obtain ⟨i0, hi, hz0, hz1, hz2⟩ := info_parts info_int
  go_enter Tryd.func57, Tryd.ntmps57
  go_wp2
  go_loopw [3, 7] (fun v i wr => ∃ k g c : Nat, k ≤ n ∧ i = .int .i64 k ∧ v = .slice (some ⟨g, 0, none⟩) k c ∧ w.heap.size ≤ g ∧ OwnV w.heap.size 3 1 intC wr (.slice (some ⟨g, 0, none⟩) k c) (rg k) ∧ Below w.heap.size w wr) (fun _ i _ => n - (intOf i).toNat)
  case atStart => exact ⟨0, _, _, Nat.zero_le _, rfl, rfl, Nat.le_refl _, OwnV.made w (Nat.le_refl _) _, bl1 _ _⟩
  case round =>
    obtain ⟨k, g, c, hk, rfl, rfl, hg, hO, hb⟩ := hrel
    have HO := Lib.hid hO; clear hO
    have z1 := hb.size
    have hrl := rg_len k
    by_cases hlt : k < n
    · go_wp2_with ((at_builtin; refine wpList_app rfl _ _ 44 rfl w.heap.size 3 i0 _ 1 8 Tryd.underlying44 hi hz0 hz1 hz2 rfl (by decide) intC intC_len intC_one _ (rg k) rfl (HO.out.alloc _) (some ⟨wr.heap.size, 0, none⟩) 1 [(k : Int)] rfl (Rds.one _ _) (fun h => by cases h) (by unfold maxLen; simp; omega) (by simp; omega) (by simp; omega) ?_; intro v' w4 hO4 hg4))
      have hB4 : Below w.heap.size w w4 := (hb.alloc (by omega) _).grown hg4 (by simp; omega) (fun q hq => (HO.out.lt q hq).1)
      rw [← rg_succ] at hO4
      obtain ⟨g4, c4, rfl, hg5⟩ := own_some hO4 (by rw [rg_len]; omega)
      rw [rg_len] at hO4
      have hrl2 := rg_len (k + 1)
      go_roundw
      case rel => exact ⟨k + 1, g4, c4, by omega, by go_num, by rw [rg_len], hg5, hO4, hB4⟩
      case measure => simp [intOf]; omega
    · obtain rfl : k = n := by omega
      go_wp2
      go_ret
      exact ⟨g, c, rfl, hg, HO.out, hb⟩
set_option maxHeartbeats 2000000 in
set_option maxRecDepth 100000 in
theorem iOrder_is (A : Option Addr) (c : Nat) (xs : List Res) (hn : xs.length ≤ 1048576) (w : World) (hR : Rds 5 Res.cells w A xs) :
  Calls Tryd.prog 23 #[.slice A xs.length c] w fun e w' => ∃ A c, e = .returned (.tuple #[.slice A (ooL xs).length c, .bool (reportB xs)]) ∧ OwnV w.heap.size 3 1 intC w' (.slice A (ooL xs).length c) (ooL xs) ∧ Below w.heap.size w w' := by
  have hlt : ∀ ad, A = some ad → 0 < xs.length → ad.block < w.heap.size := fun ad h h0 => by
    obtain ⟨b, off, h1, h2, _⟩ := hR h0
    rw [h1] at h; cases h; exact h2
  cases hr : reportB xs
  · have h2 : ooL xs = [] := by simp [ooL, hr]
    rw [h2]
    have HR := Lib.hid hr
    go_enter Tryd.func23, Tryd.ntmps23
    go_wp2_with fail
    refine (isReport_is A c xs hn _ HR.out _ (hR.below (bl1 _ _))).mono ?_
    rintro e w1 ⟨rfl, hb1⟩
    go_wp2
    go_ret2
    exact ⟨none, 0, rfl, OwnV.nil, bth (bl1 _ _) hb1⟩
  · have h2 : ooL xs = oo xs xs.length := by simp [ooL, hr]
    have H2 := Lib.hid h2; clear h2
    have hl := reportB_len hr
    have HR := Lib.hid hr; have HLT := Lib.hid hlt; have HRD := Lib.hid hR
    clear hr hlt hR
    go_enter Tryd.func23, Tryd.ntmps23
    go_wp2_with fail
    refine (isReport_is A c xs hn _ HR.out _ (HRD.out.below (bl1 _ _))).mono ?_
    rintro e w1 ⟨rfl, hb1⟩
    have hX := (Blk.new w 37 #[.slice A xs.length c]).below hb1 (by simp)
    have hB1 := bth (bl1 w _) hb1
    have x0 := (hX.cell 0).trans (show _ = some (.slice A xs.length c) from rfl)
    go_wp2_with fail
    refine (upTo_is xs.length (by omega) _).mono ?_
    rintro e w2 ⟨g, c2, rfl, hg2, hO2, hb2⟩
    have hX2 := hX.below hb2 hX.lt
    have hB2 := bth hB1 hb2
    have hXl := hX.lt
    have x2 : w2.cell? ⟨w.heap.size, 0, none⟩ = some (.slice A xs.length c) := (hX2.cell 0).trans rfl
    have HC := Lib.hid (sortStable_is w.heap.size A c xs HR.out w1.heap.size g c2 w2 hg2 hb2.size hXl (fun ad h h0 => by have := HLT.out ad h h0; have := hB1.size; omega) hO2 x2 (HRD.out.below hB2))
    have hlo : (oo xs xs.length).length = xs.length := oo_len xs _ (Nat.le_refl _)
    have HOL := Lib.hid hlo
    clear hO2 x0 x2 hlo
    have x0 := (hX2.cell 0).trans (show _ = some (Value.slice A xs.length c) from rfl)
    go_wp2_with fail
    refine HC.out.mono ?_
    rintro e w3 ⟨rfl, hO3, hg3⟩
    go_wp2
    go_ret2
    rw [H2.out, HOL.out]
    exact ⟨some ⟨g, 0, none⟩, c2, rfl, hO3.base hB1.size, hB2.grown hg3 hB2.size (fun q hq => by have := Option.some.inj hq; have := hB1.size; omega)⟩
end Go.Proofs.YtbnncgahepcfnaaDoor
