/- Decided questions: validity. -/
import Derived.Test.YthgaddnbgnennaaDoorInt2
import Derived.Test.YthgaddnbgnennaaDoorRes
namespace Go.Proofs.YthgaddnbgnennaaDoor
open Go.RowKit Go.G9
structure Dec where
  id : Int
  day : Int
  need : Int
  yes : List Int
  no : List Int
  done : Bool
def sidesB (ys ns : List Int) : Bool := decide (ys.length ≤ 30) && (decide (ns.length ≤ 30) && (ascB ys 1 99 && (ascB ns 1 99 && !ys.any (hasB ns))))
def decB (d : Dec) : Bool := inB d.id 1 99 && (inB d.day 0 3650 && (inB d.need 1 3 && sidesB d.yes d.no))
theorem areSidesF_is (b : Nat) (N : Option Addr) (c : Nat) (ns : List Int) (hn : ns.length ≤ 1048576) (x : Int) (v : Bool) (hv : hasB ns x = v) (w : World) (hc : w.cell? ⟨b, 0, none⟩ = some (.slice N ns.length c)) (hR : Rds 1 intC w N ns) :
  Calls Tryd.prog 69 #[.int .i64 x, .pointer (some ⟨b, 0, none⟩)] w fun e w' => e = .returned (.bool v) ∧ Below w.heap.size w w' := by
  go_enter Tryd.func69, Tryd.ntmps69
  go_wp2_with fail
  refine (contains_int N c ns x hn _ hv _ hR).mono ?_
  rintro e w' ⟨rfl, hb⟩
  go_wp2
  go_ret
  exact ⟨rfl, hb⟩
set_option maxHeartbeats 1000000 in
theorem areSides_is (Y N : Option Addr) (yc nc : Nat) (ys ns : List Int) (hy : ys.length ≤ 1048576) (hn : ns.length ≤ 1048576) (v : Bool) (hv : sidesB ys ns = v) (w : World) (hRy : Rds 1 intC w Y ys) (hRn : Rds 1 intC w N ns) :
  Calls Tryd.prog 51 #[.slice Y ys.length yc, .slice N ns.length nc] w fun e w' => e = .returned (.bool v) ∧ Below w.heap.size w w' := by
  subst hv
  by_cases h1 : ys.length ≤ 30
  · by_cases h2 : ns.length ≤ 30
    · have hRy1 := hRy.below (bl1 w (.cells #[.slice N ns.length nc] 30))
      have hRn1 := hRn.below (bl1 w (.cells #[.slice N ns.length nc] 30))
      have hcell : (w.alloc (.cells #[.slice N ns.length nc] 30)).cell? ⟨w.heap.size, 0, none⟩ = some (.slice N ns.length nc) := ((Blk.new w _ _).cell 0).trans rfl
      cases h3 : ascB ys 1 99
      · go_enter Tryd.func51, Tryd.ntmps51
        go_wp2_with fail
        refine (ascending_is Y yc ys 1 99 hy _ h3 _ hRy1).mono ?_
        rintro e w1 ⟨rfl, hb1⟩
        go_wp2
        go_ret
        exact ⟨ret_bool (by simp [sidesB, h1, h2, h3]), bth (bl1 _ _) hb1⟩
      cases h4 : ascB ns 1 99
      · go_enter Tryd.func51, Tryd.ntmps51
        go_wp2_with fail
        refine (ascending_is Y yc ys 1 99 hy _ h3 _ hRy1).mono ?_
        rintro e w1 ⟨rfl, hb1⟩
        have hcell1 := (hb1.cell (p := ⟨w.heap.size, 0, none⟩) (by simp)).trans hcell
        go_wp2_with fail
        refine (ascending_is N nc ns 1 99 hn _ h4 _ (hRn1.below hb1)).mono ?_
        rintro e w2 ⟨rfl, hb2⟩
        go_wp2
        go_ret
        exact ⟨ret_bool (by simp [sidesB, h1, h2, h3, h4]), bth (bl1 _ _) (bth hb1 hb2)⟩
      · go_enter Tryd.func51, Tryd.ntmps51
        go_wp2_with fail
        refine (ascending_is Y yc ys 1 99 hy _ h3 _ hRy1).mono ?_
        rintro e w1 ⟨rfl, hb1⟩
        have hcell1 := (hb1.cell (p := ⟨w.heap.size, 0, none⟩) (by simp)).trans hcell
        go_wp2_with fail
        refine (ascending_is N nc ns 1 99 hn _ h4 _ (hRn1.below hb1)).mono ?_
        rintro e w2 ⟨rfl, hb2⟩
        have hb12 := bth hb1 hb2
        go_wp2_with fail
        refine (containsFunc_int Y yc ys hy _ #[.pointer (some ⟨w.heap.size, 0, none⟩)] (run_enter Tryd.func69 (by kernel_rfl) (by kernel_rfl)) (hasB ns) _ rfl _ (hRy1.below hb12) (fun x _ W hW => areSidesF_is w.heap.size N nc ns hn x _ rfl W (((bth hb12 hW).cell (p := ⟨w.heap.size, 0, none⟩) (by simp)).trans hcell) (hRn1.below (bth hb12 hW)))).mono ?_
        rintro e w3 ⟨rfl, hb3⟩
        go_wp2
        go_ret
        exact ⟨ret_bool (by simp [sidesB, h1, h2, h3, h4]), bth (bl1 _ _) (bth hb12 hb3)⟩
    · go_enter Tryd.func51, Tryd.ntmps51
      go_wp2
      go_ret
      exact ⟨ret_bool (by simp [sidesB, h2]), bl1 _ _⟩
  · go_enter Tryd.func51, Tryd.ntmps51
    go_wp2
    go_ret
    exact ⟨ret_bool (by simp [sidesB, h1]), bl1 _ _⟩
set_option maxHeartbeats 1000000 in
theorem l18Lists_is (Y N : Option Addr) (yc nc : Nat) (ys ns : List Int) (hy : ys.length ≤ 1048576) (hn : ns.length ≤ 1048576) (v : Bool) (hv : sidesB ys ns = v) (w : World) (hRy : Rds 1 intC w Y ys) (hRn : Rds 1 intC w N ns) :
  Calls Tryd.prog 64 #[.slice Y ys.length yc, .slice N ns.length nc] w fun e w' => e = .returned (.bool v) ∧ Below w.heap.size w w' := by
  subst hv
  go_enter Tryd.func64, Tryd.ntmps64
  go_wp2
  go_loopw [5] (fun i wr => ∃ k : Nat, k ≤ ys.length ∧ k ≤ 31 ∧ i = .int .i64 k ∧ allTo (fun i => !atB (hasB ns) ys i) k = true ∧ Below w.heap.size w wr) (fun i _ => ys.length - (intOf i).toNat)
  case atStart => exact ⟨0, Nat.zero_le _, by omega, rfl, rfl, Below.refl _ _⟩
  case round =>
    obtain ⟨k, hk, hk31, rfl, hl, hb⟩ := hrel
    have HL := Lib.hid hl; clear hl
    by_cases hlt : k < ys.length ∧ k < 31
    · obtain ⟨hlt, hlt2⟩ := hlt
      obtain ⟨b, off, x, rfl, hbl, hx, hcx⟩ := hRy.at_ hb hlt
      have f0 := hcx 0 _ rfl
      simp only [Nat.mul_one, Nat.add_zero] at f0
      have g0 := f0 (Kin.self _)
      simp only [Kin.self] at g0
      have HX := Lib.hid hx; clear hx hcx
      cases hv : hasB ns x
      · go_wp2_with fail
        refine (l1Has_is N nc ns x hn _ hv _ (hRn.below hb)).mono ?_
        rintro e w1 ⟨rfl, hb1⟩
        go_wp2
        go_roundw
        case rel => exact ⟨k + 1, by omega, by omega, by go_num, allTo_go HL.out (by simp [atB, HX.out, hv]), bth hb hb1⟩
        case measure => simp [intOf]; omega
      · go_wp2_with fail
        refine (l1Has_is N nc ns x hn _ hv _ (hRn.below hb)).mono ?_
        rintro e w1 ⟨rfl, hb1⟩
        go_wp2
        go_ret
        exact ⟨ret_bool (by simp only [sidesB, List.any_eq_true.2 ⟨x, List.mem_of_getElem? HX.out, hv⟩]; simp), bth hb hb1⟩
    · have hf : ys.length ≤ 30 → ys.any (hasB ns) = false := fun h => by
        have hk' : k = ys.length := by omega
        have := HL.out
        rw [hk'] at this
        rw [← idxB_ge, idxB_none this]; rfl
      have HF := Lib.hid hf; clear hf
      by_cases hlt1 : k < ys.length
      · have h1 : ¬ ys.length ≤ 30 := by omega
        cases h3 : ascB ys 1 99
        · go_wp2_with fail
          refine (l1Rising_is Y yc ys 1 99 hy _ h3 _ (hRy.below hb)).mono ?_
          rintro e w1 ⟨rfl, hb1⟩
          go_wp2
          go_ret
          exact ⟨ret_bool (by simp [sidesB, h3]), bth hb hb1⟩
        · cases h4 : ascB ns 1 99
          · go_wp2_with fail
            refine (l1Rising_is Y yc ys 1 99 hy _ h3 _ (hRy.below hb)).mono ?_
            rintro e w1 ⟨rfl, hb1⟩
            go_wp2_with fail
            refine (l1Rising_is N nc ns 1 99 hn _ h4 _ (hRn.below (bth hb hb1))).mono ?_
            rintro e w2 ⟨rfl, hb2⟩
            go_wp2
            go_ret
            exact ⟨ret_bool (by simp [sidesB, h4]), bth (bth hb hb1) hb2⟩
          · go_wp2_with fail
            refine (l1Rising_is Y yc ys 1 99 hy _ h3 _ (hRy.below hb)).mono ?_
            rintro e w1 ⟨rfl, hb1⟩
            go_wp2_with fail
            refine (l1Rising_is N nc ns 1 99 hn _ h4 _ (hRn.below (bth hb hb1))).mono ?_
            rintro e w2 ⟨rfl, hb2⟩
            go_wp2
            go_ret
            exact ⟨ret_bool (by simp [sidesB, h1]), bth (bth hb hb1) hb2⟩
      · cases h3 : ascB ys 1 99
        · go_wp2_with fail
          refine (l1Rising_is Y yc ys 1 99 hy _ h3 _ (hRy.below hb)).mono ?_
          rintro e w1 ⟨rfl, hb1⟩
          go_wp2
          go_ret
          exact ⟨ret_bool (by simp [sidesB, h3]), bth hb hb1⟩
        · cases h4 : ascB ns 1 99
          · go_wp2_with fail
            refine (l1Rising_is Y yc ys 1 99 hy _ h3 _ (hRy.below hb)).mono ?_
            rintro e w1 ⟨rfl, hb1⟩
            go_wp2_with fail
            refine (l1Rising_is N nc ns 1 99 hn _ h4 _ (hRn.below (bth hb hb1))).mono ?_
            rintro e w2 ⟨rfl, hb2⟩
            go_wp2
            go_ret
            exact ⟨ret_bool (by simp [sidesB, h4]), bth (bth hb hb1) hb2⟩
          · by_cases h1 : ys.length ≤ 30
            · go_wp2_with fail
              refine (l1Rising_is Y yc ys 1 99 hy _ h3 _ (hRy.below hb)).mono ?_
              rintro e w1 ⟨rfl, hb1⟩
              go_wp2_with fail
              refine (l1Rising_is N nc ns 1 99 hn _ h4 _ (hRn.below (bth hb hb1))).mono ?_
              rintro e w2 ⟨rfl, hb2⟩
              go_wp2
              go_ret
              exact ⟨ret_bool (by simp [sidesB, h1, h3, h4, HF.out h1] <;> omega), bth (bth hb hb1) hb2⟩
            · go_wp2_with fail
              refine (l1Rising_is Y yc ys 1 99 hy _ h3 _ (hRy.below hb)).mono ?_
              rintro e w1 ⟨rfl, hb1⟩
              go_wp2_with fail
              refine (l1Rising_is N nc ns 1 99 hn _ h4 _ (hRn.below (bth hb hb1))).mono ?_
              rintro e w2 ⟨rfl, hb2⟩
              go_wp2
              go_ret
              exact ⟨ret_bool (by simp [sidesB, h1]), bth (bth hb hb1) hb2⟩
end Go.Proofs.YthgaddnbgnennaaDoor
