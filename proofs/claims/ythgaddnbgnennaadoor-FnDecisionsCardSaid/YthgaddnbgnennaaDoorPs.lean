/- Decided questions: the prevailing side as memory of its own. -/
import Derived.Test.YthgaddnbgnennaaDoorDec7
namespace Go.Proofs.YthgaddnbgnennaaDoor
open Go.RowKit Go.G9
def psL (d : Dec) : List Int := if decB d then d.side else []
theorem psL_len (d : Dec) : (psL d).length ≤ 30 := by
  unfold psL; split
  · rename_i h
    have := decB_len h
    unfold Dec.side; split <;> omega
  · simp
theorem copyInts_is (A : Option Addr) (c : Nat) (xs : List Int) (hn : xs.length ≤ 1048576) (hA : A = none → xs = [] ∧ c = 0) (w : World) (hR : Rds 1 intC w A xs) :
  Calls Tryd.prog 47 #[.slice A xs.length c] w fun e w' => ∃ A' c', e = .returned (.slice A' xs.length c') ∧ OwnV w.heap.size 3 1 intC w' (.slice A' xs.length c') xs ∧ Below w.heap.size w w' := by
  obtain ⟨i0, hi, hz0, hz1, hz2⟩ := info_parts info_int
  go_enter Tryd.func47, Tryd.ntmps47
  go_wp2_with ((at_builtin; refine wpList_app rfl _ _ 30 rfl w.heap.size 3 i0 _ 1 8 Tryd.underlying30 hi hz0 hz1 hz2 rfl (by decide) intC intC_len intC_one _ ([] : List Int) rfl (OwnV.made w (Nat.le_refl _) _) A c xs rfl (hR.alloc _) hA (by unfold maxLen; simp; omega) (by simp; omega) (by simp) ?_; intro v' w1 hO hg))
  go_ret
  obtain ⟨A', c', rfl, _, _⟩ := hO.form intC_len
  exact ⟨A', c', rfl, hO, (bl1 _ _).trans (grown_below hg (by simp) (fun k hk => Nat.le_of_eq (Option.some.inj hk)))⟩
theorem iPrev_is (d : Dec) (Y N : Option Addr) (yc nc : Nat) (hy : d.yes.length ≤ 1048576) (hn : d.no.length ≤ 1048576) (hY : Y = none → d.yes = [] ∧ yc = 0) (hN : N = none → d.no = [] ∧ nc = 0) (w : World) (hRy : Rds 1 intC w Y d.yes) (hRn : Rds 1 intC w N d.no) :
  Calls Tryd.prog 20 #[.agg #[.int .i64 d.id, .int .i64 d.day, .int .i64 d.need, .slice Y d.yes.length yc, .slice N d.no.length nc, .bool d.done]] w fun e w' => ∃ A c, e = .returned (.tuple #[.slice A (psL d).length c, .bool (decB d)]) ∧ OwnV w.heap.size 3 1 intC w' (.slice A (psL d).length c) (psL d) ∧ Below w.heap.size w w' := by
  cases hd : decB d
  · have h2 : psL d = [] := by simp [psL, hd]
    rw [h2]
    go_enter Tryd.func20, Tryd.ntmps20
    go_wp2_with fail
    refine (isValidDecided_is d Y N yc nc hy hn _ hd _ (hRy.below (bl1 _ _)) (hRn.below (bl1 _ _))).mono ?_
    rintro e w1 ⟨rfl, hb1⟩
    go_wp2
    go_ret2
    exact ⟨none, 0, rfl, OwnV.nil, bth (bl1 _ _) hb1⟩
  · have h2 : psL d = d.side := by simp [psL, hd]
    rw [h2]; clear h2
    have hl := decB_len hd
    have hsl : d.side.length ≤ 30 := by unfold Dec.side; split <;> omega
    go_enter Tryd.func20, Tryd.ntmps20
    go_wp2_with fail
    refine (isValidDecided_is d Y N yc nc hy hn _ hd _ (hRy.below (bl1 _ _)) (hRn.below (bl1 _ _))).mono ?_
    rintro e w1 ⟨rfl, hb1⟩
    have hA := Blk.below (Blk.new w 35 #[.int .i64 d.id, .int .i64 d.day, .int .i64 d.need, .slice Y d.yes.length yc, .slice N d.no.length nc, .bool d.done]) hb1 (by simp)
    have hb1' := bth (bl1 _ _) hb1
    have a0 := hA.cell 0
    have a1 := hA.cell 1
    have a2 := hA.cell 2
    have a3 := hA.cell 3
    have a4 := hA.cell 4
    have a5 := hA.cell 5
    simp at a0 a1 a2 a3 a4 a5
    go_wp2_with fail
    refine (prevailingSide_is d Y N yc nc hd _ rfl _).mono ?_
    rintro e w2 ⟨rfl, hb2⟩
    have hb2' := bth hb1' hb2
    have hS : ∃ S sc, (if d.ado then Value.slice Y d.yes.length yc else .slice N d.no.length nc) = .slice S d.side.length sc ∧ Rds 1 intC w2 S d.side ∧ (S = none → d.side = [] ∧ sc = 0) := by
      cases ha : d.ado <;> simp only [Dec.side, ha]
      · exact ⟨_, _, rfl, hRn.below hb2', hN⟩
      · exact ⟨_, _, rfl, hRy.below hb2', hY⟩
    obtain ⟨S, sc, hSe, hRs, hSn⟩ := hS
    rw [hSe]; clear hSe
    go_wp2_with fail
    refine (copyInts_is S sc d.side (by omega) hSn _ hRs).mono ?_
    rintro e w3 ⟨A, c, rfl, hO, hb3⟩
    go_wp2
    go_ret2
    exact ⟨A, c, rfl, hO.base hb2'.size, bth hb2' hb3⟩
theorem sPrev_is (d : Dec) (Y N : Option Addr) (yc nc : Nat) (hy : d.yes.length ≤ 1048576) (hn : d.no.length ≤ 1048576) (hY : Y = none → d.yes = [] ∧ yc = 0) (hN : N = none → d.no = [] ∧ nc = 0) (w : World) (hRy : Rds 1 intC w Y d.yes) (hRn : Rds 1 intC w N d.no) :
  Calls Tryd.prog 23 #[.agg #[.int .i64 d.id, .int .i64 d.day, .int .i64 d.need, .slice Y d.yes.length yc, .slice N d.no.length nc, .bool d.done]] w fun e w' => ∃ A c, e = .returned (.tuple #[.slice A (psL d).length c, .bool (decB d)]) ∧ OwnV w.heap.size 3 1 intC w' (.slice A (psL d).length c) (psL d) ∧ Below w.heap.size w w' := by
  cases hd : decB d
  · have h2 : psL d = [] := by simp [psL, hd]
    rw [h2]
    go_enter Tryd.func23, Tryd.ntmps23
    go_wp2_with fail
    refine (l18Good_is d Y N yc nc hy hn _ hd _ (hRy.below (bl1 _ _)) (hRn.below (bl1 _ _))).mono ?_
    rintro e w1 ⟨rfl, hb1⟩
    have hb1' := bth (bl1 _ _) hb1
    go_wp2
    go_ret2
    exact ⟨_, _, rfl, OwnV.made w1 hb1'.size _, hb1'.alloc hb1'.size _⟩
  · have h2 : psL d = d.side := by simp [psL, hd]
    rw [h2]; clear h2
    go_enter Tryd.func23, Tryd.ntmps23
    go_wp2_with fail
    refine (l18Good_is d Y N yc nc hy hn _ hd _ (hRy.below (bl1 _ _)) (hRn.below (bl1 _ _))).mono ?_
    rintro e w1 ⟨rfl, hb1⟩
    have hA := Blk.below (Blk.new w 35 #[.int .i64 d.id, .int .i64 d.day, .int .i64 d.need, .slice Y d.yes.length yc, .slice N d.no.length nc, .bool d.done]) hb1 (by simp)
    have hb1' := bth (bl1 _ _) hb1
    have a0 := hA.cell 0
    have a1 := hA.cell 1
    have a2 := hA.cell 2
    have a3 := hA.cell 3
    have a4 := hA.cell 4
    have a5 := hA.cell 5
    simp at a0 a1 a2 a3 a4 a5
    go_wp2_with fail
    refine (l18Side_is d Y N yc nc hd hY hN _ (hRy.below hb1') (hRn.below hb1')).mono ?_
    rintro e w2 ⟨A, c, rfl, hO, hb2⟩
    go_wp2
    go_ret2
    exact ⟨A, c, rfl, hO.base hb1'.size, bth hb1' hb2⟩
end Go.Proofs.YthgaddnbgnennaaDoor
