/- Decided questions: validity of a decided question, copies, comparisons. -/
import Derived.Test.YthgaddnbgnennaaDoorDec
namespace Go.Proofs.YthgaddnbgnennaaDoor
open Go.RowKit Go.G9
theorem Blk.far {w : World} {g : Nat} {t : TypeId} {cs : Array Value} (h : Blk w g t cs) {p : Addr} (hp : g ≠ p.block) (u : Value) : Blk (w.setCell p u) g t cs := (Below.heap_setCell w p u g hp).trans h
theorem OwnV.low {T : Type} {B : Nat} {e : TypeId} {sz : Nat} {f : T → List Value} {w : World} {v : Value} {xs : List T} (h : OwnV B e sz f w v xs) {p : Addr} (hp : p.block < B) {u : Value} : OwnV B e sz f (w.setCell p u) v xs := ownsRow_setCell_below h hp u
theorem isValidDecided_is (d : Dec) (Y N : Option Addr) (yc nc : Nat) (hy : d.yes.length ≤ 1048576) (hn : d.no.length ≤ 1048576) (v : Bool) (hv : decB d = v) (w : World) (hRy : Rds 1 intC w Y d.yes) (hRn : Rds 1 intC w N d.no) :
  Calls Tryd.prog 22 #[.agg #[.int .i64 d.id, .int .i64 d.day, .int .i64 d.need, .slice Y d.yes.length yc, .slice N d.no.length nc, .bool d.done]] w fun e w' => e = .returned (.bool v) ∧ Below w.heap.size w w' := by
  subst hv
  obtain ⟨id, day, need, ys, ns, dn⟩ := d
  cases h1 : inB id 1 99
  · go_enter Tryd.func22, Tryd.ntmps22
    go_wp2_with (go_at_call 48; refine (inside_is _ _ _ _ h1 _).mono ?_; rintro e w' ⟨rfl, rfl⟩)
    go_ret
    exact ⟨ret_bool (by simp [decB, h1]), bl1 _ _⟩
  cases h2 : inB day 0 3650
  · go_enter Tryd.func22, Tryd.ntmps22
    go_wp2_with (first | (go_at_call 48; refine (inside_is _ _ _ _ h1 _).mono ?_; rintro e w' ⟨rfl, rfl⟩) | (go_at_call 49; refine (isDay_is _ _ h2 _).mono ?_; rintro e w' ⟨rfl, rfl⟩))
    go_ret
    exact ⟨ret_bool (by simp [decB, h2]), bl1 _ _⟩
  cases h3 : inB need 1 3
  · go_enter Tryd.func22, Tryd.ntmps22
    go_wp2_with (first | (go_at_call 48; refine (inside_is _ _ _ _ h1 _).mono ?_; rintro e w' ⟨rfl, rfl⟩) | (go_at_call 49; refine (isDay_is _ _ h2 _).mono ?_; rintro e w' ⟨rfl, rfl⟩) | (go_at_call 50; refine (isNeed_is _ _ h3 _).mono ?_; rintro e w' ⟨rfl, rfl⟩))
    go_ret
    exact ⟨ret_bool (by simp [decB, h3]), bl1 _ _⟩
  · go_enter Tryd.func22, Tryd.ntmps22
    go_wp2_with (first | (go_at_call 48; refine (inside_is _ _ _ _ h1 _).mono ?_; rintro e w' ⟨rfl, rfl⟩) | (go_at_call 49; refine (isDay_is _ _ h2 _).mono ?_; rintro e w' ⟨rfl, rfl⟩) | (go_at_call 50; refine (isNeed_is _ _ h3 _).mono ?_; rintro e w' ⟨rfl, rfl⟩))
    refine (areSides_is Y N yc nc ys ns hy hn _ rfl _ (hRy.below (bl1 _ _)) (hRn.below (bl1 _ _))).mono ?_
    rintro e w' ⟨rfl, hb'⟩
    go_wp2
    go_ret
    exact ⟨ret_bool (by simp [decB, h1, h2, h3]), bth (bl1 _ _) hb'⟩
theorem l18Good_is (d : Dec) (Y N : Option Addr) (yc nc : Nat) (hy : d.yes.length ≤ 1048576) (hn : d.no.length ≤ 1048576) (v : Bool) (hv : decB d = v) (w : World) (hRy : Rds 1 intC w Y d.yes) (hRn : Rds 1 intC w N d.no) :
  Calls Tryd.prog 35 #[.agg #[.int .i64 d.id, .int .i64 d.day, .int .i64 d.need, .slice Y d.yes.length yc, .slice N d.no.length nc, .bool d.done]] w fun e w' => e = .returned (.bool v) ∧ Below w.heap.size w w' := by
  subst hv
  obtain ⟨id, day, need, ys, ns, dn⟩ := d
  cases h1 : inB id 1 99
  · go_enter Tryd.func35, Tryd.ntmps35
    go_wp2_with (go_at_call 58; refine (l1In_is _ _ _ _ h1 _).mono ?_; rintro e w' ⟨rfl, rfl⟩)
    go_ret
    exact ⟨ret_bool (by simp [decB, h1]), bl1 _ _⟩
  cases h2 : inB day 0 3650
  · go_enter Tryd.func35, Tryd.ntmps35
    go_wp2_with (first | (go_at_call 58; refine (l1In_is _ _ _ _ h1 _).mono ?_; rintro e w' ⟨rfl, rfl⟩) | (go_at_call 59; refine (l24Day_is _ _ h2 _).mono ?_; rintro e w' ⟨rfl, rfl⟩))
    go_ret
    exact ⟨ret_bool (by simp [decB, h2]), bl1 _ _⟩
  cases h3 : inB need 1 3
  · go_enter Tryd.func35, Tryd.ntmps35
    go_wp2_with (first | (go_at_call 58; refine (l1In_is _ _ _ _ h1 _).mono ?_; rintro e w' ⟨rfl, rfl⟩) | (go_at_call 59; refine (l24Day_is _ _ h2 _).mono ?_; rintro e w' ⟨rfl, rfl⟩) | (go_at_call 63; refine (l11Need_is _ _ h3 _).mono ?_; rintro e w' ⟨rfl, rfl⟩))
    go_ret
    exact ⟨ret_bool (by simp [decB, h3]), bl1 _ _⟩
  · go_enter Tryd.func35, Tryd.ntmps35
    go_wp2_with (first | (go_at_call 58; refine (l1In_is _ _ _ _ h1 _).mono ?_; rintro e w' ⟨rfl, rfl⟩) | (go_at_call 59; refine (l24Day_is _ _ h2 _).mono ?_; rintro e w' ⟨rfl, rfl⟩) | (go_at_call 63; refine (l11Need_is _ _ h3 _).mono ?_; rintro e w' ⟨rfl, rfl⟩))
    refine (l18Lists_is Y N yc nc ys ns hy hn _ rfl _ (hRy.below (bl1 _ _)) (hRn.below (bl1 _ _))).mono ?_
    rintro e w' ⟨rfl, hb'⟩
    go_wp2
    go_ret
    exact ⟨ret_bool (by simp [decB, h1, h2, h3]), bth (bl1 _ _) hb'⟩
theorem szDecided_is (d : Dec) (Y N : Option Addr) (yc nc : Nat) (hy : d.yes.length ≤ maxLen) (hn : d.no.length ≤ maxLen) (l : Int) (h0 : 0 ≤ l) (h1 : l ≤ 1048576) (w : World) :
  Calls Tryd.prog 10 #[.agg #[.int .i64 d.id, .int .i64 d.day, .int .i64 d.need, .slice Y d.yes.length yc, .slice N d.no.length nc, .bool d.done], .int .i64 l] w fun e w' => ∃ r : Int, e = .returned (.int .i64 r) ∧ -1 ≤ r ∧ r ≤ l ∧ (r < 0 ∨ d.yes.length ≤ 1048576 ∧ d.no.length ≤ 1048576) ∧ Below w.heap.size w w' := by
  obtain ⟨id, day, need, ys, ns, dn⟩ := d
  go_enter Tryd.func10, Tryd.ntmps10
  go_wp2_with fail
  refine (szIntS_is Y yc ys hy l h0 h1 _).mono ?_
  rintro e w1 ⟨r, rfl, a1, a2, a3, rfl⟩
  by_cases hr : r < 0
  · go_wp2
    go_ret
    exact ⟨_, rfl, by omega, by omega, .inl (by omega), bl1 _ _⟩
  · have a4 : ys.length ≤ 1048576 := by omega
    clear a3
    go_wp2_with fail
    refine (szIntS_is N nc ns hn r (by omega) (by omega) _).mono ?_
    rintro e w1 ⟨r', rfl, b1, b2, b3, rfl⟩
    by_cases hr' : r' < 0
    · go_wp2
      go_ret
      exact ⟨_, rfl, by omega, by omega, .inl (by omega), bl1 _ _⟩
    · have b4 : ns.length ≤ 1048576 := by omega
      clear b3
      go_wp2
      go_ret
      exact ⟨_, rfl, by omega, by omega, .inr ⟨a4, b4⟩, bl1 _ _⟩
set_option maxHeartbeats 1000000 in
theorem eqDecided_is (d : Dec) (Y N Y' N' : Option Addr) (yc nc yc' nc' : Nat) (hy : d.yes.length ≤ 1048576) (hn : d.no.length ≤ 1048576) (w : World) (hRy : Rds 1 intC w Y d.yes) (hRn : Rds 1 intC w N d.no) (hRy' : Rds 1 intC w Y' d.yes) (hRn' : Rds 1 intC w N' d.no) :
  Calls Tryd.prog 14 #[.agg #[.int .i64 d.id, .int .i64 d.day, .int .i64 d.need, .slice Y d.yes.length yc, .slice N d.no.length nc, .bool d.done], .agg #[.int .i64 d.id, .int .i64 d.day, .int .i64 d.need, .slice Y' d.yes.length yc', .slice N' d.no.length nc', .bool d.done]] w
    fun e w' => e = .returned (.bool true) ∧ Below w.heap.size w w' := by
  obtain ⟨id, day, need, ys, ns, dn⟩ := d
  go_enter Tryd.func14, Tryd.ntmps14
  go_wp2_with fail
  refine (eqIntS_is Y Y' yc yc' ys hy _ (hRy.below (bl2 _ _ _)) (hRy'.below (bl2 _ _ _))).mono ?_
  rintro e w1 ⟨rfl, hb1⟩
  have hA := ((Blk.new w _ #[.int .i64 id, .int .i64 day, .int .i64 need, .slice Y ys.length yc, .slice N ns.length nc, .bool dn]).alloc _).below hb1 (by simp <;> omega)
  have hB := (Blk.new (w.alloc _) _ #[.int .i64 id, .int .i64 day, .int .i64 need, .slice Y' ys.length yc', .slice N' ns.length nc', .bool dn]).below hb1 (by simp)
  have a4 := hA.cell 4
  have a5 := hA.cell 5
  have b4 := hB.cell 4
  have b5 := hB.cell 5
  simp at a4 a5 b4 b5
  go_wp2_with fail
  refine (eqIntS_is N N' nc nc' ns hn _ (hRn.below (bth (bl2 _ _ _) hb1)) (hRn'.below (bth (bl2 _ _ _) hb1))).mono ?_
  rintro e w2 ⟨rfl, hb2⟩
  have a5' := (hA.below hb2 hA.lt).cell 5
  have b5' := (hB.below hb2 hB.lt).cell 5
  simp at a5' b5'
  go_wp2
  go_ret
  exact ⟨rfl, bth (bl2 _ _ _) (bth hb1 hb2)⟩
set_option maxHeartbeats 1000000 in
theorem toDecided_is (d : Dec) (Y N : Option Addr) (yc nc : Nat) (hy : d.yes.length ≤ 1048576) (hn : d.no.length ≤ 1048576) (w : World) (hRy : Rds 1 intC w Y d.yes) (hRn : Rds 1 intC w N d.no) :
  Calls Tryd.prog 12 #[.agg #[.int .i64 d.id, .int .i64 d.day, .int .i64 d.need, .slice Y d.yes.length yc, .slice N d.no.length nc, .bool d.done]] w fun e w' => ∃ Y' N', e = .returned (.agg #[.int .i64 d.id, .int .i64 d.day, .int .i64 d.need, .slice Y' d.yes.length d.yes.length, .slice N' d.no.length d.no.length, .bool d.done]) ∧
    OwnV w.heap.size 3 1 intC w' (.slice Y' d.yes.length d.yes.length) d.yes ∧ OwnV w.heap.size 3 1 intC w' (.slice N' d.no.length d.no.length) d.no ∧ (∀ k, (Value.slice Y' d.yes.length d.yes.length).ownBlock = some k → some k ≠ (Value.slice N' d.no.length d.no.length).ownBlock) ∧ Below w.heap.size w w' := by
  obtain ⟨id, day, need, ys, ns, dn⟩ := d
  go_enter Tryd.func12, Tryd.ntmps12
  go_wp2_with fail
  refine (toIntS_is Y yc ys hy _ (hRy.below (bl3 _ _ _ _))).mono ?_
  rintro e w1 ⟨Y', rfl, hO1, hb1⟩
  have hA := (((Blk.new w 32 #[.int .i64 id, .int .i64 day, .int .i64 need, .slice Y ys.length yc, .slice N ns.length nc, .bool dn]).alloc _).alloc _).below hb1 (by simp <;> omega)
  have hZ := ((Blk.new (w.alloc _) 35 #[.int .i64 0, .int .i64 0, .int .i64 0, .slice none 0 0, .slice none 0 0, .bool false]).alloc _).below hb1 (by simp <;> omega)
  have hG := (Blk.new ((w.alloc _).alloc _) 35 #[.int .i64 id, .int .i64 day, .int .i64 need, .slice none 0 0, .slice none 0 0, .bool false]).below hb1 (by simp)
  simp only [World.size_alloc] at hZ hG
  have a4 := hA.cell 4
  have g3 := hG.cell 3
  have y3 := hG.frozen 3
  simp at a4 g3
  go_wp2_with fail
  refine (toIntS_is N nc ns hn _ (hRn.below ((bth (bl3 _ _ _ _) hb1).setCell (by simp <;> omega) _))).mono ?_
  rintro e w2 ⟨N', rfl, hO2, hb2⟩
  have hA2 := (Blk.far hA (p := ⟨w.heap.size + 1 + 1, 3, none⟩) (by simp <;> omega) _).below hb2 (Nat.lt_of_lt_of_le hA.lt (by simp [World.setCell]))
  have hZ2 := (Blk.far hZ (p := ⟨w.heap.size + 1 + 1, 3, none⟩) (by simp) _).below hb2 (Nat.lt_of_lt_of_le hZ.lt (by simp [World.setCell]))
  have hG2 := (hG.set_ 3 (.slice Y' ys.length ys.length)).below hb2 (Nat.lt_of_lt_of_le hG.lt (by simp [World.setCell]))
  have hb12 : Below w.heap.size w w2 := bth ((bth (bl3 _ _ _ _) hb1).setCell (by simp <;> omega) _) hb2
  have a5 := hA2.cell 5
  have g0 := hG2.cell 0
  have g1 := hG2.cell 1
  have g2 := hG2.cell 2
  have g3' := hG2.cell 3
  have g4 := hG2.cell 4
  have g5 := hG2.cell 5
  have y4 := hG2.frozen 4
  have y5 := hG2.frozen 5
  have z0 := hZ2.cell 0
  have z1 := hZ2.cell 1
  have z2 := hZ2.cell 2
  have z3 := hZ2.cell 3
  have z4 := hZ2.cell 4
  have z5 := hZ2.cell 5
  have x0 := hZ2.frozen 0
  have x1 := hZ2.frozen 1
  have x2 := hZ2.frozen 2
  have x3 := hZ2.frozen 3
  have x4 := hZ2.frozen 4
  have x5 := hZ2.frozen 5
  simp at a5 g0 g1 g2 g3' g4 g5 z0 z1 z2 z3 z4 z5
  have hlt := hZ2.lt
  have hlt2 := hG2.lt
  clear a4 g3 y3 hA hZ hG hA2 hZ2 hG2
  go_wp2
  refine bodyPost_ret (v := .agg #[.int .i64 id, .int .i64 day, .int .i64 need, .slice Y' ys.length ys.length, .slice N' ns.length ns.length, .bool dn]) (by simp [results, Tryd.results12, go_sem, *]) rfl ⟨Y', N', rfl, ?_, ?_, ?_, ?_⟩
  · refine OwnV.base (B := w.heap.size + 1 + 1 + 1) ?_ (by omega)
    repeat refine OwnV.low ?_ (by simp <;> omega)
    refine OwnV.later ?_ hb2
    refine OwnV.low ?_ (by simp <;> omega)
    simpa using hO1
  · refine OwnV.base (B := w1.heap.size) ?_ (by have := hb1.size; simp at this; omega)
    have hs := hb1.size
    simp at hs
    repeat refine OwnV.low ?_ (by simp <;> omega)
    simpa [World.setCell] using hO2
  · intro k hk hk'
    have h1 := (hO1.lt k hk).2
    have h2 := (hO2.lt k hk'.symm).1
    simp [World.setCell] at h2
    omega
  · exact (((((((hb12.setCell (by simp <;> omega) _).setCell (by simp <;> omega) _).setCell (by simp <;> omega) _).setCell (by simp <;> omega) _).setCell (by simp <;> omega) _).setCell (by simp <;> omega) _).setCell (by simp <;> omega) _).setCell (by simp <;> omega) _
end Go.Proofs.YthgaddnbgnennaaDoor
