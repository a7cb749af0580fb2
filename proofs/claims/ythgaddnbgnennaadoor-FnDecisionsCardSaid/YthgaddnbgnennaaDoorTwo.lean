/- Two sides drawn by the cursor. -/
import Derived.Test.YthgaddnbgnennaaDoorCur
import Derived.Test.YthgaddnbgnennaaDoorApp
import Derived.Test.YthgaddnbgnennaaDoorInt2
import Derived.Deep.Cut
import Derived.Outline
namespace Go.G9
open Go.RowKit
/-- Numbers that lie in the blocks from lo to hi. -/
structure Seg (lo hi : Nat) (w : World) (A : Option Addr) (c : Nat) (xs : List Int) : Prop where
  rds : Rds 1 intC w A xs
  nil : A = none → xs = [] ∧ c = 0
  rng : ∀ ad, A = some ad → 0 < xs.length → lo ≤ ad.block ∧ ad.block < hi
theorem Seg.kept {lo hi : Nat} {w w' : World} {A : Option Addr} {c : Nat} {xs : List Int} (h : Seg lo hi w A c xs) {row : Option Nat} (hg : w.grownBy w' row) (hr : ∀ k, row = some k → k < lo ∨ hi ≤ k) : Seg lo hi w' A c xs := by
  refine ⟨?_, h.nil, h.rng⟩
  by_cases hn : 0 < xs.length
  · exact h.rds.grown hg (fun ad ha e => by
      have h1 := h.rng ad ha hn
      rcases hr _ e.symm with h2 | h2 <;> omega)
  · have : xs = [] := List.length_eq_zero_iff.1 (by omega)
    subst this; exact Rds.nil
theorem Seg.of {B : Nat} {e : TypeId} {w : World} {A : Option Addr} {c : Nat} {xs : List Int} (h : OwnV B e 1 intC w (.slice A xs.length c) xs) : Seg B w.heap.size w A c xs :=
  ⟨h.rds, h.nilOk, fun ad ha _ => h.lt ad.block (by rw [ha]; rfl)⟩
theorem Seg.wide {lo hi lo' hi' : Nat} {w : World} {A : Option Addr} {c : Nat} {xs : List Int} (h : Seg lo hi w A c xs) (h1 : lo' ≤ lo) (h2 : hi ≤ hi') : Seg lo' hi' w A c xs :=
  ⟨h.rds, h.nil, fun ad ha hn => by have := h.rng ad ha hn; omega⟩
theorem grown_row2 {w w1 w2 : World} {p : Nat} {row : Option Nat} (h : w.grownBy w1 (some p)) (k : w1.grownBy w2 row) (hr : ∀ g, row = some g → w.heap.size ≤ g) : w.grownBy w2 (some p) :=
  ⟨k.os.trans h.os, k.tape.trans h.tape, k.output.trans h.output, Nat.le_trans h.size k.size, fun i hi hne =>
    (k.block i (Nat.lt_of_lt_of_le hi h.size) (fun e => by have := hr i e.symm; omega)).trans (h.block i hi hne)⟩
/-- Two slices of the call's own. -/
structure Two (B : Nat) (e : TypeId) (w : World) (y n : Value) (ys ns : List Int) : Prop where
  oy : OwnV B e 1 intC w y ys
  on : OwnV B e 1 intC w n ns
  ne : Ne2 y n
section
variable {B : Nat} {e : TypeId} {w w' : World} {y n : Value} {ys ns : List Int}
theorem Two.kept (h : Two B e w y n ys ns) {p : Nat} (hg : w.grownBy w' (some p)) (hp : p < B) : Two B e w' y n ys ns :=
  ⟨h.oy.kept hg (fun k hk e => by have := (h.oy.lt k hk).1; have := Option.some.inj e; omega), h.on.kept hg (fun k hk e => by have := (h.on.lt k hk).1; have := Option.some.inj e; omega), h.ne⟩
theorem Two.alloc (h : Two B e w y n ys ns) (o : Obj) : Two B e (w.alloc o) y n ys ns := ⟨h.oy.alloc o, h.on.alloc o, h.ne⟩
theorem Two.addY (h : Two B e w y n ys ns) {y' : Value} {x : Int} (h1 : OwnV B e 1 intC w' y' (ys ++ [x])) (hg : w.grownBy w' y.ownBlock) (ha : y'.ownBlock = y.ownBlock ∨ y'.ownBlock = some w.heap.size) : Two B e w' y' n (ys ++ [x]) ns :=
  ⟨h1, h.on.ne hg h.ne, h.ne.step (fun k hk => (h.on.lt k hk).2) ha⟩
theorem Two.addN (h : Two B e w y n ys ns) {n' : Value} {x : Int} (h1 : OwnV B e 1 intC w' n' (ns ++ [x])) (hg : w.grownBy w' n.ownBlock) (ha : n'.ownBlock = n.ownBlock ∨ n'.ownBlock = some w.heap.size) : Two B e w' y n' ys (ns ++ [x]) :=
  ⟨h.oy.ne hg h.ne.symm, h1, (h.ne.symm.step (fun k hk => (h.oy.lt k hk).2) ha).symm⟩
end
end Go.G9
namespace Go.Proofs.YthgaddnbgnennaaDoor
open Go.RowKit Go.G9
theorem Cur.row {w w' : World} {p : Nat} {A : Option Addr} {c : Nat} {cs : List UInt8} {N : Nat} (h : Cur w p A c cs N) {row : Option Nat} (hg : w.grownBy w' row) (hr : ∀ k, row = some k → p < k) : Cur w' p A c cs N := by
  obtain ⟨⟨i, s, hB, h0, h1⟩, hR, hlo⟩ := h
  refine ⟨⟨i, s, (hg.block p hB.lt (fun e => by have := hr p e.symm; omega)).trans hB, h0, h1⟩, ?_, hlo⟩
  by_cases hn : 0 < cs.length
  · exact hR.grown hg (fun ad ha e => by have h1 := hlo ad ha hn; have h2 := hr _ e.symm; omega)
  · have : cs = [] := List.length_eq_zero_iff.1 (by omega)
    subst this; exact Rds.nil
theorem built_rdsV (w : World) (xs : List Int) (hm : xs.length ≤ maxLen) : Rds 1 intC (w.alloc (.cells (xs.flatMap intC).toArray 3)) (some ⟨w.heap.size, 0, none⟩) xs := (OwnV.built (B := w.heap.size) (f := intC) w xs 3 (Nat.le_refl _) hm intC_len).rds (hf := intC_len)
set_option maxHeartbeats 4000000 in
set_option maxRecDepth 100000 in
theorem twoSides_is (p : Nat) (A : Option Addr) (c : Nat) (cs : List UInt8) (hcs : cs.length ≤ 1048576) (N : Nat) (hN : N ≤ 800000) (w : World) (hC : Cur w p A c cs N) :
  Calls Tryd.prog 71 #[.pointer (some ⟨p, 0, none⟩)] w fun e w' => ∃ (ys ns : List Int) (Y : Option Addr) (yc : Nat) (N' : Option Addr) (nc : Nat), e = .returned (.tuple #[.slice Y ys.length yc, .slice N' ns.length nc]) ∧ ys.length ≤ 40 ∧ ns.length ≤ 40 ∧ Seg w.heap.size w'.heap.size w' Y yc ys ∧ Seg w.heap.size w'.heap.size w' N' nc ns ∧ Stepped w w' p A c cs (N + 100) := by
  obtain ⟨i0, hi, hz0, hz1, hz2⟩ := info_parts info_int
  go_enter Tryd.func71, Tryd.ntmps71
  have hp := hC.lt
  have HG := grown_refl w (some p)
  have hT0 : Two w.heap.size 3 ((w.alloc (.cells #[] 3)).alloc (.cells #[] 3)) (.slice (some ⟨w.heap.size, 0, none⟩) 0 0) (.slice (some ⟨w.heap.size + 1, 0, none⟩) 0 0) [] [] := by
    refine ⟨(OwnV.made w (Nat.le_refl _) _).alloc _, ?_, fun k h1 h2 => ?_⟩
    · have h := OwnV.made (f := intC) (sz := 1) (w.alloc (.cells #[] 3)) (B := w.heap.size) (by simp) 3
      simpa using h
    · injection h1 with h1; injection h2 with h2; simp at h1 h2; omega
  go_wp2
  go_loopw [4, 5, 6] (fun y n i wr => ∃ (k : Nat) (ys ns : List Int), k ≤ 9 ∧ i = .int .i64 ((k : Int) + 1) ∧ ys.length ≤ k ∧ ns.length ≤ k ∧ Two w.heap.size 3 wr y n ys ns ∧ Cur wr p A c cs (N + 2 * k) ∧ w.grownBy wr (some p)) (fun _ _ i _ => 10 - (intOf i).toNat)
  case atStart => exact ⟨0, [], [], by omega, rfl, by simp, by simp, hT0, hC.later (bl2 _ _ _), below_grown (bl2 _ _ _) _⟩
  case round =>
    clear hC hT0 HG
    obtain ⟨k, ys, ns, hk, rfl, hly, hln, hT, hC, HG⟩ := hrel
    by_cases hlt : k < 9
    · go_wp2_with fail
      refine (pick_is 3 p A c cs hcs (N + 2 * k) (by omega) (by omega) _ (hC.later (by repeat (first | exact Below.refl _ _ | refine Below.alloc ?_ (by first | exact Nat.le_refl _ | (simp <;> omega)) _ | refine Below.setCell ?_ (by first | exact Nat.le_refl _ | (simp <;> omega)) _)))).mono ?_
      rintro e w1 ⟨r, rfl, ⟨hr0, _, hr1⟩, hS1⟩
      have hg1 : wr.grownBy w1 (some p) := grown_tr (below_grown (by repeat (first | exact Below.refl _ _ | refine Below.alloc ?_ (by first | exact Nat.le_refl _ | (simp <;> omega)) _ | refine Below.setCell ?_ (by first | exact Nat.le_refl _ | (simp <;> omega)) _)) _) hS1.2
      replace hC := hS1.1
      have sz1 := hg1.size
      replace HG := grown_tr HG hg1
      have hr2 := hr1 (by omega)
      replace hT := hT.kept hS1.2 hp
      clear hr1
      rcases (show r = 0 ∨ r = 1 ∨ r = 2 by omega) with rfl | rfl | rfl
      · go_wp2_with ((at_builtin; refine wpList_app1 rfl _ _ 30 rfl w.heap.size 3 i0 _ 1 8 Tryd.underlying30 hi hz0 hz1 hz2 rfl (by decide) intC intC_len intC_one _ ys rfl (hT.oy.alloc _) ⟨w1.heap.size, 0, none⟩ 1 ((k : Int) + 1) rfl (Rds.one _ _) (by unfold maxLen; omega) (by omega) (by have := HG.size; simp; omega) ?_; intro v4 w4 hO4 hg4 ha4))
        have hT4 := (hT.alloc _).addY hO4 hg4 ha4
        have hC4 := (hC.later (bl1 _ _)).row hg4 (fun k hk => by have := (hT.oy.lt k hk).1; omega)
        have HG4 := grown_row2 (grown_tr HG (below_grown (bl1 _ _) _)) hg4 (fun k hk => (hT.oy.lt k hk).1)
        go_roundw
        case rel => exact ⟨k + 1, _, _, by omega, by go_num, by simp; omega, by omega, hT4, hC4.mono (by omega), HG4⟩
        case measure => simp [intOf]; omega
      · go_wp2_with ((at_builtin; refine wpList_app1 rfl _ _ 30 rfl w.heap.size 3 i0 _ 1 8 Tryd.underlying30 hi hz0 hz1 hz2 rfl (by decide) intC intC_len intC_one _ ns rfl (hT.on.alloc _) ⟨w1.heap.size, 0, none⟩ 1 ((k : Int) + 1) rfl (Rds.one _ _) (by unfold maxLen; omega) (by omega) (by have := HG.size; simp; omega) ?_; intro v4 w4 hO4 hg4 ha4))
        have hT4 := (hT.alloc _).addN hO4 hg4 ha4
        have hC4 := (hC.later (bl1 _ _)).row hg4 (fun k hk => by have := (hT.on.lt k hk).1; omega)
        have HG4 := grown_row2 (grown_tr HG (below_grown (bl1 _ _) _)) hg4 (fun k hk => (hT.on.lt k hk).1)
        go_roundw
        case rel => exact ⟨k + 1, _, _, by omega, by go_num, by omega, by simp; omega, hT4, hC4.mono (by omega), HG4⟩
        case measure => simp [intOf]; omega
      · go_wp2
        go_roundw
        case rel => exact ⟨k + 1, _, _, by omega, by go_num, by omega, by omega, hT, hC.mono (by omega), HG⟩
        case measure => simp [intOf]; omega
    · obtain rfl : k = 9 := by omega
      go_wp2_with fail
      refine (pick_is 40 p A c cs hcs (N + 2 * 9) (by omega) (by omega) _ (hC.later (by repeat (first | exact Below.refl _ _ | refine Below.alloc ?_ (by first | exact Nat.le_refl _ | (simp <;> omega)) _ | refine Below.setCell ?_ (by first | exact Nat.le_refl _ | (simp <;> omega)) _)))).mono ?_
      rintro e w2 ⟨r, rfl, ⟨hr0, _, hr1⟩, hS2⟩
      have hg2 : wr.grownBy w2 (some p) := grown_tr (below_grown (by repeat (first | exact Below.refl _ _ | refine Below.alloc ?_ (by first | exact Nat.le_refl _ | (simp <;> omega)) _ | refine Below.setCell ?_ (by first | exact Nat.le_refl _ | (simp <;> omega)) _)) _) hS2.2
      replace hC := hS2.1
      have sz2 := hg2.size
      replace HG := grown_tr HG hg2
      have hr2 := hr1 (by omega)
      replace hT := hT.kept hS2.2 hp
      clear hr1
      have hp2 : p < w2.heap.size := hC.lt
      rcases (show r = 0 ∨ r = 1 ∨ r = 2 ∨ 2 < r by omega) with rfl | rfl | rfl | hr3
      · have hL1 := built_rdsV w2 [0, 9, 99, 100] (by simp [maxLen])
        simp only [List.flatMap_cons, List.flatMap_nil, intC, List.append_nil, List.singleton_append] at hL1
        have HL1 := Lib.hid hL1; clear hL1
        have hT0 := hT.alloc (.cells #[.int .i64 0, .int .i64 9, .int .i64 99, .int .i64 100] 3)
        go_wp2_with fail
        refine (among_is (some ⟨w2.heap.size, 0, none⟩) _ [0, 9, 99, 100] (by simp) (by simp) p A c cs hcs (N + 2 * 9 + 2) (by omega) _ (hC.later (by repeat (first | exact Below.refl _ _ | refine Below.alloc ?_ (by first | exact Nat.le_refl _ | (simp <;> omega)) _ | refine Below.setCell ?_ (by first | exact Nat.le_refl _ | (simp <;> omega)) _))) HL1.out (fun ad h _ => by cases h; show w2.heap.size ≠ p; omega)).mono ?_
        rintro e w3 ⟨x, rfl, hx, hS3⟩
        have hg3 : w2.grownBy w3 (some p) := grown_tr (below_grown (by repeat (first | exact Below.refl _ _ | refine Below.alloc ?_ (by first | exact Nat.le_refl _ | (simp <;> omega)) _ | refine Below.setCell ?_ (by first | exact Nat.le_refl _ | (simp <;> omega)) _)) _) hS3.2
        replace hC := hS3.1
        have sz3 := hg3.size
        replace HG := grown_tr HG hg3
        replace hT := hT0.kept hS3.2 hp
        clear hT0 HL1 hx
        go_wp2_with ((at_builtin; refine wpList_app1 rfl _ _ 30 rfl w.heap.size 3 i0 _ 1 8 Tryd.underlying30 hi hz0 hz1 hz2 rfl (by decide) intC intC_len intC_one _ ys rfl (hT.oy.alloc _) ⟨w3.heap.size, 0, none⟩ 1 (x) rfl (Rds.one _ _) (by unfold maxLen; omega) (by omega) (by have := HG.size; simp; omega) ?_; intro v4 w4 hO4 hg4 ha4))
        have hT4 := (hT.alloc _).addY hO4 hg4 ha4
        have hC4 := (hC.later (bl1 _ _)).row hg4 (fun k hk => by have := (hT.oy.lt k hk).1; omega)
        have HG4 := grown_row2 (grown_tr HG (below_grown (bl1 _ _) _)) hg4 (fun k hk => (hT.oy.lt k hk).1)
        obtain ⟨Y, yc, rfl, _, _, _⟩ := hT4.oy.form intC_len
        obtain ⟨N', nc, rfl, _, _, _⟩ := hT4.on.form intC_len
        go_wp2
        go_ret2
        exact ⟨_, _, Y, yc, N', nc, rfl, by first | omega | (simp; omega), by first | omega | (simp; omega), Seg.of hT4.oy, Seg.of hT4.on, hC4.mono (by omega), HG4⟩
      · have hL1 := built_rdsV w2 [0, 1, 99, 100] (by simp [maxLen])
        simp only [List.flatMap_cons, List.flatMap_nil, intC, List.append_nil, List.singleton_append] at hL1
        have HL1 := Lib.hid hL1; clear hL1
        have hT0 := hT.alloc (.cells #[.int .i64 0, .int .i64 1, .int .i64 99, .int .i64 100] 3)
        go_wp2_with fail
        refine (among_is (some ⟨w2.heap.size, 0, none⟩) _ [0, 1, 99, 100] (by simp) (by simp) p A c cs hcs (N + 2 * 9 + 2) (by omega) _ (hC.later (by repeat (first | exact Below.refl _ _ | refine Below.alloc ?_ (by first | exact Nat.le_refl _ | (simp <;> omega)) _ | refine Below.setCell ?_ (by first | exact Nat.le_refl _ | (simp <;> omega)) _))) HL1.out (fun ad h _ => by cases h; show w2.heap.size ≠ p; omega)).mono ?_
        rintro e w3 ⟨x, rfl, hx, hS3⟩
        have hg3 : w2.grownBy w3 (some p) := grown_tr (below_grown (by repeat (first | exact Below.refl _ _ | refine Below.alloc ?_ (by first | exact Nat.le_refl _ | (simp <;> omega)) _ | refine Below.setCell ?_ (by first | exact Nat.le_refl _ | (simp <;> omega)) _)) _) hS3.2
        replace hC := hS3.1
        have sz3 := hg3.size
        replace HG := grown_tr HG hg3
        replace hT := hT0.kept hS3.2 hp
        clear hT0 HL1 hx
        go_wp2_with ((at_builtin; refine wpList_app1 rfl _ _ 30 rfl w.heap.size 3 i0 _ 1 8 Tryd.underlying30 hi hz0 hz1 hz2 rfl (by decide) intC intC_len intC_one _ ns rfl (hT.on.alloc _) ⟨w3.heap.size, 0, none⟩ 1 (x) rfl (Rds.one _ _) (by unfold maxLen; omega) (by omega) (by have := HG.size; simp; omega) ?_; intro v4 w4 hO4 hg4 ha4))
        have hT4 := (hT.alloc _).addN hO4 hg4 ha4
        have hC4 := (hC.later (bl1 _ _)).row hg4 (fun k hk => by have := (hT.on.lt k hk).1; omega)
        have HG4 := grown_row2 (grown_tr HG (below_grown (bl1 _ _) _)) hg4 (fun k hk => (hT.on.lt k hk).1)
        obtain ⟨Y, yc, rfl, _, _, _⟩ := hT4.oy.form intC_len
        obtain ⟨N', nc, rfl, _, _, _⟩ := hT4.on.form intC_len
        go_wp2
        go_ret2
        exact ⟨_, _, Y, yc, N', nc, rfl, by first | omega | (simp; omega), by first | omega | (simp; omega), Seg.of hT4.oy, Seg.of hT4.on, hC4.mono (by omega), HG4⟩
      · have hM := OwnV.made (f := intC) (sz := 1) w2 (B := w.heap.size) HG.size 3
        go_wp2
        go_loopw [4, 7] (fun y i wq => ∃ (k : Nat) (ys : List Int), k ≤ 31 ∧ i = .int .i64 ((k : Int) + 1) ∧ ys.length ≤ k ∧ OwnV w.heap.size 3 1 intC wq y ys ∧ Cur wq p A c cs (N + 2 * 9 + 2 + 2 * k) ∧ w.grownBy wq (some p)) (fun _ i _ => 40 - (intOf i).toNat)
        case atStart => exact ⟨0, [], by omega, rfl, by simp, hM, hC.later (bl1 _ _), grown_tr HG (below_grown (bl1 _ _) _)⟩
        case round =>
          clear hC hM HG hT
          obtain ⟨k, ys, hk, rfl, hly, hO, hC, HG⟩ := hrel
          go_wp2_with fail
          refine (pick_is 2 p A c cs hcs (N + 2 * 9 + 2 + 2 * k) (by omega) (by omega) _ (hC.later (by repeat (first | exact Below.refl _ _ | refine Below.alloc ?_ (by first | exact Nat.le_refl _ | (simp <;> omega)) _ | refine Below.setCell ?_ (by first | exact Nat.le_refl _ | (simp <;> omega)) _)))).mono ?_
          rintro e w3 ⟨r, rfl, ⟨hr0, _, hr1⟩, hS3⟩
          have hg3 : wr.grownBy w3 (some p) := grown_tr (below_grown (by repeat (first | exact Below.refl _ _ | refine Below.alloc ?_ (by first | exact Nat.le_refl _ | (simp <;> omega)) _ | refine Below.setCell ?_ (by first | exact Nat.le_refl _ | (simp <;> omega)) _)) _) hS3.2
          replace hC := hS3.1
          have sz3 := hg3.size
          replace HG := grown_tr HG hg3
          have hr2 := hr1 (by omega)
          replace hO := hO.kept hS3.2 (fun k hk e => by have := (hO.lt k hk).1; have := Option.some.inj e; omega)
          clear hr1
          by_cases hlt : (k : Int) + 1 ≤ 30 + r
          · go_wp2_with ((at_builtin; refine wpList_app1 rfl _ _ 30 rfl w.heap.size 3 i0 _ 1 8 Tryd.underlying30 hi hz0 hz1 hz2 rfl (by decide) intC intC_len intC_one _ ys rfl (hO.alloc _) ⟨w3.heap.size, 0, none⟩ 1 ((k : Int) + 1) rfl (Rds.one _ _) (by unfold maxLen; omega) (by omega) (by have := HG.size; simp; omega) ?_; intro v4 w4 hO4 hg4 ha4))
            have hC4 := (hC.later (bl1 _ _)).row hg4 (fun k hk => by have := (hO.lt k hk).1; omega)
            have HG4 := grown_row2 (grown_tr HG (below_grown (bl1 _ _) _)) hg4 (fun k hk => (hO.lt k hk).1)
            go_roundw
            case rel => exact ⟨k + 1, _, by omega, by go_num, by simp; omega, hO4, hC4.mono (by omega), HG4⟩
            case measure => simp [intOf]; omega
          · obtain ⟨Y, yc, rfl, _, _, _⟩ := hO.form intC_len
            have hE := OwnV.built (B := w.heap.size) (f := intC) w3 [50, 51] 3 HG.size (by simp [maxLen]) intC_len
            simp only [List.flatMap_cons, List.flatMap_nil, intC, List.append_nil, List.singleton_append] at hE
            have hO5 := hO.alloc (.cells #[.int .i64 50, .int .i64 51] 3)
            have HE := Lib.hid hE; have HO5 := Lib.hid hO5
            clear hE hO5 hO
            go_wp2
            go_ret2
            exact ⟨ys, [50, 51], Y, yc, some ⟨w3.heap.size, 0, none⟩, 2, rfl, by omega, by simp, Seg.of HO5.out, Seg.of HE.out, (hC.later (bl1 _ _)).mono (by omega), grown_tr HG (below_grown (bl1 _ _) _)⟩
      · have h0 : (r == 0) = false := beq_eq_false_iff_ne.2 (by omega)
        have h1 : (r == 1) = false := beq_eq_false_iff_ne.2 (by omega)
        have h2 : (r == 2) = false := beq_eq_false_iff_ne.2 (by omega)
        obtain ⟨Y, yc, rfl, _, _, _⟩ := hT.oy.form intC_len
        obtain ⟨N', nc, rfl, _, _, _⟩ := hT.on.form intC_len
        go_wp2
        go_ret2
        exact ⟨_, _, Y, yc, N', nc, rfl, by first | omega | (simp; omega), by first | omega | (simp; omega), Seg.of hT.oy, Seg.of hT.on, hC.mono (by omega), HG⟩
end Go.Proofs.YthgaddnbgnennaaDoor
