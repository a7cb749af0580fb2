/- Two sides drawn by the cursor. -/
import Derived.Test.YtbnncgahepcfnaaGreatDoorNo12
import Derived.Test.YtbnncgahepcfnaaGreatDoorNo7
import Derived.Deep.Cut
import Derived.Outline
import Derived.Test.YtbnncgahepcfnaaGreatDoorNo10
namespace Go.G9
open Go.RowKit
/-- Numbers that lie in the blocks from lo to hi. -/
structure Seg (lo hi : Nat) (w : World) (A : Option Addr) (c : Nat) (xs : List Int) : Prop where
  rds : Rds 1 intC w A xs
  nil : A = none → xs = [] ∧ c = 0
  rng : ∀ ad, A = some ad → 0 < xs.length → lo ≤ ad.block ∧ ad.block < hi
theorem Seg.kept {lo hi : Nat} {w w' : World} {A : Option Addr} {c : Nat} {xs : List Int} (h : Seg lo hi w A c xs) {row : Option Nat} (hg : w.grownBy w' row) (hr : ∀ k, row = some k → k < lo ∨ hi ≤ k) : Seg lo hi w' A c xs := by
  refine ⟨?_, h.nil, h.rng⟩
  by_cases hn : 0 < xs.length
  · exact h.rds.grown hg (fun ad ha e => by
      have h1 := h.rng ad ha hn
      rcases hr _ e.symm with h2 | h2 <;> omega)
  · have : xs = [] := List.length_eq_zero_iff.1 (by omega)
    subst this; exact Rds.nil
theorem Seg.of {B : Nat} {e : TypeId} {w : World} {A : Option Addr} {c : Nat} {xs : List Int} (h : OwnV B e 1 intC w (.slice A xs.length c) xs) : Seg B w.heap.size w A c xs :=
  ⟨h.rds, h.nilOk, fun ad ha _ => h.lt ad.block (by rw [ha]; rfl)⟩
theorem Seg.wide {lo hi lo' hi' : Nat} {w : World} {A : Option Addr} {c : Nat} {xs : List Int} (h : Seg lo hi w A c xs) (h1 : lo' ≤ lo) (h2 : hi ≤ hi') : Seg lo' hi' w A c xs :=
  ⟨h.rds, h.nil, fun ad ha hn => by have := h.rng ad ha hn; omega⟩
theorem grown_row2 {w w1 w2 : World} {p : Nat} {row : Option Nat} (h : w.grownBy w1 (some p)) (k : w1.grownBy w2 row) (hr : ∀ g, row = some g → w.heap.size ≤ g) : w.grownBy w2 (some p) :=
  ⟨k.os.trans h.os, k.tape.trans h.tape, k.output.trans h.output, Nat.le_trans h.size k.size, fun i hi hne =>
    (k.block i (Nat.lt_of_lt_of_le hi h.size) (fun e => by have := hr i e.symm; omega)).trans (h.block i hi hne)⟩
/-- Two slices of the call's own. -/
structure Two (B : Nat) (e : TypeId) (w : World) (y n : Value) (ys ns : List Int) : Prop where
  oy : OwnV B e 1 intC w y ys
  on : OwnV B e 1 intC w n ns
  ne : Ne2 y n
section
variable {B : Nat} {e : TypeId} {w w' : World} {y n : Value} {ys ns : List Int}
theorem Two.kept (h : Two B e w y n ys ns) {p : Nat} (hg : w.grownBy w' (some p)) (hp : p < B) : Two B e w' y n ys ns :=
  ⟨h.oy.kept hg (fun k hk e => by have := (h.oy.lt k hk).1; have := Option.some.inj e; omega), h.on.kept hg (fun k hk e => by have := (h.on.lt k hk).1; have := Option.some.inj e; omega), h.ne⟩
theorem Two.alloc (h : Two B e w y n ys ns) (o : Obj) : Two B e (w.alloc o) y n ys ns := ⟨h.oy.alloc o, h.on.alloc o, h.ne⟩
theorem Two.addY (h : Two B e w y n ys ns) {y' : Value} {x : Int} (h1 : OwnV B e 1 intC w' y' (ys ++ [x])) (hg : w.grownBy w' y.ownBlock) (ha : y'.ownBlock = y.ownBlock ∨ y'.ownBlock = some w.heap.size) : Two B e w' y' n (ys ++ [x]) ns :=
  ⟨h1, h.on.ne hg h.ne, h.ne.step (fun k hk => (h.on.lt k hk).2) ha⟩
theorem Two.addN (h : Two B e w y n ys ns) {n' : Value} {x : Int} (h1 : OwnV B e 1 intC w' n' (ns ++ [x])) (hg : w.grownBy w' n.ownBlock) (ha : n'.ownBlock = n.ownBlock ∨ n'.ownBlock = some w.heap.size) : Two B e w' y n' ys (ns ++ [x]) :=
  ⟨h.oy.ne hg h.ne.symm, h1, (h.ne.symm.step (fun k hk => (h.oy.lt k hk).2) ha).symm⟩
end
end Go.G9
namespace Go.Proofs.YtbnncgahepcfnaaGreatDoor
open Go.RowKit Go.G9
theorem Cur.row {w w' : World} {p : Nat} {A : Option Addr} {c : Nat} {cs : List UInt8} {N : Nat} (h : Cur w p A c cs N) {row : Option Nat} (hg : w.grownBy w' row) (hr : ∀ k, row = some k → p < k) : Cur w' p A c cs N := by
  obtain ⟨⟨i, s, hB, h0, h1⟩, hR, hlo⟩ := h
  refine ⟨⟨i, s, (hg.block p hB.lt (fun e => by have := hr p e.symm; omega)).trans hB, h0, h1⟩, ?_, hlo⟩
  by_cases hn : 0 < cs.length
  · exact hR.grown hg (fun ad ha e => by have h1 := hlo ad ha hn; have h2 := hr _ e.symm; omega)
  · have : cs = [] := List.length_eq_zero_iff.1 (by omega)
    subst this; exact Rds.nil
theorem built_rdsV (w : World) (xs : List Int) (hm : xs.length ≤ maxLen) : Rds 1 intC (w.alloc (.cells (xs.flatMap intC).toArray 3)) (some ⟨w.heap.size, 0, none⟩) xs := (OwnV.built (B := w.heap.size) (f := intC) w xs 3 (Nat.le_refl _) hm intC_len).rds (hf := intC_len)
end Go.Proofs.YtbnncgahepcfnaaGreatDoor
/- A decided question drawn by the cursor. -/
namespace Go.Proofs.YtbnncgahepcfnaaGreatDoor
open Go.RowKit Go.G9
end Go.Proofs.YtbnncgahepcfnaaGreatDoor
