/- Slices of the call's own that lie between two numbers of blocks; worlds that have turned in some of them. -/
import Derived.Test.YtbnncgahepcfnaaDoorMk
import Derived.Test.YtbnncgahepcfnaaDoorBlk
namespace Go.G9
open Go.RowKit
def Within (vs : List Value) (a b : Nat) : Prop := ∀ v ∈ vs, ∀ k, v.ownBlock = some k → a ≤ k ∧ k < b
/-- As w was, but for the blocks of vs. -/
structure GrownL (w w' : World) (vs : List Value) : Prop where
  os : w'.os = w.os
  tape : w'.tape = w.tape
  output : w'.output = w.output
  size : w.heap.size ≤ w'.heap.size
  block : ∀ i, i < w.heap.size → (∀ v ∈ vs, v.ownBlock ≠ some i) → w'.heap[i]? = w.heap[i]?
theorem grownL_one {w w' : World} {v : Value} (h : w.grownBy w' v.ownBlock) : GrownL w w' [v] :=
  ⟨h.os, h.tape, h.output, h.size, fun i hi hv => h.block i hi (fun e => hv v (List.mem_singleton.2 rfl) e.symm)⟩
theorem GrownL.trans {w w1 w2 : World} {vs us : List Value} (h : GrownL w w1 vs) (k : GrownL w1 w2 us) : GrownL w w2 (vs ++ us) :=
  ⟨k.os.trans h.os, k.tape.trans h.tape, k.output.trans h.output, Nat.le_trans h.size k.size, fun i hi hv => (k.block i (Nat.lt_of_lt_of_le hi h.size) (fun v hm => hv v (List.mem_append_right _ hm))).trans (h.block i hi (fun v hm => hv v (List.mem_append_left _ hm)))⟩
theorem GrownL.of_below {w w' : World} {vs : List Value} (h : Below w.heap.size w w') : GrownL w w' vs := ⟨h.os, h.tape, h.output, h.size, fun i hi _ => h.block i hi⟩
theorem GrownL.below {w w' : World} {us : List Value} {B c d : Nat} (h : GrownL w w' us) (hu : Within us c d) (hc : B ≤ c) (hB : B ≤ w.heap.size) : Below B w w' :=
  ⟨h.os, h.tape, h.output, h.size, fun i hi => h.block i (Nat.lt_of_lt_of_le hi hB) (fun v hv e => by have := (hu v hv i e).1; omega)⟩
theorem OwnV.keptL {T : Type} {B : Nat} {e : TypeId} {sz : Nat} {f : T → List Value} {w w' : World} {v : Value} {xs : List T} {us vs : List Value} {a b c d : Nat} (h : OwnV B e sz f w v xs) (hg : GrownL w w' us) (hv : Within vs a b) (hu : Within us c d) (hm : v ∈ vs) (hlt : b ≤ c ∨ d ≤ a) :
    OwnV B e sz f w' v xs := by
  have hl := h.lt
  refine ⟨h.1, ?_⟩
  rcases h.2 with hn | ⟨g, cap, cur, rfl, hB, hh, r⟩
  · exact .inl hn
  · have hg1 := hv _ hm g rfl
    exact .inr ⟨g, cap, cur, rfl, hB, by rw [hg.block g (hl g rfl).2 (fun u hu' e => by have := hu u hu' g e; omega)]; exact hh, r⟩
theorem OwnV.keptN {T : Type} {B : Nat} {e : TypeId} {sz : Nat} {f : T → List Value} {w w' : World} {v : Value} {xs : List T} {us : List Value} (h : OwnV B e sz f w v xs) (hg : GrownL w w' us) (hne : ∀ k, v.ownBlock = some k → ∀ u ∈ us, u.ownBlock ≠ some k) : OwnV B e sz f w' v xs := by
  have hl := h.lt
  refine ⟨h.1, ?_⟩
  rcases h.2 with hn | ⟨g, cap, cur, rfl, hB, hh, r⟩
  · exact .inl hn
  · exact .inr ⟨g, cap, cur, rfl, hB, by rw [hg.block g (hl g rfl).2 (hne g rfl)]; exact hh, r⟩
theorem Blk.keptL {w w' : World} {g : Nat} {t : TypeId} {cs : Array Value} {us : List Value} {c d : Nat} (h : Blk w g t cs) (hg : GrownL w w' us) (hu : Within us c d) (hlt : g < c ∨ d ≤ g) : Blk w' g t cs :=
  (hg.block g h.lt (fun u hu' e => by have := hu u hu' g e; omega)).trans h
/-- No two of these values own one block. -/
def Apart (vs : List Value) : Prop := vs.Pairwise fun u v => ∀ k, u.ownBlock = some k → some k ≠ v.ownBlock
theorem Apart.at {vs : List Value} (h : Apart vs) {i j : Nat} (hij : i < j) {u v : Value} (hu : vs[i]? = some u) (hv : vs[j]? = some v) : ∀ k, u.ownBlock = some k → some k ≠ v.ownBlock := by
  obtain ⟨hi, rfl⟩ := List.getElem?_eq_some_iff.1 hu
  obtain ⟨hj, rfl⟩ := List.getElem?_eq_some_iff.1 hv
  exact (List.pairwise_iff_getElem.1 h) i j hi hj hij
theorem apart2 {u v : Value} (h : ∀ k, u.ownBlock = some k → some k ≠ v.ownBlock) : Apart [u, v] :=
  .cons (fun x hx => by simp only [List.mem_singleton] at hx; subst hx; exact h) (.cons (fun _ h => by cases h) .nil)
theorem apart_of {vs : List Value} (h : ∀ (i j : Nat) (u v : Value), i < j → vs[i]? = some u → vs[j]? = some v → ∀ k, u.ownBlock = some k → some k ≠ v.ownBlock) : Apart vs :=
  List.pairwise_iff_getElem.2 fun i j hi hj hij => h i j _ _ hij (List.getElem?_eq_getElem hi) (List.getElem?_eq_getElem hj)
end Go.G9
