/- Sorting and compaction over slices of the call's own. -/
import Derived.Test.YthgaddnbgnennaaOwn
import Derived.Test.YthgaddnbgnennaaIdx
import Derived.Test.YthgaddnbgnennaaShelf
import Derived.Test.YthgaddnbgnennaaInt2
import Derived.Lib.OwnBridge
import Derived.Lib.SlicesCompact
namespace Go.G9
open Go.RowKit Go.Sort Go.Proofs
theorem flat_one {T : Type} (enc : T → Value) (xs : List T) : xs.flatMap (fun x => [enc x]) = xs.map enc := by induction xs <;> simp_all
theorem own_put {T : Type} [Inhabited T] {enc : T → Value} {B : Nat} {e : TypeId} {w : World} {g cap q k : Nat} {zs ys : List T} {os : Array Obj} (h : OwnV B e 1 (fun x => [enc x]) w (.slice (some ⟨g, 0, none⟩) zs.length cap) zs) (hy : ys.length = zs.length) (hk : k ≤ zs.length) :
    OwnV B e 1 (fun x => [enc x]) (grow (putRow enc (Sort.ahead w q) g 0 ys.toArray) os) (.slice (some ⟨g, 0, none⟩) k cap) (ys.take k) ∧ w.grownBy (grow (putRow enc (Sort.ahead w q) g 0 ys.toArray) os) (some g) := by
  have hg : w.grownBy (grow (putRow enc (Sort.ahead w q) g 0 ys.toArray) os) (some g) := by
    refine ⟨rfl, rfl, rfl, by simp, fun k hk hne => ?_⟩
    rw [heap_grow_old _ _ (by simpa using hk)]
    have : g ≠ k := fun e => hne (by rw [e])
    simp [putRow, mapBlock, Sort.ahead, Array.getElem?_modify, this]
  have h1 : w.ownsRow B e 1 (.slice (some ⟨g, 0, none⟩) zs.length cap) zs.length (zs.map enc) := by rw [← flat_one]; exact h
  have h2 := Lib.ownsRow_putRow (q := q) h1 hy hk
  refine ⟨?_, hg⟩
  unfold OwnV
  rw [flat_one, List.length_take, Nat.min_eq_left (by omega)]
  obtain ⟨hl, hc⟩ := h2
  refine ⟨hl, ?_⟩
  rcases hc with ⟨e0, _⟩ | ⟨g', cap', cur, e0, hB, hh, r⟩
  · cases e0
  · refine .inr ⟨g', cap', cur, e0, hB, ?_, r⟩
    rw [heap_grow_old _ _ (Array.getElem?_eq_some_iff.1 hh).1]; exact hh
theorem own_holds {T : Type} [Inhabited T] {enc : T → Value} {B : Nat} {e : TypeId} {w : World} {g cap : Nat} {zs : List T} (h : OwnV B e 1 (fun x => [enc x]) w (.slice (some ⟨g, 0, none⟩) zs.length cap) zs) :
    Holds enc w g 0 zs.toArray ∧ g < w.heap.size ∧ zs.length ≤ cap ∧ cap ≤ maxLen := by
  have h1 : w.ownsRow B e 1 (.slice (some ⟨g, 0, none⟩) zs.length cap) zs.length (zs.map enc) := by rw [← flat_one]; exact h
  obtain ⟨g', cap', e1, h2, h3, h4, h5, h6, h7⟩ := Lib.holds_of_ownsRow h1 (by intro e; cases e)
  injection e1 with e2 _ e4
  injection e2 with e2
  injection e2 with e2
  subst e2; subst e4
  exact ⟨h7, h3, h4, h5⟩
def sC (l : List UInt8) : List Value := [.string ⟨l.toArray⟩]
theorem sC_len (y : List UInt8) : (sC y).length = 1 := rfl
theorem sC_one (y : List UInt8) (u : Value) (h : u ∈ sC y) : u.oneCell' = true := by simp [sC] at h; subst h; rfl
theorem compact_len (ls : List (List UInt8)) : (Lib.compact ls).length ≤ ls.length := by
  unfold Lib.compact Lib.compactUpTo
  rw [List.length_map]
  exact Nat.le_trans (List.length_filter_le _ _) (by simp)
end Go.G9
namespace Go.Proofs.Ythgaddnbgnennaa
open Go.RowKit Go.G9 Go.Sort
theorem sortS_is (B g cap : Nat) (ls : List (List UInt8)) (hn : ls.length ≤ 1048576) (w : World) (hO : OwnV B 9 1 sC w (.slice (some ⟨g, 0, none⟩) ls.length cap) ls) :
  Calls Try.prog 77 #[.slice (some ⟨g, 0, none⟩) ls.length cap] w fun e w' => e = .returned (.tuple #[]) ∧ OwnV B 9 1 sC w' (.slice (some ⟨g, 0, none⟩) ls.length cap) (ls.mergeSort fun x y => decide (x ≤ y)) ∧ w.grownBy w' (some g) := by
  have hO' : OwnV B 9 1 (fun x => [encStr x]) w (.slice (some ⟨g, 0, none⟩) ls.length cap) ls := hO
  obtain ⟨h1, h2, h3, h4⟩ := own_holds hO'
  refine (Try.slices_Sort_string g 0 cap ls w h1 h2 (by omega)).mono ?_
  rintro e w' ⟨rfl, n, os, rfl⟩
  have hl : (ls.mergeSort fun x y => decide (x ≤ y)).length = ls.length := List.length_mergeSort _
  have h5 := own_put (q := n) (os := os) hO' hl (Nat.le_refl _)
  rw [List.take_of_length_le (by omega)] at h5
  exact ⟨rfl, h5⟩
theorem compactS_is (B g cap : Nat) (ls : List (List UInt8)) (hn : ls.length ≤ 1048576) (w : World) (hO : OwnV B 9 1 sC w (.slice (some ⟨g, 0, none⟩) ls.length cap) ls) :
  Calls Try.prog 78 #[.slice (some ⟨g, 0, none⟩) ls.length cap] w fun e w' => e = .returned (.slice (some ⟨g, 0, none⟩) (Lib.compact ls).length cap) ∧ OwnV B 9 1 sC w' (.slice (some ⟨g, 0, none⟩) (Lib.compact ls).length cap) (Lib.compact ls) ∧ w.grownBy w' (some g) := by
  have hO' : OwnV B 9 1 (fun x => [encStr x]) w (.slice (some ⟨g, 0, none⟩) ls.length cap) ls := hO
  obtain ⟨h1, h2, h3, h4⟩ := own_holds hO'
  refine (Try.slices_Compact_string g 0 cap ls w h1 (by omega) h3).mono ?_
  rintro e w' ⟨rfl, q, rfl⟩
  have hle := compact_len ls
  have h5 := own_put (q := q) (os := #[]) (ys := Lib.compact ls ++ List.replicate (ls.length - (Lib.compact ls).length) []) hO' (by simp; omega) hle
  rw [List.take_left' rfl, grow_empty] at h5
  exact ⟨rfl, h5⟩
theorem sortI_is (B g cap : Nat) (ls : List Int) (hn : ls.length ≤ 1048576) (w : World) (hO : OwnV B 3 1 intC w (.slice (some ⟨g, 0, none⟩) ls.length cap) ls) :
  Calls Try.prog 81 #[.slice (some ⟨g, 0, none⟩) ls.length cap] w fun e w' => e = .returned (.tuple #[]) ∧ OwnV B 3 1 intC w' (.slice (some ⟨g, 0, none⟩) ls.length cap) (ls.mergeSort fun x y => decide (x ≤ y)) ∧ w.grownBy w' (some g) := by
  have hO' : OwnV B 3 1 (fun x => [Value.int .i64 x]) w (.slice (some ⟨g, 0, none⟩) ls.length cap) ls := hO
  obtain ⟨h1, h2, h3, h4⟩ := own_holds hO'
  refine (Try.slices_Sort_int g 0 cap ls w h1 h2 (by omega)).mono ?_
  rintro e w' ⟨rfl, n, os, rfl⟩
  have hl : (ls.mergeSort fun x y => decide (x ≤ y)).length = ls.length := List.length_mergeSort _
  have h5 := own_put (q := n) (os := os) hO' hl (Nat.le_refl _)
  rw [List.take_of_length_le (by omega)] at h5
  exact ⟨rfl, h5⟩
end Go.Proofs.Ythgaddnbgnennaa
