/- Marks: what a slice holds behind the marks, and that it is held. -/
import Derived.Test.YtbnncgahepcfnaaDoorMark
namespace Go.G9
open Go.RowKit
/-- The first marks of n elements of s fields each. -/
def mks (m s : Int) (n : Nat) : List Int := (List.range n).map fun (i : Nat) => m + s * (i : Int)
theorem setMany_one (cs : Array Value) (i : Nat) (a : Value) (bs : List Value) : setMany (setMany cs i [a]) (i + 1) bs = setMany cs i (a :: bs) := rfl
theorem mks_len (m s : Int) (n : Nat) : (mks m s n).length = n := by simp [mks]
theorem mks_get {m s : Int} {n k : Nat} (h : k < n) : (mks m s n)[k]? = some (m + s * k) := by simp [mks, h]
section
variable {T U : Type} {B : Nat} {e : TypeId} {sz : Nat} {f : T → List Value} {h : U → List Value} {w w' : World} {v : Value} {xs : List T}
theorem OwnV.block (hO : OwnV B e sz f w v xs) (hn : 0 < xs.length) : ∃ g cap cur, v = .slice (some ⟨g, 0, none⟩) xs.length cap ∧ B ≤ g ∧ Blk w g e cur ∧ xs.length ≤ cap ∧ cap ≤ maxLen ∧ cur.size = cap * sz := by
  rcases hO.2 with ⟨_, h0⟩ | ⟨g, cap, cur, hv, hB, hh, hnc, hcm, hcs, _⟩
  · omega
  · exact ⟨g, cap, cur, hv, hB, hh, hnc, hcm, hcs⟩
theorem OwnV.empty {A : Option Addr} {n c : Nat} {m s : Int} (hO : OwnV B e sz f w (.slice A n c) ([] : List T)) {p : Int → List Value} : OwnV B e sz p w (.slice A 0 c) (mks m s 0) := by
  obtain ⟨hl, hO⟩ := hO
  refine ⟨by simp [mks], ?_⟩
  rcases hO with ⟨hv, h0⟩ | ⟨g, cap, cur, hv, hB, hh, hnc, hcm, hcs, htake⟩
  · injection hv with h1 h2 h3
    subst h1 h2 h3
    exact .inl ⟨rfl, by simp [mks]⟩
  · injection hv with h1 h2 h3
    subst h1 h3
    simp at h2
    exact .inr ⟨g, c, cur, by simp [mks], hB, hh, by simp [mks], hcm, hcs, by simp [mks]⟩
theorem OwnV.ofBlk {g cap : Nat} {cs : Array Value} (hb : Blk w g e cs) (hB : B ≤ g) (hc : xs.length ≤ cap) (hm : cap ≤ maxLen) (hsz : cs.size = cap * sz) (hF : ∀ i x, xs[i]? = some x → ∀ j u, (f x)[j]? = some u → cs[i * sz + j]? = some u)
    (hf : ∀ y, (f y).length = sz := by intro y; rfl) : OwnV B e sz f w (.slice (some ⟨g, 0, none⟩) xs.length cap) xs := by
  refine ⟨flat_len hf xs, .inr ⟨g, cap, cs, rfl, hB, hb, hc, hm, hsz, ?_⟩⟩
  have hle : xs.length * sz ≤ cap * sz := Nat.mul_le_mul_right sz hc
  apply List.ext_getElem?
  intro k
  rw [List.getElem?_take]
  by_cases hk : k < (xs.flatMap f).length
  · obtain ⟨i, j, x, hx, hj, rfl⟩ := flat_inv hf xs k _ (List.getElem?_eq_getElem hk)
    rw [flat_len hf] at hk
    rw [if_pos hk, List.getElem?_eq_getElem (l := xs.flatMap f) (by rw [flat_len hf]; exact hk), ← hF i x hx j _ hj]; simp
  · rw [flat_len hf] at hk
    rw [if_neg hk, List.getElem?_eq_none (by rw [flat_len hf]; omega)]
end
end Go.G9
namespace Go.Proofs.YtbnncgahepcfnaaDoor
open Go.RowKit Go.G9
theorem markTextI_is (z : Int) (h0 : 0 < z) (h1 : z ≤ 1000000000) (w : World) : Calls Tryd.prog 80 #[.int .i64 z] w fun e w' => e = .returned (.string (markS z.toNat)) ∧ Below w.heap.size w w' := by
  have h := markText_is z.toNat (by omega) (by omega) w
  rw [show ((z.toNat : Nat) : Int) = z from Int.toNat_of_nonneg (by omega)] at h
  exact h
end Go.Proofs.YtbnncgahepcfnaaDoor
