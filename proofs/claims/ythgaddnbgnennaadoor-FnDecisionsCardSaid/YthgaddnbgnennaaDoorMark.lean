/- The text that stands for a mark. -/
import Derived.Test.YthgaddnbgnennaaDoorOwn
import Derived.Test.YthgaddnbgnennaaDoorStr
import Derived.Lib.SlBytesRow
namespace Go.Proofs.YthgaddnbgnennaaDoor
open Go.RowKit Go.G9
theorem flat_set {T : Type} {f : T → List Value} {sz : Nat} (hf : ∀ y, (f y).length = sz) : ∀ (xs : List T) (i : Nat) (x y : T) (j : Nat) (u : Value), xs[i]? = some x → f y = (f x).set j u → j < sz → (xs.flatMap f).set (i * sz + j) u = (xs.set i y).flatMap f
  | [], i, x, y, j, u, h, _, _ => by simp at h
  | a :: xs, 0, x, y, j, u, h, hy, hj => by
    simp at h; subst h
    simp only [List.flatMap_cons, List.set_cons_zero, Nat.zero_mul, Nat.zero_add, hy]
    rw [List.set_append_left _ _ (by rw [hf]; exact hj)]
  | a :: xs, i + 1, x, y, j, u, h, hy, hj => by
    have ih := flat_set hf xs i x y j u (by simpa using h) hy hj
    simp only [List.flatMap_cons, List.set_cons_succ]
    rw [List.set_append_right _ _ (by rw [hf, Nat.succ_mul]; omega), hf, show (i + 1) * sz + j - sz = i * sz + j by rw [Nat.succ_mul]; omega, ih]
theorem OwnV.setF {T : Type} {f : T → List Value} {B sz : Nat} {e : TypeId} {w : World} {v : Value} {xs : List T} {g : Nat} (hO : OwnV B e sz f w v xs) (hg : v.ownBlock = some g) (hf : ∀ y, (f y).length = sz) {i j : Nat} {x y : T} {u : Value} (hx : xs[i]? = some x) (hy : f y = (f x).set j u) (hj : j < sz) :
    OwnV B e sz f (w.setCell ⟨g, i * sz + j, none⟩ u) v (xs.set i y) := by
  have h := ownsRow_set (j := i * sz + j) (u := u) hO hg
  rw [flat_set hf xs i x y j u hx hy hj] at h
  unfold OwnV
  rw [List.length_set]
  exact h
def markD (k : Nat) : ByteArray := if _h : k = 0 then ⟨#[]⟩ else markD (k / 10) ++ ⟨#[48 + UInt8.ofNat (k % 10)]⟩
termination_by k
decreasing_by omega
def markS (k : Nat) : ByteArray := ⟨#[109]⟩ ++ markD k
end Go.Proofs.YthgaddnbgnennaaDoor
