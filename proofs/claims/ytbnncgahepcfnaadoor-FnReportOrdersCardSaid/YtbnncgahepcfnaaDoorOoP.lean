/- Ordered outcomes: the plain law of the insertion. -/
import Derived.Test.YtbnncgahepcfnaaDoorOoC
import Derived.Test.YtbnncgahepcfnaaDoorMark
namespace Go.Proofs.YtbnncgahepcfnaaDoor
open Go.RowKit Go.G9
def ooAt (xs : List Res) (x : Res) (z : Int) : Bool := match xs[z.toNat]? with | some y => decide (ooCmp x y < 0) | none => false
def scan (p : Int → Bool) (S : List Int) : Nat → Nat
  | 0 => 0
  | j + 1 => match S[j]? with | some z => if p z then scan p S j else j + 1 | none => j + 1
def insO (p : Int → Bool) (S : List Int) (z : Int) : List Int := S.take (scan p S S.length) ++ z :: S.drop (scan p S S.length)
def oo (xs : List Res) : Nat → List Int
  | 0 => []
  | i + 1 => match xs[i]? with | some x => insO (ooAt xs x) (oo xs i) i | none => oo xs i
def ooL (xs : List Res) : List Int := if reportB xs then oo xs xs.length else []
def rg (n : Nat) : List Int := (List.range n).map (fun (i : Nat) => (i : Int))
theorem rg_len (n : Nat) : (rg n).length = n := by simp [rg]
theorem rg_at {n k : Nat} (h : k < n) : (rg n)[k]? = some (k : Int) := by simp [rg, h]
theorem rg_drop {n k : Nat} (h : k < n) : (rg n).drop k = (k : Int) :: (rg n).drop (k + 1) := by
  have hk : k < (rg n).length := by rw [rg_len]; exact h
  rw [List.drop_eq_getElem_cons hk]
  congr 1
  have h2 := rg_at h
  rw [List.getElem?_eq_getElem hk] at h2
  exact Option.some.inj h2
theorem scan_le (p : Int → Bool) (S : List Int) : ∀ j, scan p S j ≤ j
  | 0 => Nat.le_refl _
  | j + 1 => by
    have := scan_le p S j
    unfold scan
    split
    · split <;> omega
    · omega
theorem scan_yes {p : Int → Bool} {S : List Int} {j : Nat} {z : Int} (hz : S[j]? = some z) (hp : p z = true) : scan p S (j + 1) = scan p S j := by
  rw [scan, hz]; simp [hp]
theorem scan_no {p : Int → Bool} {S : List Int} {j : Nat} {z : Int} (hz : S[j]? = some z) (hp : p z = false) : scan p S (j + 1) = j + 1 := by
  rw [scan, hz]; simp [hp]
theorem insO_len (p : Int → Bool) (S : List Int) (z : Int) : (insO p S z).length = S.length + 1 := by
  have := scan_le p S S.length
  simp [insO]; omega
theorem oo_len (xs : List Res) : ∀ k, k ≤ xs.length → (oo xs k).length = k
  | 0, _ => rfl
  | k + 1, h => by
    have ih := oo_len xs k (by omega)
    have hx : xs[k]? = some xs[k] := List.getElem?_eq_getElem (by omega)
    rw [oo, hx]
    simp [insO_len, ih]
theorem oo_mem (xs : List Res) : ∀ k, k ≤ xs.length → ∀ z ∈ oo xs k, ∃ i : Nat, i < k ∧ z = i
  | 0, _, z, hz => by simp [oo] at hz
  | k + 1, h, z, hz => by
    have ih := oo_mem xs k (by omega)
    have hx : xs[k]? = some xs[k] := List.getElem?_eq_getElem (by omega)
    rw [oo, hx] at hz
    simp only [insO, List.mem_append, List.mem_cons] at hz
    rcases hz with hz | rfl | hz
    · obtain ⟨i, h1, h2⟩ := ih z (List.mem_of_mem_take hz); exact ⟨i, by omega, h2⟩
    · exact ⟨k, by omega, rfl⟩
    · obtain ⟨i, h1, h2⟩ := ih z (List.mem_of_mem_drop hz); exact ⟨i, by omega, h2⟩
/-- The row while the element of k moves to its place j. -/
def rowE (xs : List Res) (k j : Nat) : List Int := (oo xs k).take j ++ (k : Int) :: ((oo xs k).drop j ++ (rg xs.length).drop (k + 1))
def rowD (xs : List Res) (k : Nat) : List Int := oo xs k ++ (rg xs.length).drop k
theorem rowD_E {xs : List Res} {k : Nat} (h : k < xs.length) : rowD xs k = rowE xs k k := by
  have hl := oo_len xs k (by omega)
  unfold rowD rowE
  rw [rg_drop h, List.take_of_length_le (by omega), List.drop_of_length_le (l := oo xs k) (by omega), List.nil_append]
theorem rowE_at {xs : List Res} {k j : Nat} (h : k < xs.length) (hj : j ≤ k) : (rowE xs k j)[j]? = some (k : Int) := by
  have hl := oo_len xs k (by omega)
  unfold rowE
  rw [List.getElem?_append_right (by simp; omega)]
  simp [hl, Nat.min_eq_left hj]
theorem rowE_pre {xs : List Res} {k j : Nat} {z : Int} (h : k < xs.length) (hj : j < k) (hz : (oo xs k)[j]? = some z) : (rowE xs k (j + 1))[j]? = some z := by
  have hl := oo_len xs k (by omega)
  unfold rowE
  rw [List.getElem?_append_left (by simp; omega), List.getElem?_take, if_pos (by omega)]
  exact hz
theorem rowE_split {xs : List Res} {k j : Nat} {z : Int} (h : k < xs.length) (hj : j < k) (hz : (oo xs k)[j]? = some z) :
    rowE xs k (j + 1) = (oo xs k).take j ++ (z :: (k : Int) :: ((oo xs k).drop (j + 1) ++ (rg xs.length).drop (k + 1))) ∧ rowE xs k j = (oo xs k).take j ++ ((k : Int) :: z :: ((oo xs k).drop (j + 1) ++ (rg xs.length).drop (k + 1))) := by
  have hl := oo_len xs k (by omega)
  have hjl : j < (oo xs k).length := by omega
  have hz' : (oo xs k)[j] = z := by rw [List.getElem?_eq_getElem hjl] at hz; exact Option.some.inj hz
  unfold rowE
  refine ⟨?_, ?_⟩
  · rw [List.take_succ_eq_append_getElem hjl, hz']; simp
  · rw [List.drop_eq_getElem_cons hjl, hz']; simp
theorem rowE_swap {xs : List Res} {k j : Nat} {z : Int} (h : k < xs.length) (hj : j < k) (hz : (oo xs k)[j]? = some z) :
    ((rowE xs k (j + 1)).set (j + 1) z).set j (k : Int) = rowE xs k j := by
  obtain ⟨e1, e2⟩ := rowE_split h hj hz
  have hl := oo_len xs k (by omega)
  have htl : ((oo xs k).take j).length = j := by rw [List.length_take]; omega
  rw [e1, e2]
  rw [List.set_append_right _ _ (by omega), htl, show j + 1 - j = 1 by omega, List.set_cons_succ, List.set_cons_zero, List.set_append_right _ _ (by omega), htl, Nat.sub_self, List.set_cons_zero]
theorem rowE_swap' {xs : List Res} {k j : Nat} {z : Int} (h : k < xs.length) (hj : j < k) (hz : (oo xs k)[j]? = some z) :
    ((rowE xs k (j + 1)).set j (k : Int)).set (j + 1) z = rowE xs k j := by
  rw [List.set_comm _ _ (by omega)]
  exact rowE_swap h hj hz
theorem rowE_end {xs : List Res} {k j : Nat} {x : Res} (h : k < xs.length) (hx : xs[k]? = some x) (hs : scan (ooAt xs x) (oo xs k) k = j) : rowE xs k j = rowD xs (k + 1) := by
  have hl := oo_len xs k (by omega)
  unfold rowE rowD
  rw [oo, hx]
  simp only [insO, hl, hs]
  simp
theorem rowE_len {xs : List Res} {k j : Nat} (h : k < xs.length) (hj : j ≤ k) : (rowE xs k j).length = xs.length := by
  have hl := oo_len xs k (by omega)
  simp [rowE, hl, rg_len]; omega
theorem own_cellI {B n c : Nat} {e : TypeId} {w : World} {g : Nat} {D : List Int} (hO : OwnV B e 1 intC w (.slice (some ⟨g, 0, none⟩) n c) D) {j : Nat} {z : Int} (hz : D[j]? = some z) : w.cell? ⟨g, j, none⟩ = some (.int .i64 z) ∧ w.frozen? ⟨g, j, none⟩ = false := by
  have hj : j < D.length := (List.getElem?_eq_some_iff.1 hz).1
  have hl : (D.flatMap intC).length = D.length := by rw [flat_len intC_len, Nat.mul_one]
  obtain ⟨h1, h2⟩ := ownsRow_cellAt (j := j) hO rfl (by rw [hl]; exact hj)
  refine ⟨h1.trans ?_, h2⟩
  have h3 := flat_get intC_len D j z hz 0 (.int .i64 z) rfl
  rw [Nat.mul_one, Nat.add_zero, List.getElem?_eq_getElem (by rw [hl]; exact hj)] at h3
  exact h3
theorem own_setI {B n c : Nat} {e : TypeId} {w : World} {g : Nat} {D : List Int} (hO : OwnV B e 1 intC w (.slice (some ⟨g, 0, none⟩) n c) D) {j : Nat} (hj : j < D.length) (y : Int) : OwnV B e 1 intC (w.setCell ⟨g, j, none⟩ (.int .i64 y)) (.slice (some ⟨g, 0, none⟩) n c) (D.set j y) := by
  have h := OwnV.setF (u := .int .i64 y) (i := j) (j := 0) (x := D[j]) (y := y) hO rfl intC_len (List.getElem?_eq_getElem hj) (by simp [intC]) (by decide)
  simpa using h
end Go.Proofs.YtbnncgahepcfnaaDoor
