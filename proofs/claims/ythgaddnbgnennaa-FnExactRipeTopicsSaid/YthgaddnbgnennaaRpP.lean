/- Ripe topics: the plain law (sorted lists of strings, insertion, compaction). -/
import Derived.Test.YthgaddnbgnennaaAbP
import Derived.Lib.SlicesCompact
namespace Go.G9
abbrev S8 := List UInt8
theorem s8_irr (a : S8) : ¬ a < a := List.lt_irrefl a
theorem s8_tr (a b c : S8) (h : a < b) (k : b < c) : a < c := List.lt_trans h k
theorem s8_tri (a b : S8) (h : ¬ a < b) (k : a ≠ b) : b < a := by
  have h1 : b ≤ a := List.not_lt.1 h
  rcases List.le_iff_lt_or_eq.1 h1 with h2 | h2
  · exact h2
  · exact absurd h2.symm k
/-- A string put in its place. -/
def insT (s : S8) : List S8 → List S8
  | [] => [s]
  | y :: ys => if y < s then y :: insT s ys else if y = s then y :: ys else s :: y :: ys
theorem insT_mem (s : S8) : ∀ (out : List S8) (x : S8), x ∈ insT s out ↔ x = s ∨ x ∈ out
  | [], x => by simp [insT]
  | y :: ys, x => by
    unfold insT
    split
    · rw [List.mem_cons, insT_mem s ys, List.mem_cons]
      constructor
      · rintro (h | h | h)
        · exact .inr (.inl h)
        · exact .inl h
        · exact .inr (.inr h)
      · rintro (h | h | h)
        · exact .inr (.inl h)
        · exact .inl h
        · exact .inr (.inr h)
    · split
      · rename_i h; subst h; simp
      · simp
theorem insT_pw (s : S8) : ∀ out : List S8, out.Pairwise (· < ·) → (insT s out).Pairwise (· < ·)
  | [], _ => by simp [insT]
  | y :: ys, h => by
    obtain ⟨h1, h2⟩ := List.pairwise_cons.1 h
    unfold insT
    split
    · rename_i hy
      refine List.pairwise_cons.2 ⟨fun x hx => ?_, insT_pw s ys h2⟩
      rcases (insT_mem s ys x).1 hx with rfl | hx
      · exact hy
      · exact h1 x hx
    · split
      · exact h
      · rename_i hy hn
        have hs := s8_tri y s hy hn
        refine List.pairwise_cons.2 ⟨fun x hx => ?_, h⟩
        rcases List.mem_cons.1 hx with rfl | hx
        · exact hs
        · exact s8_tr _ _ _ hs (h1 x hx)
theorem insT_at (s : S8) : ∀ (out : List S8) (k : Nat), k ≤ out.length → (∀ j x, j < k → out[j]? = some x → x < s) → insT s out = out.take k ++ insT s (out.drop k)
  | out, 0, _, _ => by simp
  | [], k + 1, h, _ => by simp at h
  | y :: ys, k + 1, h, hj => by
    have hy := hj 0 y (by omega) rfl
    rw [insT, if_pos hy, insT_at s ys k (by simpa using h) (fun j x hjk hx => hj (j + 1) x (by omega) hx)]
    rfl
theorem insT_end {s : S8} {out : List S8} (h : ∀ j x, j < out.length → out[j]? = some x → x < s) : insT s out = out ++ [s] := by
  rw [insT_at s out out.length (Nat.le_refl _) h]
  simp [insT]
theorem insT_same {s : S8} {out : List S8} {k : Nat} (h : ∀ j x, j < k → out[j]? = some x → x < s) (hk : out[k]? = some s) : insT s out = out := by
  obtain ⟨h1, h2⟩ := List.getElem?_eq_some_iff.1 hk
  rw [insT_at s out k (by omega) h, List.drop_eq_getElem_cons h1, h2, insT, if_neg (s8_irr s), if_pos rfl]
  conv => rhs; rw [← List.take_append_drop k out, List.drop_eq_getElem_cons h1, h2]
theorem insT_mid {s y : S8} {out : List S8} {k : Nat} (h : ∀ j x, j < k → out[j]? = some x → x < s) (hk : out[k]? = some y) (h1 : ¬ y < s) (h2 : y ≠ s) : insT s out = out.take k ++ s :: out.drop k := by
  obtain ⟨h3, h4⟩ := List.getElem?_eq_some_iff.1 hk
  rw [insT_at s out k (by omega) h, List.drop_eq_getElem_cons h3, h4, insT, if_neg h1, if_neg h2]
theorem insT_len (s : S8) (out : List S8) : (insT s out).length ≤ out.length + 1 := by
  induction out with
  | nil => simp [insT]
  | cons y ys ih =>
    unfold insT
    split
    · simp; omega
    · split <;> simp
theorem comp_inv (d : Array S8) (hs : ∀ i j, i ≤ j → j < d.size → d[i]! ≤ d[j]!) : ∀ m, m ≤ d.size → (Lib.compactUpTo d m).Pairwise (· < ·) ∧ ∀ x, x ∈ Lib.compactUpTo d m ↔ ∃ j, j < m ∧ d[j]! = x
  | 0, _ => by simp [Lib.compactUpTo]
  | m + 1, hm => by
    obtain ⟨h1, h2⟩ := comp_inv d hs m (by omega)
    rw [Lib.compactUpTo_succ]
    by_cases hk : Lib.keeps d m = true
    · rw [if_pos hk]
      refine ⟨List.pairwise_append.2 ⟨h1, by simp, fun a ha b hb => ?_⟩, fun x => ?_⟩
      · simp at hb; subst hb
        obtain ⟨j, hj, rfl⟩ := (h2 a).1 ha
        have hne : d[m]! ≠ d[m - 1]! := by
          unfold Lib.keeps at hk
          simp only [decide_eq_true_eq] at hk
          rcases hk with h | h
          · omega
          · exact h
        have a1 := hs j (m - 1) (by omega) (by omega)
        have a2 := hs (m - 1) m (by omega) (by omega)
        have a3 : d[m - 1]! < d[m]! := by
          rcases List.le_iff_lt_or_eq.1 a2 with h | h
          · exact h
          · exact absurd h.symm hne
        rcases List.le_iff_lt_or_eq.1 a1 with h | h
        · exact s8_tr _ _ _ h a3
        · rw [h]; exact a3
      · rw [List.mem_append, h2 x]
        constructor
        · rintro (⟨j, hj, e⟩ | e)
          · exact ⟨j, by omega, e⟩
          · simp at e; exact ⟨m, by omega, e.symm⟩
        · rintro ⟨j, hj, e⟩
          by_cases hjm : j = m
          · subst hjm; right; simp [e]
          · left; exact ⟨j, by omega, e⟩
    · rw [if_neg hk, List.append_nil]
      refine ⟨h1, fun x => ?_⟩
      rw [h2 x]
      constructor
      · rintro ⟨j, hj, e⟩; exact ⟨j, by omega, e⟩
      · rintro ⟨j, hj, e⟩
        by_cases hjm : j = m
        · subst hjm
          unfold Lib.keeps at hk
          simp only [decide_eq_true_eq, not_or, ne_eq, Decidable.not_not] at hk
          exact ⟨j - 1, by omega, by rw [← hk.2]; exact e⟩
        · exact ⟨j, by omega, e⟩
/-- Sorted and compacted is the rising list of the same members. -/
theorem comp_sort {ts out : List S8} (ho : out.Pairwise (· < ·)) (hm : ∀ x, x ∈ out ↔ x ∈ ts) : Lib.compact (ts.mergeSort fun x y => decide (x ≤ y)) = out := by
  have hp : (ts.mergeSort fun x y => decide (x ≤ y)).Perm ts := List.mergeSort_perm _ _
  have hs : (ts.mergeSort fun x y => decide (x ≤ y)).Pairwise (fun a b => decide (a ≤ b) = true) := List.pairwise_mergeSort (fun a b c h1 h2 => by
    simp only [decide_eq_true_eq] at h1 h2 ⊢; exact List.le_trans h1 h2) (fun a b => by
    simp only [Bool.or_eq_true, decide_eq_true_eq]; exact List.le_total a b) _
  generalize (ts.mergeSort fun x y => decide (x ≤ y)) = zs at hp hs ⊢
  have hs' : ∀ i j, i ≤ j → j < zs.toArray.size → zs.toArray[i]! ≤ zs.toArray[j]! := fun i j hij hj => by
    rw [List.size_toArray] at hj
    rw [getElem!_pos zs.toArray i (by simp; omega), getElem!_pos zs.toArray j (by simpa using hj)]
    simp only [List.getElem_toArray]
    by_cases e : i = j
    · subst e; exact List.le_refl _
    · have := List.pairwise_iff_getElem.1 hs i j (by omega) hj (by omega)
      simpa using this
  have h := comp_inv zs.toArray hs' zs.length (by simp)
  refine sorted_ext (lt := (· < ·)) s8_irr s8_tr h.1 ho fun x => ?_
  rw [hm x, ← hp.mem_iff]
  show x ∈ Lib.compactUpTo zs.toArray zs.length ↔ _
  rw [h.2 x, List.mem_iff_getElem]
  constructor
  · rintro ⟨j, hj, e⟩
    rw [getElem!_pos zs.toArray j (by simpa using hj)] at e
    exact ⟨j, hj, by simpa using e⟩
  · rintro ⟨j, hj, e⟩
    exact ⟨j, hj, by rw [getElem!_pos zs.toArray j (by simpa using hj)]; simpa using e⟩
end Go.G9
