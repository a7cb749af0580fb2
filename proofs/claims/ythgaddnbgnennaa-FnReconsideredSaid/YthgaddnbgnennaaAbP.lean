/- Absent members: the plain law. -/
import Derived.Test.YthgaddnbgnennaaDec4
namespace Go.G9
theorem sorted_ext {T : Type} {lt : T → T → Prop} (irr : ∀ a, ¬ lt a a) (tr : ∀ a b c, lt a b → lt b c → lt a c) : ∀ {xs ys : List T}, xs.Pairwise lt → ys.Pairwise lt → (∀ x, x ∈ xs ↔ x ∈ ys) → xs = ys
  | [], [], _, _, _ => rfl
  | [], y :: ys, _, _, h => absurd ((h y).2 (by simp)) (by simp)
  | x :: xs, [], _, _, h => absurd ((h x).1 (by simp)) (by simp)
  | x :: xs, y :: ys, hx, hy, h => by
    obtain ⟨hx1, hx2⟩ := List.pairwise_cons.1 hx
    obtain ⟨hy1, hy2⟩ := List.pairwise_cons.1 hy
    have e : x = y := by
      rcases List.mem_cons.1 ((h x).1 (by simp)) with e | e
      · exact e
      · rcases List.mem_cons.1 ((h y).2 (by simp)) with e' | e'
        · exact e'.symm
        · exact absurd (tr _ _ _ (hy1 _ e) (hx1 _ e')) (irr _)
    subst e
    rw [sorted_ext irr tr hx2 hy2]
    intro z
    constructor
    · intro hz
      rcases List.mem_cons.1 ((h z).1 (List.mem_cons_of_mem _ hz)) with rfl | e
      · exact absurd (hx1 _ hz) (irr _)
      · exact e
    · intro hz
      rcases List.mem_cons.1 ((h z).2 (List.mem_cons_of_mem _ hz)) with rfl | e
      · exact absurd (hy1 _ hz) (irr _)
      · exact e
end Go.G9
namespace Go.Proofs.Ythgaddnbgnennaa
open Go.RowKit Go.G9
theorem asc_at {xs : List Int} {lo hi : Int} (h : ascB xs lo hi = true) (k : Nat) (hk : k < xs.length) : lo ≤ xs[k] ∧ xs[k] ≤ hi ∧ (∀ j (hj : k = j + 1), xs[j]'(by omega) < xs[k]) := by
  have h0 := allTo_iff.1 h k hk
  cases k with
  | zero =>
    simp only [ascStep, List.getElem?_eq_getElem hk] at h0
    have h1 := inB_iff.1 h0
    exact ⟨h1.1, h1.2, fun j hj => by omega⟩
  | succ j =>
    have hj : j < xs.length := by omega
    simp only [ascStep, List.getElem?_eq_getElem hk, List.getElem?_eq_getElem hj, Bool.and_eq_true, decide_eq_true_eq] at h0
    have h1 := inB_iff.1 h0.1
    exact ⟨h1.1, h1.2, fun i hi => by cases hi; exact h0.2⟩
theorem asc_pw {xs : List Int} {lo hi : Int} (h : ascB xs lo hi = true) : xs.Pairwise (· < ·) := by
  rw [List.pairwise_iff_getElem]
  intro i j hi hj hij
  induction j with
  | zero => omega
  | succ j ih =>
    have h1 := (asc_at h (j + 1) hj).2.2 j rfl
    by_cases e : i = j
    · subst e; exact h1
    · have := ih (by omega) (by omega); omega
theorem asc_mem {xs : List Int} {lo hi : Int} (h : ascB xs lo hi = true) : ∀ x ∈ xs, lo ≤ x ∧ x ≤ hi := by
  intro x hx
  obtain ⟨k, hk, rfl⟩ := List.mem_iff_getElem.1 hx
  have := asc_at h k hk
  exact ⟨this.1, this.2.1⟩
theorem hasB_mem {xs : List Int} {n : Int} : hasB xs n = true ↔ n ∈ xs := by
  unfold hasB
  rw [List.any_eq_true]
  constructor
  · rintro ⟨x, hx, h⟩; simp at h; subst h; exact hx
  · intro h; exact ⟨n, h, by simp⟩
theorem hasB_nmem {xs : List Int} {n : Int} : hasB xs n = false ↔ n ∉ xs := by rw [← Bool.not_eq_true, hasB_mem]
theorem sidesB_facts {ys ns : List Int} (h : sidesB ys ns = true) : ys.Pairwise (· < ·) ∧ ns.Pairwise (· < ·) ∧ (∀ x ∈ ys, 1 ≤ x ∧ x ≤ 99) ∧ (∀ x ∈ ns, 1 ≤ x ∧ x ≤ 99) ∧ ∀ x ∈ ys, x ∉ ns := by
  simp only [sidesB, Bool.and_eq_true, decide_eq_true_eq, Bool.not_eq_true', List.any_eq_false] at h
  obtain ⟨_, _, h1, h2, h3⟩ := h
  exact ⟨asc_pw h1, asc_pw h2, asc_mem h1, asc_mem h2, fun x hx hm => h3 x hx (hasB_mem.2 hm)⟩
theorem mems_mem (p : Int → Bool) : ∀ (k : Nat) (x : Int), x ∈ mems p k ↔ p x = true ∧ 1 ≤ x ∧ x ≤ (k : Int)
  | 0, x => by simp [mems]; omega
  | k + 1, x => by
    rw [mems, List.mem_append, mems_mem p k x]
    by_cases hp : p ((k : Int) + 1) = true
    · rw [if_pos hp]; simp only [List.mem_singleton]
      constructor
      · rintro (⟨a, b, c⟩ | rfl)
        · exact ⟨a, b, by omega⟩
        · exact ⟨hp, by omega, by omega⟩
      · rintro ⟨a, b, c⟩
        by_cases e : x = (k : Int) + 1
        · exact .inr e
        · exact .inl ⟨a, b, by omega⟩
    · rw [if_neg hp]; simp only [List.not_mem_nil, or_false]
      constructor
      · rintro ⟨a, b, c⟩; exact ⟨a, b, by omega⟩
      · rintro ⟨a, b, c⟩
        refine ⟨a, b, ?_⟩
        by_cases e : x = (k : Int) + 1
        · subst e; exact absurd a hp
        · omega
theorem mems_pw (p : Int → Bool) : ∀ k, (mems p k).Pairwise (· < ·)
  | 0 => by simp [mems]
  | k + 1 => by
    rw [mems, List.pairwise_append]
    refine ⟨mems_pw p k, by split <;> simp, fun a ha b hb => ?_⟩
    have := (mems_mem p k a).1 ha
    split at hb
    · simp at hb; omega
    · simp at hb
def abP (d : Dec) (ys ns : List Int) (m : Int) : Bool := (hasB ys m || hasB ns m) && (!hasB d.yes m && !hasB d.no m)
def abL (d : Dec) (ys ns : List Int) : List Int := if cmOk d ys ns then mems (abP d ys ns) 99 else []
theorem abL_len (d : Dec) (ys ns : List Int) : (abL d ys ns).length ≤ 99 := by
  unfold abL; split
  · exact mems_len _ _
  · simp
theorem ab_sort (d : Dec) {ys ns : List Int} (h : sidesB ys ns = true) : ((ys ++ ns).mergeSort fun x y => decide (x ≤ y)).filter (fun x => !(hasB d.yes x || hasB d.no x)) = mems (abP d ys ns) 99 := by
  obtain ⟨h1, h2, h3, h4, h5⟩ := sidesB_facts h
  have hp : ((ys ++ ns).mergeSort fun x y => decide (x ≤ y)).Perm (ys ++ ns) := List.mergeSort_perm _ _
  have hs : ((ys ++ ns).mergeSort fun x y => decide (x ≤ y)).Pairwise (fun a b => decide (a ≤ b) = true) := List.pairwise_mergeSort (fun a b c h1 h2 => by simp at h1 h2 ⊢; omega) (fun a b => by simp; omega) _
  have hd : (ys ++ ns).Pairwise (· ≠ ·) := List.pairwise_append.2 ⟨h1.imp (fun h => by omega), h2.imp (fun h => by omega), fun a ha b hb e => h5 a ha (e ▸ hb)⟩
  have hd' : ((ys ++ ns).mergeSort fun x y => decide (x ≤ y)).Pairwise (· ≠ ·) := hp.symm.pairwise hd (fun h => h.symm)
  have hlt : ((ys ++ ns).mergeSort fun x y => decide (x ≤ y)).Pairwise (· < ·) := (hs.and hd').imp fun h => by
    have a := h.1; have b := h.2; simp at a; omega
  refine sorted_ext (lt := (· < ·)) (fun a => by omega) (fun a b c => by omega) (hlt.filter _) (mems_pw _ _) fun x => ?_
  rw [mems_mem, List.mem_filter, hp.mem_iff, List.mem_append]
  unfold abP
  simp only [Bool.and_eq_true, Bool.or_eq_true, Bool.not_eq_true', Bool.or_eq_false_iff, hasB_mem, hasB_nmem]
  constructor
  · rintro ⟨hm, ha, hb⟩
    have : 1 ≤ x ∧ x ≤ 99 := by rcases hm with hm | hm; exact h3 x hm; exact h4 x hm
    exact ⟨⟨hm, ha, hb⟩, this.1, by simpa using this.2⟩
  · rintro ⟨⟨hm, ha, hb⟩, _⟩
    exact ⟨hm, ha, hb⟩
/-- Who changed sides voted twice; who was absent did not vote before. -/
theorem cm_fact {d : Dec} {ys ns : List Int} (h : cmOk d ys ns = true) {x : Int} (hx : x ∈ cmL d ys ns) : hasB d.yes x = hasB ns x ∧ hasB d.no x = hasB ys x ∧ hasB (abL d ys ns) x = false := by
  unfold cmOk at h
  rw [Bool.and_eq_true] at h
  have g1 : sidesB d.yes d.no = true := by have := h.1; unfold decB at this; simp only [Bool.and_eq_true] at this; exact this.2.2.2
  have f1 := (sidesB_facts g1).2.2.2.2
  have f2 := (sidesB_facts h.2).2.2.2.2
  unfold cmL at hx
  rw [if_pos (by unfold cmOk; rw [h.1, h.2]; rfl), mems_mem] at hx
  have hc := hx.1
  unfold cmP at hc
  simp only [Bool.or_eq_true, Bool.and_eq_true] at hc
  have hab : hasB (abL d ys ns) x = false := by
    rw [hasB_nmem]
    unfold abL
    rw [if_pos (by unfold cmOk; rw [h.1, h.2]; rfl), mems_mem]
    rintro ⟨hm, _⟩
    unfold abP at hm
    simp only [Bool.and_eq_true, Bool.not_eq_true'] at hm
    rcases hc with ⟨a, _⟩ | ⟨a, _⟩
    · rw [hm.2.1] at a; cases a
    · rw [hm.2.2] at a; cases a
  rcases hc with ⟨a, b⟩ | ⟨a, b⟩
  · refine ⟨by rw [a, b], ?_, hab⟩
    rw [hasB_nmem.2 (f1 x (hasB_mem.1 a)), hasB_nmem.2 (fun hm => f2 x hm (hasB_mem.1 b))]
  · refine ⟨?_, by rw [a, b], hab⟩
    rw [hasB_nmem.2 (fun hm => f1 x hm (hasB_mem.1 a)), hasB_nmem.2 (f2 x (hasB_mem.1 b))]
theorem ab_fact {d : Dec} {ys ns : List Int} {x : Int} (hx : x ∈ abL d ys ns) : hasB d.yes x = false ∧ hasB d.no x = false := by
  unfold abL at hx
  split at hx
  · rw [mems_mem] at hx
    have hm := hx.1
    unfold abP at hm
    simp only [Bool.and_eq_true, Bool.not_eq_true'] at hm
    exact hm.2
  · simp at hx
end Go.Proofs.Ythgaddnbgnennaa
