/- Plain law of the log: the records of a prefix. -/
import Derived.Test.YtpejnfhenpdobaaDoorLog7
namespace Go.Proofs.YtpejnfhenpdobaaDoor
open Go.RowKit Go.G9
theorem hasC_app (c : UInt8) (a b : L8) : hasC c (a ++ b) = (hasC c a || hasC c b) := by unfold hasC; simp
theorem bef_app' {c : UInt8} {a b : L8} (h : hasC c a = true) : bef c (a ++ b) = bef c a := by
  have := split_at (hasC_mem.1 h)
  have hn := bef_not (c := c) a
  conv => lhs; rw [this, List.append_assoc, List.cons_append]
  exact bef_app hn
/-- What a prefix reads. -/
theorem rd1_pre (d p : L8) (k : Nat) : (∀ c r n, rd1 (d ++ p) k = some (c, r, n) → n ≤ d.length → rd1 d k = some (c, r, n)) ∧ (∀ c r n, rd1 (d ++ p) k = some (c, r, n) → d.length < n → rd1 d k = none) ∧ (rd1 (d ++ p) k = none → rd1 d k = none) := by
  cases hd : hasC 10 d
  · have h0 : rd1 d k = none := by unfold rd1; rw [hd]; rfl
    refine ⟨fun c r n h hn => ?_, fun _ _ _ _ _ => h0, fun _ => h0⟩
    obtain ⟨h1, h2, rfl, h4⟩ := rd1_some h
    exfalso
    have h5 : d = (lineL k c r ++ 10 :: aft 10 (d ++ p)).take d.length := by rw [← h4]; simp
    refine hasC_not.1 hd ?_
    rw [h5, List.take_append, List.mem_append]
    refine .inr ?_
    rw [show d.length - (lineL k c r).length = (d.length - ((lineL k c r).length + 1)) + 1 from by omega]
    simp
  · have e : rd1 (d ++ p) k = rd1 d k := by
      unfold rd1
      rw [hasC_app, hd, bef_app' hd]; simp
    refine ⟨fun c r n h _ => by rw [← e]; exact h, fun c r n h hn => ?_, fun h => by rw [← e]; exact h⟩
    rw [e] at h
    have := rd1_len h
    omega
theorem rdGo_take : ∀ (f k : Nat) (d p : L8) (a : Nat), rdGo f k d a = (rdGo f k (d ++ p) a).takeWhile (fun x => decide (x.2.2 ≤ a + d.length))
  | 0, _, _, _, _ => rfl
  | f + 1, k, d, p, a => by
    obtain ⟨h1, h2, h3⟩ := rd1_pre d p k
    cases h : rd1 (d ++ p) k with
    | none => rw [rdGo, rdGo, h3 h, h]; rfl
    | some x =>
      obtain ⟨c, r, n⟩ := x
      by_cases hn : n ≤ d.length
      · rw [rdGo, rdGo, h1 c r n h hn, h]
        simp only [List.takeWhile_cons]
        rw [decide_eq_true (by omega : a + n ≤ a + d.length)]
        simp only [if_true]
        rw [rdGo_take f (k + 1) (d.drop n) p (a + n), List.drop_append_of_le_length hn]
        have : a + n + (d.drop n).length = a + d.length := by simp; omega
        rw [this]
      · rw [rdGo, rdGo, h2 c r n h (by omega), h]
        simp only [List.takeWhile_cons]
        rw [decide_eq_false (by omega)]
        simp
/-- The ends rise. -/
theorem rdGo_rise : ∀ (f k : Nat) (l : L8) (a : Nat), (a :: (rdGo f k l a).map (·.2.2)).Pairwise (· < ·)
  | 0, _, _, _ => by simp [rdGo]
  | f + 1, k, l, a => by
    rw [rdGo]
    cases h : rd1 l k with
    | none => simp
    | some x =>
      obtain ⟨c, r, n⟩ := x
      have hn := rd1_len h
      have ih := rdGo_rise f (k + 1) (l.drop n) (a + n)
      simp only [List.map_cons]
      rw [List.pairwise_cons]
      refine ⟨fun y hy => ?_, ih⟩
      rw [List.mem_cons] at hy
      rcases hy with rfl | hy
      · omega
      · have := (List.pairwise_cons.1 ih).1 y hy
        omega
theorem rdGo_end : ∀ (f k : Nat) (l : L8) (a : Nat), ∀ x ∈ rdGo f k l a, x.2.2 ≤ a + 372 * f ∧ x.2.2 ≤ a + l.length
  | 0, _, _, _ => by simp [rdGo]
  | f + 1, k, l, a => by
    rw [rdGo]
    cases h : rd1 l k with
    | none => simp
    | some x =>
      obtain ⟨c, r, n⟩ := x
      have hn := rd1_len h
      intro y hy
      rw [List.mem_cons] at hy
      rcases hy with rfl | hy
      · simp only; omega
      · have := rdGo_end f (k + 1) (l.drop n) (a + n) y hy
        rw [List.length_drop] at this
        omega
theorem last_take : ∀ (zs : List Nat) (a m : Nat), (a :: zs).Pairwise (· < ·) → a ≤ m → ((a :: zs.takeWhile (fun x => decide (x ≤ m))).getLastD 0 = m ↔ m ∈ a :: zs)
  | [], a, m, _, _ => by simp [eq_comm]
  | z :: zs, a, m, h, ha => by
    have h1 := (List.pairwise_cons.1 h).1
    have h2 := (List.pairwise_cons.1 h).2
    have haz := h1 z (by simp)
    by_cases hz : z ≤ m
    · have ih := last_take zs z m h2 hz
      rw [List.takeWhile_cons, decide_eq_true hz]
      simp only [if_true]
      have e : (a :: z :: zs.takeWhile (fun x => decide (x ≤ m))).getLastD 0 = (z :: zs.takeWhile (fun x => decide (x ≤ m))).getLastD 0 := by
        simp [List.getLastD_eq_getLast?, List.getLast?_cons]
      rw [e, ih]
      constructor
      · exact fun h => List.mem_cons_of_mem _ h
      · intro h
        rcases List.mem_cons.1 h with rfl | h
        · omega
        · exact h
    · rw [List.takeWhile_cons, decide_eq_false hz]
      simp only [Bool.false_eq_true, if_false]
      have h3 := (List.pairwise_cons.1 h2).1
      constructor
      · intro h; simp at h; simp [h]
      · intro h
        rcases List.mem_cons.1 h with rfl | h
        · simp
        · rcases List.mem_cons.1 h with rfl | h
          · omega
          · have := h3 _ h; omega
theorem takeWhile_ends (m : Nat) : ∀ xs : List (L8 × L8 × Nat), (xs.takeWhile (fun x => decide (x.2.2 ≤ m))).map (·.2.2) = (xs.map (·.2.2)).takeWhile (fun x => decide (x ≤ m))
  | [] => rfl
  | x :: xs => by
    rw [List.map_cons, List.takeWhile_cons, List.takeWhile_cons]
    split
    · rw [List.map_cons, takeWhile_ends m xs]
    · rfl
/-- A prefix is read whole exactly if it ends where a record ends. -/
theorem endL_pre (d p : L8) : endL d = d.length ↔ d.length ∈ 0 :: (rdAll (d ++ p)).map (·.2.2) := by
  have h := rdGo_take 61 0 d p 0
  rw [Nat.zero_add] at h
  unfold endL endOf rdAll
  rw [h, takeWhile_ends]
  exact last_take _ 0 d.length (rdGo_rise 61 0 (d ++ p) 0) (Nat.zero_le _)
theorem endL_le (l : L8) : endL l ≤ 22692 ∧ endL l ≤ l.length := by
  have hm : endL l ∈ 0 :: (rdAll l).map (·.2.2) := by
    unfold endL endOf
    rw [List.getLastD_eq_getLast?, List.getLast?_eq_some_getLast (by simp)]
    exact List.getLast_mem _
  rcases List.mem_cons.1 hm with h | h
  · omega
  · obtain ⟨x, hx, e⟩ := List.mem_map.1 h
    have := rdGo_end 61 0 l 0 x hx
    omega
end Go.Proofs.YtpejnfhenpdobaaDoor
