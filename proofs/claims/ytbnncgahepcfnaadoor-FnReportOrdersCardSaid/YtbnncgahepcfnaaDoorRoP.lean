/- Orders of reports: the plain facts. -/
import Derived.Test.YtbnncgahepcfnaaDoorOoP
import Derived.Test.YtbnncgahepcfnaaDoorOoS
import Derived.Test.YtbnncgahepcfnaaDoorRes3
namespace Go.Proofs.YtbnncgahepcfnaaDoor
open Go.RowKit Go.G9
def adoAt (xs : List Res) (z : Int) : Bool := match xs[z.toNat]? with | some y => y.ado | none => false
def AdF (xs : List Res) (a b : Int) : Prop := adoAt xs b = true → adoAt xs a = true
theorem scan_all (p : Int → Bool) (S : List Int) : ∀ j, j ≤ S.length → ∀ m z, scan p S j ≤ m → m < j → S[m]? = some z → p z = true
  | 0, _, m, z, h1, h2, _ => by omega
  | j + 1, hj, m, z, h1, h2, hz => by
    have hs : S[j]? = some S[j] := List.getElem?_eq_getElem (by omega)
    unfold scan at h1
    rw [hs] at h1
    simp only at h1
    split at h1
    · rename_i hp
      by_cases hm : m = j
      · subst hm; rw [hs] at hz; cases hz; exact hp
      · exact scan_all p S j (by omega) m z h1 (by omega) hz
    · omega
theorem scan_stop (p : Int → Bool) (S : List Int) : ∀ j, j ≤ S.length → ∀ m, scan p S j = m + 1 → ∃ z, S[m]? = some z ∧ p z = false
  | 0, _, m, h => by simp [scan] at h
  | j + 1, hj, m, h => by
    have hs : S[j]? = some S[j] := List.getElem?_eq_getElem (by omega)
    unfold scan at h
    rw [hs] at h
    simp only at h
    split at h
    · exact scan_stop p S j (by omega) m h
    · rename_i hp
      obtain rfl : j = m := by omega
      exact ⟨_, hs, by simpa using hp⟩
theorem adF_oo (xs : List Res) : ∀ k, k ≤ xs.length → (oo xs k).Pairwise (AdF xs)
  | 0, _ => List.Pairwise.nil
  | k + 1, hk => by
    have ih := adF_oo xs k (by omega)
    have hx : xs[k]? = some xs[k] := List.getElem?_eq_getElem (by omega)
    rw [oo, hx]
    show (insO (ooAt xs xs[k]) (oo xs k) k).Pairwise (AdF xs)
    generalize hS : oo xs k = S at *
    have hzk : adoAt xs (k : Int) = xs[k].ado := by simp [adoAt, hx]
    have hm := oo_mem xs k (by omega)
    rw [hS] at hm
    have hp1 : ∀ z ∈ S, ooAt xs xs[k] z = true → AdF xs (k : Int) z := by
      intro z hz hp h1
      obtain ⟨i, h2, rfl⟩ := hm z hz
      have hi : xs[i]? = some xs[i] := List.getElem?_eq_getElem (by omega)
      simp only [ooAt, Int.toNat_natCast, hi, decide_eq_true_eq] at hp
      simp only [adoAt, Int.toNat_natCast, hi] at h1
      rw [hzk]
      rcases ooCmp_neg.1 hp with h | h
      · exact h.1
      · rw [h.1]; exact h1
    have hp2 : ∀ z ∈ S, ooAt xs xs[k] z = false → AdF xs z (k : Int) := by
      intro z hz hp h1
      obtain ⟨i, h2, rfl⟩ := hm z hz
      have hi : xs[i]? = some xs[i] := List.getElem?_eq_getElem (by omega)
      simp only [ooAt, Int.toNat_natCast, hi, decide_eq_false_iff_not] at hp
      simp only [adoAt, Int.toNat_natCast, hi]
      rw [hzk] at h1
      cases h3 : xs[i].ado
      · exact absurd (ooCmp_neg.2 (Or.inl ⟨h1, h3⟩)) hp
      · rfl
    have hsl := scan_le (ooAt xs xs[k]) S S.length
    unfold insO
    rw [List.pairwise_append]
    refine ⟨ih.sublist (List.take_sublist _ _), ?_, ?_⟩
    · rw [List.pairwise_cons]
      refine ⟨fun z hz => ?_, ih.sublist (List.drop_sublist _ _)⟩
      refine hp1 z (List.mem_of_mem_drop hz) ?_
      obtain ⟨m, hm1⟩ := List.mem_iff_getElem?.1 hz
      rw [List.getElem?_drop] at hm1
      have := (List.getElem?_eq_some_iff.1 hm1).1
      exact scan_all _ S S.length (Nat.le_refl _) _ z (by omega) (by omega) hm1
    · intro a ha b hb
      have hka : AdF xs a (k : Int) := by
        cases hj : scan (ooAt xs xs[k]) S S.length with
        | zero => rw [hj] at ha; simp at ha
        | succ m =>
          obtain ⟨y, hy, hpy⟩ := scan_stop _ S S.length (Nat.le_refl _) m hj
          have hky := hp2 y (List.mem_of_getElem? hy) hpy
          rw [hj] at ha
          obtain ⟨q, hq⟩ := List.mem_iff_getElem?.1 ha
          rw [List.getElem?_take] at hq
          split at hq
          · rename_i hlt
            by_cases hqm : q = m
            · subst hqm; rw [hy] at hq; cases hq; exact hky
            · have hq1 := (List.getElem?_eq_some_iff.1 hq)
              have hm1 := (List.getElem?_eq_some_iff.1 hy)
              obtain ⟨g1, g2⟩ := hq1
              obtain ⟨g3, g4⟩ := hm1
              have := List.pairwise_iff_getElem.1 ih q m g1 g3 (by omega)
              rw [g2, g4] at this
              exact fun h => this (hky h)
          · cases hq
      simp only [List.mem_cons] at hb
      rcases hb with rfl | hb
      · exact hka
      · have hb2 := hp1 b (List.mem_of_mem_drop hb) (by
          obtain ⟨m, hm1⟩ := List.mem_iff_getElem?.1 hb
          rw [List.getElem?_drop] at hm1
          have := (List.getElem?_eq_some_iff.1 hm1).1
          exact scan_all _ S S.length (Nat.le_refl _) _ b (by omega) (by omega) hm1)
        exact fun h => hka (hb2 h)
theorem ooL_at {xs : List Res} {k : Nat} {z : Int} (h : (ooL xs)[k]? = some z) : reportB xs = true ∧ ∃ (i : Nat) (r : Res), z = i ∧ xs[i]? = some r := by
  unfold ooL at h
  split at h
  · rename_i hr
    obtain ⟨i, h1, h2⟩ := oo_mem xs xs.length (Nat.le_refl _) z (List.mem_of_getElem? h)
    exact ⟨hr, i, xs[i], h2, List.getElem?_eq_getElem h1⟩
  · simp at h
theorem ooL_adF {xs : List Res} {j k : Nat} {a b : Int} (hj : (ooL xs)[j]? = some a) (hk : (ooL xs)[k]? = some b) (hjk : j < k) (hb : adoAt xs b = true) : adoAt xs a = true := by
  unfold ooL at hj hk
  split at hj
  · rename_i hr
    rw [if_pos hr] at hk
    obtain ⟨g1, g2⟩ := List.getElem?_eq_some_iff.1 hj
    obtain ⟨g3, g4⟩ := List.getElem?_eq_some_iff.1 hk
    have := List.pairwise_iff_getElem.1 (adF_oo xs xs.length (Nat.le_refl _)) j k g1 g3 hjk
    rw [g2, g4] at this
    exact this hb
  · simp at hj
theorem ooL_length {xs : List Res} (hr : reportB xs = true) : (ooL xs).length = xs.length := by
  unfold ooL; rw [if_pos hr]; exact oo_len xs _ (Nat.le_refl _)
theorem obn_mem (xs : List Res) : ∀ k, ∀ z ∈ obn xs k, ∃ (i : Nat) (r : Res), z = i ∧ xs[i]? = some r ∧ obnP r = true
  | 0, z, h => by simp [obn] at h
  | k + 1, z, h => by
    unfold obn at h
    split at h
    · rename_i r hr
      split at h
      · rename_i hp
        simp only [List.mem_append, List.mem_singleton] at h
        rcases h with h | rfl
        · exact obn_mem xs k z h
        · exact ⟨k, r, rfl, hr, hp⟩
      · exact obn_mem xs k z h
    · exact obn_mem xs k z h
theorem obnL_at {xs : List Res} {k : Nat} {z : Int} (h : (obnL xs)[k]? = some z) : ∃ (i : Nat) (r : Res), z = i ∧ xs[i]? = some r ∧ r.no < r.yes ∧ r.need ≠ 1 := by
  unfold obnL at h
  split at h
  · obtain ⟨i, r, h1, h2, h3⟩ := obn_mem xs _ z (List.mem_of_getElem? h)
    simp only [obnP, Bool.and_eq_true, Bool.not_eq_true', decide_eq_true_eq] at h3
    refine ⟨i, r, h1, h2, h3.2, fun h4 => ?_⟩
    have h5 := h3.1
    simp [Res.ado, adoB, h4] at h5
    omega
  · simp at h
theorem cls_best (xs : List Res) : ∀ k, k ≤ xs.length → 0 < k → ∃ q, xs[cls xs k]? = some q ∧ ∀ i r, i < k → xs[i]? = some r → q.gap ≤ r.gap
  | 0, _, h => by omega
  | 1, hk, _ => by
    have hx : xs[0]? = some xs[0] := List.getElem?_eq_getElem (by omega)
    refine ⟨xs[0], ?_, fun i r hi hr => ?_⟩
    · simp [cls, hx]
    · obtain rfl : i = 0 := by omega
      rw [hx] at hr; cases hr; exact Int.le_refl _
  | k + 2, hk, _ => by
    obtain ⟨q, hq, hb⟩ := cls_best xs (k + 1) (by omega) (by omega)
    have hx : xs[k + 1]? = some xs[k + 1] := List.getElem?_eq_getElem (by omega)
    have hc : cls xs (k + 2) = if xs[k + 1].gap < q.gap then k + 1 else cls xs (k + 1) := by
      rw [cls, hx, hq]
    rw [hc]
    split
    · rename_i hlt
      refine ⟨_, hx, fun i r hi hr => ?_⟩
      by_cases h : i = k + 1
      · subst h; rw [hx] at hr; cases hr; exact Int.le_refl _
      · have := hb i r (by omega) hr; omega
    · rename_i hlt
      refine ⟨q, hq, fun i r hi hr => ?_⟩
      by_cases h : i = k + 1
      · subst h; rw [hx] at hr; cases hr; omega
      · exact hb i r (by omega) hr
theorem abs_sq {a b : Int} (h : absI b ≤ absI a) : b * b ≤ a * a := by
  have e : ∀ x : Int, absI x * absI x = x * x := fun x => by
    unfold absI; split
    · rw [Int.neg_mul_neg]
    · rfl
  have p : ∀ x : Int, 0 ≤ absI x := fun x => by unfold absI; split <;> omega
  rw [← e a, ← e b]
  exact Int.mul_le_mul h h (p b) (p a)
theorem sq_bd {a : Int} (h1 : -1000 ≤ a) (h2 : a ≤ 1000) : 0 ≤ a * a ∧ a * a ≤ 1000000 := by
  have h := abs_sq (a := 1000) (b := a) (by unfold absI; split <;> split <;> omega)
  have h0 := abs_sq (a := a) (b := 0) (by unfold absI; split <;> split <;> omega)
  omega
end Go.Proofs.YtbnncgahepcfnaaDoor
