/- Clauses: plain law: what stands, what falls, closures and dependents. -/
import Derived.Test.YtndenojanflkgaaCl4
import Derived.Test.YtndenojanflkgaaCl3
namespace Go.Proofs.Ytndenojanflkgaa
open Go.RowKit Go.G9
theorem hasC_mem {xs : List Int} {n : Int} : hasB xs n = true ↔ n ∈ xs := by
  unfold hasB
  rw [List.any_eq_true]
  constructor
  · rintro ⟨x, hx, h⟩; simp at h; subst h; exact hx
  · intro h; exact ⟨n, h, by simp⟩
/-- A list of n truths. -/
def blF (n : Nat) (p : Nat → Bool) : List Bool := (List.range n).map p
theorem blF_len (n : Nat) (p : Nat → Bool) : (blF n p).length = n := by simp [blF]
theorem blF_at {n : Nat} {p : Nat → Bool} {k : Nat} (h : k < n) : (blF n p)[k]? = some (p k) := by simp [blF, h]
theorem blF_congr {n : Nat} {p q : Nat → Bool} (h : ∀ k, k < n → p k = q k) : blF n p = blF n q := by
  unfold blF
  exact List.map_congr_left fun k hk => h k (List.mem_range.1 hk)
theorem blF_set {n : Nat} {p : Nat → Bool} {i : Nat} (b : Bool) : (blF n p).set i b = blF n (fun k => if k = i then b else p k) := by
  apply List.ext_getElem?
  intro k
  rw [List.getElem?_set]
  by_cases hk : k < n
  · rw [blF_at hk]
    by_cases h : i = k
    · subst h; rw [blF_at hk, if_pos rfl, if_pos rfl, if_pos (by rw [blF_len]; exact hk)]
    · rw [if_neg h, blF_at hk, if_neg (fun e => h e.symm)]
  · have e : ∀ q : Nat → Bool, (blF n q)[k]? = none := fun q => List.getElem?_eq_none_iff.2 (by rw [blF_len]; omega)
    rw [e, e]
    split
    · rename_i h
      subst h; rw [if_neg (by rw [blF_len]; exact hk)]
    · rfl
/-- The indices at which a list is true. -/
def chN (p : Nat → Bool) : Nat → List Int
  | 0 => []
  | k + 1 => if p k then chN p k ++ [(k : Int)] else chN p k
theorem chN_mem (p : Nat → Bool) : ∀ (n : Nat) (x : Int), x ∈ chN p n ↔ ∃ k : Nat, x = k ∧ k < n ∧ p k = true
  | 0, x => by simp [chN]
  | n + 1, x => by
    unfold chN
    have ih := chN_mem p n x
    split
    · rename_i h
      rw [List.mem_append, ih]
      constructor
      · rintro (⟨k, a, b, c⟩ | hx)
        · exact ⟨k, a, by omega, c⟩
        · exact ⟨n, by simpa using hx, by omega, h⟩
      · rintro ⟨k, a, b, c⟩
        by_cases e : k = n
        · right; subst e; simp [a]
        · left; exact ⟨k, a, by omega, c⟩
    · rename_i h
      rw [ih]
      constructor
      · rintro ⟨k, a, b, c⟩; exact ⟨k, a, by omega, c⟩
      · rintro ⟨k, a, b, c⟩
        refine ⟨k, a, ?_, c⟩
        by_cases e : k = n
        · subst e; exact absurd c h
        · omega
theorem chN_len (p : Nat → Bool) : ∀ n : Nat, (chN p n).length ≤ n
  | 0 => Nat.le_refl _
  | n + 1 => by
    have := chN_len p n
    unfold chN; split
    · simp; omega
    · omega
theorem chN_has (p : Nat → Bool) (n : Nat) (k : Nat) (hk : k < n) : hasB (chN p n) k = p k := by
  cases h : p k with
  | true => exact hasC_mem.2 ((chN_mem p n k).2 ⟨k, rfl, hk, h⟩)
  | false =>
    rw [← Bool.not_eq_true, hasC_mem, chN_mem]
    rintro ⟨j, a, b, c⟩
    obtain rfl : k = j := by omega
    rw [h] at c; cases c
theorem chN_pw (p : Nat → Bool) : ∀ n : Nat, (chN p n).Pairwise (· < ·)
  | 0 => List.Pairwise.nil
  | n + 1 => by
    have ih := chN_pw p n
    unfold chN; split
    · rw [List.pairwise_append]
      refine ⟨ih, by simp, fun a ha b hb => ?_⟩
      obtain ⟨k, rfl, h1, _⟩ := (chN_mem p n a).1 ha
      simp at hb; omega
    · exact ih
theorem chN_congr {p q : Nat → Bool} : ∀ {n : Nat}, (∀ k, k < n → p k = q k) → chN p n = chN q n
  | 0, _ => rfl
  | n + 1, h => by
    unfold chN
    rw [chN_congr (fun k hk => h k (by omega)), h n (by omega)]
/-- What a clause depends on, step by step. -/
inductive Dep (nd : Nat → List Int) (i : Nat) : Nat → Prop
  | one {k : Nat} : (k : Int) ∈ nd i → Dep nd i k
  | more {m k : Nat} : Dep nd i m → (k : Int) ∈ nd m → Dep nd i k
/-- Needs point backwards. -/
def Bk (nd : Nat → List Int) (n : Nat) : Prop := ∀ i, i < n → ∀ x, x ∈ nd i → 0 ≤ x ∧ x < (i : Int)
theorem Dep.lt {nd : Nat → List Int} {n i k : Nat} (G : Bk nd n) (hi : i < n) (h : Dep nd i k) : k < i := by
  induction h with
  | one h => have := G i hi _ h; omega
  | more h1 h2 ih => have := G _ (by omega) _ h2; omega
theorem Dep.head {nd : Nat → List Int} {i m k : Nat} (h1 : (m : Int) ∈ nd i) (h : Dep nd m k) : Dep nd i k := by
  induction h with
  | one h => exact .more (.one h1) h
  | more _ h2 ih => exact .more ih h2
theorem Dep.split {nd : Nat → List Int} {i k : Nat} (h : Dep nd i k) : (k : Int) ∈ nd i ∨ ∃ m : Nat, (m : Int) ∈ nd i ∧ Dep nd m k := by
  induction h with
  | one h => exact Or.inl h
  | more h1 h2 ih =>
    rcases ih with ih | ⟨m, a, b⟩
    · exact Or.inr ⟨_, ih, .one h2⟩
    · exact Or.inr ⟨m, a, .more b h2⟩
/-- Standing clauses. -/
def stF (nd : Nat → List Int) (ad : Nat → Bool) : Nat → List Bool
  | 0 => []
  | k + 1 => stF nd ad k ++ [ad k && (nd k).all (fun n => (stF nd ad k)[n.toNat]?.getD false)]
theorem stF_len (nd : Nat → List Int) (ad : Nat → Bool) : ∀ k, (stF nd ad k).length = k
  | 0 => rfl
  | k + 1 => by simp [stF, stF_len nd ad k]
theorem stF_pre (nd : Nat → List Int) (ad : Nat → Bool) (i : Nat) : ∀ k, i < k → (stF nd ad k)[i]? = (stF nd ad (i + 1))[i]?
  | 0, h => by omega
  | k + 1, h => by
    by_cases e : i = k
    · subst e; rfl
    · rw [stF, List.getElem?_append_left (by rw [stF_len]; omega), stF_pre nd ad i k (by omega)]
def stB (nd : Nat → List Int) (ad : Nat → Bool) (i : Nat) : Bool := ((stF nd ad (i + 1))[i]?).getD false
theorem stB_at {nd : Nat → List Int} {ad : Nat → Bool} {i k : Nat} (h : i < k) : (stF nd ad k)[i]? = some (stB nd ad i) := by
  rw [stF_pre nd ad i k h, stB]
  have : i < (stF nd ad (i + 1)).length := by rw [stF_len]; omega
  rw [List.getElem?_eq_getElem this]; rfl
theorem stF_bl (nd : Nat → List Int) (ad : Nat → Bool) (k : Nat) : stF nd ad k = blF k (stB nd ad) := by
  apply List.ext_getElem?
  intro i
  by_cases h : i < k
  · rw [stB_at h, blF_at h]
  · rw [List.getElem?_eq_none_iff.2 (by rw [stF_len]; omega), List.getElem?_eq_none_iff.2 (by rw [blF_len]; omega)]
theorem stB_step {nd : Nat → List Int} {ad : Nat → Bool} {n i : Nat} (G : Bk nd n) (hi : i < n) : stB nd ad i = (ad i && (nd i).all (fun x => stB nd ad x.toNat)) := by
  rw [stB, stF, List.getElem?_append_right (by rw [stF_len]; exact Nat.le_refl _), stF_len]
  simp only [Nat.sub_self, List.getElem?_cons_zero, Option.getD_some]
  congr 1
  rw [Bool.eq_iff_iff, List.all_eq_true, List.all_eq_true]
  constructor
  · intro h x hx
    have h1 := h x hx
    have h2 := G i hi x hx
    rw [stB_at (by omega)] at h1
    exact h1
  · intro h x hx
    have h1 := h x hx
    have h2 := G i hi x hx
    rw [stB_at (by omega)]
    exact h1
theorem stB_iff {nd : Nat → List Int} {ad : Nat → Bool} {n : Nat} (G : Bk nd n) : ∀ (i : Nat), i < n → (stB nd ad i = true ↔ ad i = true ∧ ∀ k, Dep nd i k → ad k = true) := by
  intro i
  induction i using Nat.strongRecOn with
  | ind i ih =>
    intro hi
    rw [stB_step G hi, Bool.and_eq_true, List.all_eq_true]
    constructor
    · rintro ⟨h1, h2⟩
      refine ⟨h1, fun k hk => ?_⟩
      rcases Dep.split hk with h | ⟨m, a, b⟩
      · have hb := G i hi _ h
        have := (ih k (by omega) (by omega)).1 (by simpa using h2 _ h)
        exact this.1
      · have hb := G i hi _ a
        have := (ih m (by omega) (by omega)).1 (by simpa using h2 _ a)
        exact this.2 k b
    · rintro ⟨h1, h2⟩
      refine ⟨h1, fun x hx => ?_⟩
      have hb := G i hi _ hx
      obtain ⟨m, rfl⟩ : ∃ m : Nat, x = m := ⟨x.toNat, by omega⟩
      simp only [Int.toNat_natCast]
      exact (ih m (by omega) (by omega)).2 ⟨h2 m (.one hx), fun k hk => h2 k (.head hx hk)⟩
/-- The reference's list of standing clauses. -/
def ssN (nd : Nat → List Int) (ad : Nat → Bool) : Nat → List Int
  | 0 => []
  | k + 1 => if ad k && (nd k).all (fun n => hasB (ssN nd ad k) n) then ssN nd ad k ++ [(k : Int)] else ssN nd ad k
theorem ssN_ch {nd : Nat → List Int} {ad : Nat → Bool} {n : Nat} (G : Bk nd n) : ∀ k, k ≤ n → ssN nd ad k = chN (stB nd ad) k
  | 0, _ => rfl
  | k + 1, h => by
    have ih := ssN_ch (ad := ad) G k (by omega)
    rw [ssN, chN, ih, stB_step G (by omega : k < n)]
    have e : (nd k).all (fun x => hasB (chN (stB nd ad) k) x) = (nd k).all (fun x => stB nd ad x.toNat) := by
      rw [Bool.eq_iff_iff, List.all_eq_true, List.all_eq_true]
      constructor
      · intro h1 x hx
        have hb := G k (by omega) x hx
        obtain ⟨m, rfl⟩ : ∃ m : Nat, x = m := ⟨x.toNat, by omega⟩
        have := h1 _ hx
        rw [chN_has _ _ _ (by omega)] at this
        simpa using this
      · intro h1 x hx
        have hb := G k (by omega) x hx
        obtain ⟨m, rfl⟩ : ∃ m : Nat, x = m := ⟨x.toNat, by omega⟩
        rw [chN_has _ _ _ (by omega)]
        simpa using h1 _ hx
    rw [e]
/-- What the program's dependsOn marks: k = i, i - 1, .. one after the other. -/
def dpF (nd : Nat → List Int) (i : Nat) : Nat → Nat → Bool
  | 0 => fun _ => false
  | j + 1 => fun x => dpF nd i j x || ((j == 0 || dpF nd i j (i - j)) && hasB (nd (i - j)) x)
theorem dpF_sound {nd : Nat → List Int} {i : Nat} : ∀ (j : Nat) {x : Nat}, dpF nd i j x = true → Dep nd i x
  | 0, x, h => by simp [dpF] at h
  | j + 1, x, h => by
    rw [dpF, Bool.or_eq_true] at h
    rcases h with h | h
    · exact dpF_sound j h
    · rw [Bool.and_eq_true, Bool.or_eq_true, hasC_mem] at h
      obtain ⟨h1 | h1, h2⟩ := h
      · obtain rfl : j = 0 := by simpa using h1
        exact .one (by simpa using h2)
      · exact .more (dpF_sound j h1) h2
theorem dpF_mono {nd : Nat → List Int} {i : Nat} {j j' : Nat} (hj : j ≤ j') {x : Nat} (h : dpF nd i j x = true) : dpF nd i j' x = true := by
  induction hj with
  | refl => exact h
  | step _ ih => show (_ || _) = true; rw [ih]; rfl
/-- A mark at k is made before k's turn. -/
theorem dpF_late {nd : Nat → List Int} {n i : Nat} (G : Bk nd n) (hi : i < n) : ∀ (j' : Nat) {j x : Nat}, j ≤ i → i - j ≤ x → j ≤ j' → j' ≤ i + 1 → dpF nd i j' x = true → dpF nd i j x = true
  | 0, j, x, _, _, hj, _, h => by obtain rfl : j = 0 := by omega
                                  exact h
  | j' + 1, j, x, h1, h2, _, hb, h => by
    by_cases e : j = j' + 1
    · subst e; exact h
    · rw [dpF, Bool.or_eq_true] at h
      rcases h with h | h
      · exact dpF_late G hi j' h1 h2 (by omega) (by omega) h
      · rw [Bool.and_eq_true, hasC_mem] at h
        have := G (i - j') (by omega) _ h.2
        omega
theorem dpF_iff {nd : Nat → List Int} {n i : Nat} (G : Bk nd n) (hi : i < n) {x : Nat} : dpF nd i (i + 1) x = true ↔ Dep nd i x := by
  refine ⟨dpF_sound _, fun h => ?_⟩
  induction h with
  | one h =>
    refine dpF_mono (j := 1) (by omega) ?_
    simp only [dpF, Bool.or_eq_true, Bool.and_eq_true, hasC_mem]
    right; exact ⟨by simp, by simpa using h⟩
  | @more m k h1 h2 ih =>
    have hm := Dep.lt G hi h1
    have hl := dpF_late G hi (i + 1) (j := i - m) (x := m) (by omega) (by omega) (by omega) (by omega) ih
    refine dpF_mono (j := i - m + 1) (by omega) ?_
    rw [dpF, Bool.or_eq_true, Bool.and_eq_true, hasC_mem, Bool.or_eq_true]
    have e : i - (i - m) = m := by omega
    right; rw [e]; exact ⟨Or.inr hl, h2⟩
theorem dpF_stay {nd : Nat → List Int} {n i j : Nat} (G : Bk nd n) (hi : i < n) (hj : j ≤ i + 1) {x : Nat} (hx : i ≤ x) : dpF nd i j x = false := by
  rw [← Bool.not_eq_true]
  intro h
  have := Dep.lt G hi (dpF_sound j h)
  omega
def dpA (nd : Nat → List Int) (i x : Nat) : Bool := dpF nd i (i + 1) x
/-- What the program's closure marks. -/
def clF (nd : Nat → List Int) (ws : List Int) (x : Nat) : Bool := ws.any (fun w => w == (x : Int) || dpA nd w.toNat x)
/-- The reference's closure. -/
def putL (l : List Int) (n : Int) : List Int := if hasB l n then l else l.takeWhile (fun x => decide (x < n)) ++ n :: l.dropWhile (fun x => decide (x < n))
theorem putL_mem {l : List Int} {n x : Int} : x ∈ putL l n ↔ x = n ∨ x ∈ l := by
  unfold putL
  split
  · rename_i h
    rw [hasC_mem] at h
    constructor
    · intro hx; exact Or.inr hx
    · rintro (rfl | hx)
      · exact h
      · exact hx
  · rw [List.mem_append, List.mem_cons]
    have e : x ∈ l ↔ x ∈ l.takeWhile (fun y => decide (y < n)) ∨ x ∈ l.dropWhile (fun y => decide (y < n)) := by
      conv => lhs; rw [← List.takeWhile_append_dropWhile (p := fun y => decide (y < n)) (l := l)]
      rw [List.mem_append]
    rw [e]
    constructor
    · rintro (h | h | h)
      · exact Or.inr (Or.inl h)
      · exact Or.inl h
      · exact Or.inr (Or.inr h)
    · rintro (h | h | h)
      · exact Or.inr (Or.inl h)
      · exact Or.inl h
      · exact Or.inr (Or.inr h)
theorem drop_ge {l : List Int} {n : Int} (h : l.Pairwise (· < ·)) : ∀ y, y ∈ l.dropWhile (fun y => decide (y < n)) → n ≤ y := by
  induction l with
  | nil => simp
  | cons a l ih =>
    obtain ⟨h1, h2⟩ := List.pairwise_cons.1 h
    intro y hy
    rw [List.dropWhile_cons] at hy
    split at hy
    · exact ih h2 y hy
    · rename_i hn
      simp at hn
      rcases List.mem_cons.1 hy with rfl | hy
      · exact hn
      · have := h1 y hy; omega
theorem take_lt {l : List Int} {n : Int} : ∀ y, y ∈ l.takeWhile (fun y => decide (y < n)) → y < n := by
  intro y hy
  induction l with
  | nil => simp at hy
  | cons a l ih =>
    rw [List.takeWhile_cons] at hy
    split at hy
    · rename_i h
      rcases List.mem_cons.1 hy with rfl | hy
      · simpa using h
      · exact ih hy
    · simp at hy
theorem putL_pw {l : List Int} {n : Int} (h : l.Pairwise (· < ·)) : (putL l n).Pairwise (· < ·) := by
  unfold putL
  split
  · exact h
  · rename_i hn
    have hn : n ∉ l := fun hm => hn (hasC_mem.2 hm)
    rw [List.pairwise_append, List.pairwise_cons]
    have hsub : (l.takeWhile (fun y => decide (y < n)) ++ l.dropWhile (fun y => decide (y < n))).Pairwise (· < ·) := by rw [List.takeWhile_append_dropWhile]; exact h
    rw [List.pairwise_append] at hsub
    refine ⟨hsub.1, ⟨fun y hy => ?_, hsub.2.1⟩, fun a ha b hb => ?_⟩
    · have h1 := drop_ge h y hy
      have h2 : y ∈ l := (List.dropWhile_sublist _).mem hy
      have : y ≠ n := fun e => hn (e ▸ h2)
      omega
    · have h1 := take_lt a ha
      rcases List.mem_cons.1 hb with rfl | hb
      · exact h1
      · have := drop_ge h b hb; omega
theorem putL_len {l : List Int} {n : Int} : (putL l n).length ≤ l.length + 1 := by
  unfold putL
  split
  · omega
  · have : (l.takeWhile (fun y => decide (y < n)) ++ l.dropWhile (fun y => decide (y < n))).length = l.length := by rw [List.takeWhile_append_dropWhile]
    rw [List.length_append] at this
    simp only [List.length_append, List.length_cons]; omega
def putsL (l : List Int) (ns : List Int) : List Int := ns.foldl putL l
theorem putsL_mem {ns : List Int} : ∀ {l : List Int} {x : Int}, x ∈ putsL l ns ↔ x ∈ ns ∨ x ∈ l := by
  induction ns with
  | nil => intro l x; simp [putsL]
  | cons a ns ih =>
    intro l x
    rw [putsL, List.foldl_cons, ← putsL, ih, putL_mem, List.mem_cons]
    constructor
    · rintro (h | h | h)
      · exact Or.inl (Or.inr h)
      · exact Or.inl (Or.inl h)
      · exact Or.inr h
    · rintro ((h | h) | h)
      · exact Or.inr (Or.inl h)
      · exact Or.inl h
      · exact Or.inr (Or.inr h)
theorem putsL_pw {ns : List Int} : ∀ {l : List Int}, l.Pairwise (· < ·) → (putsL l ns).Pairwise (· < ·) := by
  induction ns with
  | nil => intro l h; exact h
  | cons a ns ih => intro l h; exact ih (putL_pw h)
/-- j clauses from the last one on. -/
def scN (nd : Nat → List Int) (n : Nat) (ws : List Int) : Nat → List Int
  | 0 => ws
  | j + 1 => if hasB (scN nd n ws j) ((n - 1 - j : Nat) : Int) then putsL (scN nd n ws j) (nd (n - 1 - j)) else scN nd n ws j
theorem scN_pw {nd : Nat → List Int} {n : Nat} {ws : List Int} (h : ws.Pairwise (· < ·)) : ∀ j, (scN nd n ws j).Pairwise (· < ·)
  | 0 => h
  | j + 1 => by
    unfold scN; split
    · exact putsL_pw (scN_pw h j)
    · exact scN_pw h j
theorem scN_sound {nd : Nat → List Int} {n : Nat} {ws : List Int} (G : Bk nd n) (hw : ∀ w, w ∈ ws → 0 ≤ w ∧ w < (n : Int)) : ∀ (j : Nat) (x : Int), x ∈ scN nd n ws j → 0 ≤ x ∧ x < (n : Int) ∧ (x ∈ ws ∨ ∃ w : Nat, (w : Int) ∈ ws ∧ Dep nd w x.toNat)
  | 0, x, h => ⟨(hw x h).1, (hw x h).2, Or.inl h⟩
  | j + 1, x, h => by
    rw [scN] at h
    split at h
    · rename_i hc
      rw [hasC_mem] at hc
      have h0 := scN_sound G hw j _ hc
      rcases putsL_mem.1 h with h1 | h1
      · have hb := G (n - 1 - j) (by omega) x h1
        obtain ⟨m, rfl⟩ : ∃ m : Nat, x = m := ⟨x.toNat, by omega⟩
        refine ⟨hb.1, by omega, Or.inr ?_⟩
        simp only [Int.toNat_natCast]
        rcases h0.2.2 with h2 | ⟨w, hw1, hd⟩
        · exact ⟨n - 1 - j, h2, .one h1⟩
        · exact ⟨w, hw1, .more hd (by simpa using h1)⟩
      · exact scN_sound G hw j x h1
    · exact scN_sound G hw j x h
theorem scN_mono {nd : Nat → List Int} {n : Nat} {ws : List Int} {j j' : Nat} (hj : j ≤ j') {x : Int} (h : x ∈ scN nd n ws j) : x ∈ scN nd n ws j' := by
  induction hj with
  | refl => exact h
  | step _ ih =>
    rw [scN]; split
    · exact putsL_mem.2 (Or.inr ih)
    · exact ih
theorem scN_late {nd : Nat → List Int} {n : Nat} {ws : List Int} (G : Bk nd n) : ∀ (j' : Nat) {j : Nat} {x : Nat}, j < n → n - 1 - j ≤ x → j ≤ j' → j' ≤ n → (x : Int) ∈ scN nd n ws j' → (x : Int) ∈ scN nd n ws j
  | 0, j, x, _, _, hj, _, h => by obtain rfl : j = 0 := by omega
                                  exact h
  | j' + 1, j, x, h1, h2, hj, hb, h => by
    by_cases e : j = j' + 1
    · subst e; exact h
    · rw [scN] at h
      split at h
      · rcases putsL_mem.1 h with h3 | h3
        · have := G (n - 1 - j') (by omega) _ h3
          omega
        · exact scN_late G j' h1 h2 (by omega) (by omega) h3
      · exact scN_late G j' h1 h2 (by omega) (by omega) h
theorem scN_all {nd : Nat → List Int} {n : Nat} {ws : List Int} (G : Bk nd n) (hw : ∀ w, w ∈ ws → 0 ≤ w ∧ w < (n : Int)) {w x : Nat} (h : (w : Int) ∈ ws) (hd : Dep nd w x) : (x : Int) ∈ scN nd n ws n := by
  have step : ∀ {m k : Nat}, (m : Int) ∈ scN nd n ws n → (k : Int) ∈ nd m → (k : Int) ∈ scN nd n ws n := by
    intro m k hm hk
    have hmn := (scN_sound G hw n _ hm).2.1
    have hl := scN_late G n (j := n - 1 - m) (x := m) (by omega) (by omega) (by omega) (by omega) hm
    refine scN_mono (j := n - 1 - m + 1) (by omega) ?_
    have e : n - 1 - (n - 1 - m) = m := by omega
    rw [scN, e, if_pos (hasC_mem.2 hl)]
    exact putsL_mem.2 (Or.inl hk)
  have h0 : (w : Int) ∈ scN nd n ws n := scN_mono (j := 0) (by omega) h
  induction hd with
  | one hk => exact step h0 hk
  | more _ hk ih => exact step ih hk
theorem sortedC_ext : ∀ {xs ys : List Int}, xs.Pairwise (· < ·) → ys.Pairwise (· < ·) → (∀ x, x ∈ xs ↔ x ∈ ys) → xs = ys
  | [], [], _, _, _ => rfl
  | [], y :: ys, _, _, h => absurd ((h y).2 (by simp)) (by simp)
  | x :: xs, [], _, _, h => absurd ((h x).1 (by simp)) (by simp)
  | x :: xs, y :: ys, hx, hy, h => by
    obtain ⟨hx1, hx2⟩ := List.pairwise_cons.1 hx
    obtain ⟨hy1, hy2⟩ := List.pairwise_cons.1 hy
    have e : x = y := by
      rcases List.mem_cons.1 ((h x).1 (by simp)) with e | e
      · exact e
      · rcases List.mem_cons.1 ((h y).2 (by simp)) with e' | e'
        · exact e'.symm
        · have := hy1 _ e; have := hx1 _ e'; omega
    subst e
    rw [sortedC_ext hx2 hy2]
    intro z
    constructor
    · intro hz
      rcases List.mem_cons.1 ((h z).1 (List.mem_cons_of_mem _ hz)) with rfl | e
      · have := hx1 _ hz; omega
      · exact e
    · intro hz
      rcases List.mem_cons.1 ((h z).2 (List.mem_cons_of_mem _ hz)) with rfl | e
      · have := hy1 _ hz; omega
      · exact e
theorem clF_iff {nd : Nat → List Int} {n : Nat} {ws : List Int} (G : Bk nd n) (hw : ∀ w, w ∈ ws → 0 ≤ w ∧ w < (n : Int)) {x : Nat} : clF nd ws x = true ↔ (x : Int) ∈ ws ∨ ∃ w : Nat, (w : Int) ∈ ws ∧ Dep nd w x := by
  unfold clF dpA
  rw [List.any_eq_true]
  constructor
  · rintro ⟨w, h1, h2⟩
    have hb := hw w h1
    rw [Bool.or_eq_true] at h2
    rcases h2 with h2 | h2
    · left; have : w = (x : Int) := by simpa using h2
      subst this; exact h1
    · right; refine ⟨w.toNat, by rw [Int.toNat_of_nonneg hb.1]; exact h1, ?_⟩
      exact (dpF_iff G (by omega)).1 h2
  · rintro (h | ⟨w, h1, h2⟩)
    · exact ⟨x, h, by simp⟩
    · have hb := hw _ h1
      refine ⟨w, h1, ?_⟩
      rw [Bool.or_eq_true]
      right
      simp only [Int.toNat_natCast]
      exact (dpF_iff G (by omega)).2 h2
/-- Both closures are the same. -/
theorem closures {nd : Nat → List Int} {n : Nat} {ws : List Int} (G : Bk nd n) (hp : ws.Pairwise (· < ·)) (hw : ∀ w, w ∈ ws → 0 ≤ w ∧ w < (n : Int)) : scN nd n ws n = chN (clF nd ws) n := by
  refine sortedC_ext (scN_pw hp n) (chN_pw _ n) fun x => ?_
  rw [chN_mem]
  constructor
  · intro h
    obtain ⟨h0, h1, h2⟩ := scN_sound G hw n x h
    refine ⟨x.toNat, by omega, by omega, (clF_iff G hw).2 ?_⟩
    rw [Int.toNat_of_nonneg h0]
    exact h2
  · rintro ⟨k, rfl, hk, hc⟩
    rcases (clF_iff G hw).1 hc with h | ⟨w, h1, h2⟩
    · exact scN_mono (j := 0) (by omega) h
    · exact scN_all G hw h1 h2
/-- A clause stands exactly if it and all on which it depends are adopted. -/
theorem stands {nd : Nat → List Int} {ad : Nat → Bool} {n i : Nat} (G : Bk nd n) (hi : i < n) : (chN (clF nd [(i : Int)]) n).all (fun x => ad x.toNat) = stB nd ad i := by
  have hw : ∀ w, w ∈ [(i : Int)] → 0 ≤ w ∧ w < (n : Int) := fun w h => by simp at h; omega
  rw [Bool.eq_iff_iff, List.all_eq_true, stB_iff G i hi]
  constructor
  · intro h
    have go : ∀ k, k < n → clF nd [(i : Int)] k = true → ad k = true := fun k hk hc => by
      have := h k ((chN_mem _ n _).2 ⟨k, rfl, hk, hc⟩)
      simpa using this
    refine ⟨go i hi ((clF_iff G hw).2 (Or.inl (by simp))), fun k hk => ?_⟩
    have := Dep.lt G hi hk
    exact go k (by omega) ((clF_iff G hw).2 (Or.inr ⟨i, by simp, hk⟩))
  · rintro ⟨h1, h2⟩ x hx
    obtain ⟨k, rfl, hk, hc⟩ := (chN_mem _ n x).1 hx
    simp only [Int.toNat_natCast]
    rcases (clF_iff G hw).1 hc with h | ⟨w, h3, h4⟩
    · have : k = i := by simp at h; omega
      subst this; exact h1
    · have : w = i := by simp at h3; omega
      subst this; exact h2 k h4
/-- Each of a clause's needs has it among its dependents. -/
theorem needs_dep {nd : Nat → List Int} {n i : Nat} (G : Bk nd n) (hi : i < n) {k : Nat} (hk : (k : Int) ∈ chN (clF nd [(i : Int)]) n) : k < n ∧ (k = i ∨ hasB (chN (fun j => dpA nd j k) n) i = true) := by
  have hw : ∀ w, w ∈ [(i : Int)] → 0 ≤ w ∧ w < (n : Int) := fun w h => by simp at h; omega
  obtain ⟨k', e, hkn, hc⟩ := (chN_mem _ n _).1 hk
  obtain rfl : k = k' := by omega
  refine ⟨hkn, ?_⟩
  rcases (clF_iff G hw).1 hc with h | ⟨w, h3, h4⟩
  · left; simp at h; omega
  · right
    have : w = i := by simp at h3; omega
    subst this
    rw [chN_has _ _ _ hi]
    exact (dpF_iff G hi).2 h4
/-- Fallen clauses: the reference's list is the program's. -/
theorem fallen_has {nd : Nat → List Int} {ad : Nat → Bool} {n i : Nat} (hi : i < n) : (ad i && !hasB (chN (stB nd ad) n) i) = (ad i && !stB nd ad i) := by
  rw [chN_has _ _ _ hi]
end Go.Proofs.Ytndenojanflkgaa
/- Lists of numbers: copies, comparisons, marks. -/
namespace Go.Proofs.Ytndenojanflkgaa
open Go.RowKit Go.G9
theorem info_int : (Try.prog.info? 3).map (fun i => (i.zero, i.size, i.bytes)) = some (some (.int .i64 0), 1, 8) := by kernel_rfl
theorem intC_len (y : Int) : (intC y).length = 1 := rfl
theorem intC_one (y : Int) (u : Value) (h : u ∈ intC y) : u.oneCell' = true := by simp [intC] at h; subst h; rfl
theorem intC_flat (xs : List Int) : xs.flatMap intC = xs.map (Value.int .i64) := by induction xs with
  | nil => rfl
  | cons x xs ih => simp [intC, ih]
theorem l1Own_is (A : Option Addr) (c : Nat) (xs : List Int) (hn : xs.length ≤ 1048576) (hA : A = none → xs = [] ∧ c = 0) (w : World) (hR : Rds 1 intC w A xs) :
  Calls Try.prog 41 #[.slice A xs.length c] w fun e w' => ∃ A' c', e = .returned (.slice A' xs.length c') ∧ OwnV w.heap.size 3 1 intC w' (.slice A' xs.length c') xs ∧ Below w.heap.size w w' := by
  obtain ⟨i0, hi, hz0, hz1, hz2⟩ := info_parts info_int
  go_enter Try.func41, Try.ntmps41
  go_wp2_with ((at_builtin; refine wpList_app rfl _ _ 28 rfl w.heap.size 3 i0 _ 1 8 Try.underlying28 hi hz0 hz1 hz2 rfl (by decide) intC intC_len intC_one _ ([] : List Int) rfl (OwnV.made w (Nat.le_refl _) _) A c xs rfl (hR.alloc _) hA (by unfold maxLen; simp; omega) (by simp; omega) (by simp) ?_; intro v' w1 hO hg))
  go_ret
  obtain ⟨A', c', rfl, _, _⟩ := hO.form intC_len
  exact ⟨A', c', rfl, hO, (bl1 _ _).trans (grown_below hg (by simp) (fun k hk => Nat.le_of_eq (Option.some.inj hk)))⟩
end Go.Proofs.Ytndenojanflkgaa
/- Notices: validity of a notice and of a list of notices, copied, counted and compared. -/
namespace Go.Proofs.Ytndenojanflkgaa
open Go.RowKit Go.G9
structure Ntc where
  id : Int
  topic : ByteArray
  given : Int
  days : Int
  ok : topic.size ≤ maxLen
def Ntc.cells (n : Ntc) : List Value := [.int .i64 n.id, .string n.topic, .int .i64 n.given, .int .i64 n.days]
def noticeB (n : Ntc) : Bool := inB n.id 1 99 && (wordB n.topic && (inB n.given 0 3650 && inB n.days 0 60))
def ntcStep (xs : List Ntc) : Nat → Bool
  | 0 => match xs[0]? with | some x => noticeB x | none => true
  | j + 1 => match xs[j]?, xs[j+1]? with | some y, some x => noticeB x && decide (y.id < x.id) | _, _ => true
def noticesB (xs : List Ntc) : Bool := allTo (ntcStep xs) xs.length && decide (xs.length ≤ 10)

end Go.Proofs.Ytndenojanflkgaa
/- Marks: what a slice holds behind the marks, and that it is held. -/
namespace Go.G9
open Go.RowKit
/-- The first marks of n elements of s fields each. -/
def mks (m s : Int) (n : Nat) : List Int := (List.range n).map fun (i : Nat) => m + s * (i : Int)
theorem setMany_one (cs : Array Value) (i : Nat) (a : Value) (bs : List Value) : setMany (setMany cs i [a]) (i + 1) bs = setMany cs i (a :: bs) := rfl
theorem mks_len (m s : Int) (n : Nat) : (mks m s n).length = n := by simp [mks]
theorem mks_get {m s : Int} {n k : Nat} (h : k < n) : (mks m s n)[k]? = some (m + s * k) := by simp [mks, h]
section
variable {T U : Type} {B : Nat} {e : TypeId} {sz : Nat} {f : T → List Value} {h : U → List Value} {w w' : World} {v : Value} {xs : List T}
theorem OwnV.block (hO : OwnV B e sz f w v xs) (hn : 0 < xs.length) : ∃ g cap cur, v = .slice (some ⟨g, 0, none⟩) xs.length cap ∧ B ≤ g ∧ Blk w g e cur ∧ xs.length ≤ cap ∧ cap ≤ maxLen ∧ cur.size = cap * sz := by
  rcases hO.2 with ⟨_, h0⟩ | ⟨g, cap, cur, hv, hB, hh, hnc, hcm, hcs, _⟩
  · omega
  · exact ⟨g, cap, cur, hv, hB, hh, hnc, hcm, hcs⟩
theorem OwnV.empty {A : Option Addr} {n c : Nat} {m s : Int} (hO : OwnV B e sz f w (.slice A n c) ([] : List T)) {p : Int → List Value} : OwnV B e sz p w (.slice A 0 c) (mks m s 0) := by
  obtain ⟨hl, hO⟩ := hO
  refine ⟨by simp [mks], ?_⟩
  rcases hO with ⟨hv, h0⟩ | ⟨g, cap, cur, hv, hB, hh, hnc, hcm, hcs, htake⟩
  · injection hv with h1 h2 h3
    subst h1 h2 h3
    exact .inl ⟨rfl, by simp [mks]⟩
  · injection hv with h1 h2 h3
    subst h1 h3
    simp at h2
    exact .inr ⟨g, c, cur, by simp [mks], hB, hh, by simp [mks], hcm, hcs, by simp [mks]⟩
theorem OwnV.ofBlk {g cap : Nat} {cs : Array Value} (hb : Blk w g e cs) (hB : B ≤ g) (hc : xs.length ≤ cap) (hm : cap ≤ maxLen) (hsz : cs.size = cap * sz) (hF : ∀ i x, xs[i]? = some x → ∀ j u, (f x)[j]? = some u → cs[i * sz + j]? = some u)
    (hf : ∀ y, (f y).length = sz := by intro y; rfl) : OwnV B e sz f w (.slice (some ⟨g, 0, none⟩) xs.length cap) xs := by
  refine ⟨flat_len hf xs, .inr ⟨g, cap, cs, rfl, hB, hb, hc, hm, hsz, ?_⟩⟩
  have hle : xs.length * sz ≤ cap * sz := Nat.mul_le_mul_right sz hc
  apply List.ext_getElem?
  intro k
  rw [List.getElem?_take]
  by_cases hk : k < (xs.flatMap f).length
  · obtain ⟨i, j, x, hx, hj, rfl⟩ := flat_inv hf xs k _ (List.getElem?_eq_getElem hk)
    rw [flat_len hf] at hk
    rw [if_pos hk, List.getElem?_eq_getElem (l := xs.flatMap f) (by rw [flat_len hf]; exact hk), ← hF i x hx j _ hj]; simp
  · rw [flat_len hf] at hk
    rw [if_neg hk, List.getElem?_eq_none (by rw [flat_len hf]; omega)]
end
end Go.G9
namespace Go.Proofs.Ytndenojanflkgaa
open Go.RowKit Go.G9
end Go.Proofs.Ytndenojanflkgaa
