/- Plain law of the log: a line is read as the record that it was written from, by the program's reader and by the reference's. -/
import Derived.Test.YtpejnfhenpdobaaDoorNum
import Derived.Test.YtpejnfhenpdobaaDoorRec
namespace Go.G9
open Go.RowKit
abbrev L8 := List UInt8
def bs (l : L8) : ByteArray := ⟨l.toArray⟩
theorem bs_list (l : L8) : (bs l).data.toList = l := by simp [bs]
theorem bs_of (s : ByteArray) : bs s.data.toList = s := ba_ext (bs_list _)
theorem bs_size (l : L8) : (bs l).size = l.length := by show l.toArray.size = _; simp
theorem bs_app (a b : L8) : bs a ++ bs b = bs (a ++ b) := ba_ext (by simp [bs])
theorem bs_inj {a b : L8} (h : bs a = bs b) : a = b := by have := congrArg (fun s : ByteArray => s.data.toList) h; simpa [bs_list] using this
/-- What stands ahead of the first byte c; behind it. -/
def bef (c : UInt8) (l : L8) : L8 := l.takeWhile (fun x => !(x == c))
def aft (c : UInt8) (l : L8) : L8 := (l.dropWhile (fun x => !(x == c))).drop 1
theorem bef_app {c : UInt8} {a b : L8} (h : c ∉ a) : bef c (a ++ c :: b) = a := by
  unfold bef
  rw [List.takeWhile_append_of_pos (fun x hx => by simp; rintro rfl; exact h hx)]
  simp
theorem aft_app {c : UInt8} {a b : L8} (h : c ∉ a) : aft c (a ++ c :: b) = b := by
  unfold aft
  rw [List.dropWhile_append_of_pos (fun x hx => by simp; rintro rfl; exact h hx)]
  simp
theorem bef_none {c : UInt8} : ∀ {a : L8}, c ∉ a → bef c a = a
  | [], _ => rfl
  | x :: a, h => by
    simp only [List.mem_cons, not_or] at h
    have ih := bef_none h.2
    unfold bef at ih ⊢
    have hx : (!(x == c)) = true := by simp; exact fun e => h.1 e.symm
    simp [hx, ih]
theorem aft_none {c : UInt8} : ∀ {a : L8}, c ∉ a → aft c a = []
  | [], _ => rfl
  | x :: a, h => by
    simp only [List.mem_cons, not_or] at h
    have ih := aft_none h.2
    unfold aft at ih ⊢
    have hx : (!(x == c)) = true := by simp; exact fun e => h.1 e.symm
    simp [hx]
    simpa using ih
theorem bef_not {c : UInt8} : ∀ (a : L8), c ∉ bef c a
  | [] => by simp [bef]
  | x :: a => by
    have ih := bef_not (c := c) a
    unfold bef at ih ⊢
    by_cases hx : x = c
    · simp [hx]
    · simp [hx, ih, Ne.symm hx]
theorem split_at {c : UInt8} : ∀ {l : L8}, c ∈ l → l = bef c l ++ c :: aft c l
  | [], h => by simp at h
  | x :: l, h => by
    by_cases hx : x = c
    · subst hx; simp [bef, aft]
    · have hl : c ∈ l := by simpa [Ne.symm hx] using h
      have ih := split_at hl
      have e1 : bef c (x :: l) = x :: bef c l := by simp [bef, hx]
      have e2 : aft c (x :: l) = aft c l := by simp [aft, hx]
      rw [e1, e2, List.cons_append, ← ih]
theorem bef_len_le (c : UInt8) (l : L8) : (bef c l).length ≤ l.length := by
  unfold bef; exact (List.takeWhile_sublist _).length_le
theorem aft_len_le (c : UInt8) (l : L8) : (aft c l).length ≤ l.length := by
  unfold aft; exact (List.Sublist.trans (List.drop_sublist _ _) (List.dropWhile_sublist _)).length_le
def hasC (c : UInt8) (l : L8) : Bool := l.contains c
theorem hasC_mem {c : UInt8} {l : L8} : hasC c l = true ↔ c ∈ l := List.contains_iff_mem
theorem hasC_not {c : UInt8} {l : L8} : hasC c l = false ↔ c ∉ l := by rw [← Bool.not_eq_true, hasC_mem]
/-- The checksum, the sealed text, the line of a record (without its end). -/
def sumL (l : L8) : Nat := l.foldl (fun h c => (41 * h + c.toNat + 1) % 999979) 7
def numL (n : Int) : L8 := Lib.itoa n
def sealL (l : L8) : L8 := l ++ 35 :: numL (sumL l)
def bodyL (k : Int) (c r : L8) : L8 := numL k ++ 32 :: (c ++ 64 :: r)
def lineL (k : Int) (c r : L8) : L8 := sealL (bodyL k c r)
theorem sumL_lt (l : L8) : sumL l < 999979 := by
  unfold sumL
  have : ∀ (l : L8) (h : Nat), h < 999979 → l.foldl (fun h c => (41 * h + c.toNat + 1) % 999979) h < 999979 := by
    intro l
    induction l with
    | nil => intro h hh; exact hh
    | cons c l ih => intro h _; exact ih _ (Nat.mod_lt _ (by omega))
  exact this l 7 (by omega)
theorem digit_dec (u : Nat) : ∀ x ∈ Lib.decDigits u, 48 ≤ x.toNat ∧ x.toNat ≤ 57 := by
  induction u using Nat.strongRecOn with
  | _ u ih =>
    intro x hx
    rw [Lib.decDigits] at hx
    split at hx
    · simp at hx; subst hx
      rename_i h
      simp; omega
    · rw [List.mem_append] at hx
      rcases hx with hx | hx
      · exact ih (u / 10) (by omega) x hx
      · simp at hx; subst hx
        simp; omega
theorem numL_nonneg {n : Int} (h : 0 ≤ n) : numL n = Lib.decDigits n.toNat := by unfold numL Lib.itoa; rw [if_neg (by omega)]
theorem numL_not {n : Int} (h : 0 ≤ n) {c : UInt8} (hc : c.toNat < 48) : c ∉ numL n := by
  rw [numL_nonneg h]
  intro hm
  have := digit_dec _ _ hm
  omega
theorem numL_len {n : Int} (h : 0 ≤ n) (h2 : n < 1000000) : (numL n).length ≤ 6 := by
  rw [numL_nonneg h]; exact nDigits_le 5 _ (by omega)
theorem numL_len2 {n : Int} (h : 0 ≤ n) (h2 : n < 100) : (numL n).length ≤ 2 := by
  rw [numL_nonneg h]; exact nDigits_le 1 _ (by omega)
end Go.G9
namespace Go.Proofs.YtpejnfhenpdobaaDoor
open Go.RowKit Go.G9
def okL (c r : L8) : Bool := recB (bs c) (bs r)
theorem okL_parts {c r : L8} (h : okL c r = true) : 1 ≤ c.length ∧ c.length ≤ 160 ∧ r.length ≤ 200 ∧ (35 : UInt8) ∉ c ∧ (35 : UInt8) ∉ r ∧ (64 : UInt8) ∉ c ∧ (10 : UInt8) ∉ c ∧ (10 : UInt8) ∉ r := by
  simp only [okL, recB, inB, plainB, stB, bs_list, bs_size, Bool.and_eq_true, decide_eq_true_eq, Bool.not_eq_true', List.all_eq_true, List.any_eq_false] at h
  obtain ⟨⟨h1, h2⟩, h3, h4, h5, h6⟩ := h
  have hp : ∀ x, plainC x = true → x ≠ 35 ∧ x ≠ 10 := by
    intro x hx
    constructor
    · rintro rfl; simp [plainC] at hx
    · rintro rfl; revert hx; decide
  refine ⟨by omega, by omega, by omega, fun hm => (hp _ (h4 _ hm)).1 rfl, fun hm => (hp _ (h5 _ hm)).1 rfl, fun hm => by have := h6 _ hm; simp at this, fun hm => (hp _ (h4 _ hm)).2 rfl, fun hm => (hp _ (h5 _ hm)).2 rfl⟩
theorem body_parts {k : Int} (hk : 0 ≤ k) {c r : L8} (h : okL c r = true) : (35 : UInt8) ∉ bodyL k c r ∧ (10 : UInt8) ∉ lineL k c r ∧ bef 35 (lineL k c r) = bodyL k c r ∧ aft 32 (bodyL k c r) = c ++ 64 :: r ∧ bef 64 (c ++ 64 :: r) = c ∧ aft 64 (c ++ 64 :: r) = r := by
  obtain ⟨_, _, _, h1, h2, h3, h4, h5⟩ := okL_parts h
  have n35 := numL_not hk (c := 35) (by decide)
  have n32 := numL_not hk (c := 32) (by decide)
  have n10 := numL_not hk (c := 10) (by decide)
  have hb : (35 : UInt8) ∉ bodyL k c r := by
    unfold bodyL; simp [n35, h1, h2]
  have s10 := numL_not (n := (sumL (bodyL k c r) : Nat)) (by omega) (c := 10) (by decide)
  refine ⟨hb, ?_, ?_, ?_, bef_app h3, aft_app h3⟩
  · unfold lineL sealL
    simp only [List.mem_append, List.mem_cons, not_or]
    refine ⟨?_, by decide, s10⟩
    unfold bodyL; simp [n10, h4, h5]
  · unfold lineL sealL; exact bef_app hb
  · unfold bodyL; exact aft_app n32
theorem lineL_len {k : Int} (hk : 0 ≤ k) (hk2 : k < 100) {c r : L8} (h : okL c r = true) : (lineL k c r).length ≤ 371 := by
  obtain ⟨h1, h2, h3, _⟩ := okL_parts h
  have a := numL_len2 hk hk2
  have b := numL_len (n := (sumL (bodyL k c r) : Nat)) (by omega) (by have := sumL_lt (bodyL k c r); omega)
  unfold lineL sealL
  simp only [List.length_append, List.length_cons]
  unfold bodyL
  simp only [List.length_append, List.length_cons]
  unfold bodyL at b
  omega
/-- The program's reader of a line; the reference's. -/
def rdI (line : L8) (k : Nat) : Option (L8 × L8) :=
  let rest := aft 32 (bef 35 line)
  if okL (bef 64 rest) (aft 64 rest) && decide (lineL k (bef 64 rest) (aft 64 rest) = line) then some (bef 64 rest, aft 64 rest) else none
def rdS (line : L8) (k : Nat) : Option (L8 × L8) :=
  let text := bef 35 line; let ahead := numL k ++ [32]
  if text.take ahead.length = ahead then
    let rest := text.drop ahead.length; let ask := bef 64 rest
    if ask.length = rest.length then none
    else if okL ask (rest.drop (ask.length + 1)) && decide (lineL k ask (rest.drop (ask.length + 1)) = line) then some (ask, rest.drop (ask.length + 1)) else none
  else none
theorem rdI_some {line : L8} {k : Nat} {c r : L8} (h : rdI line k = some (c, r)) : okL c r = true ∧ line = lineL k c r := by
  unfold rdI at h
  simp only at h
  split at h
  · rename_i hc
    simp only [Bool.and_eq_true, decide_eq_true_eq] at hc
    simp only [Option.some.injEq, Prod.mk.injEq] at h
    obtain ⟨rfl, rfl⟩ := h
    exact ⟨hc.1, hc.2.symm⟩
  · cases h
theorem rdS_some {line : L8} {k : Nat} {c r : L8} (h : rdS line k = some (c, r)) : okL c r = true ∧ line = lineL k c r := by
  unfold rdS at h
  simp only at h
  split at h
  · split at h
    · cases h
    · split at h
      · rename_i hc
        simp only [Bool.and_eq_true, decide_eq_true_eq] at hc
        simp only [Option.some.injEq, Prod.mk.injEq] at h
        obtain ⟨rfl, rfl⟩ := h
        exact ⟨hc.1, hc.2.symm⟩
      · cases h
  · cases h
theorem rdI_line {k : Nat} {c r : L8} (h : okL c r = true) : rdI (lineL k c r) k = some (c, r) := by
  obtain ⟨_, _, h1, h2, h3, h4⟩ := body_parts (k := (k : Int)) (by omega) h
  unfold rdI
  simp only [h1, h2, h3, h4, h, decide_true, Bool.and_self, if_true]
theorem rdS_line {k : Nat} {c r : L8} (h : okL c r = true) : rdS (lineL k c r) k = some (c, r) := by
  obtain ⟨_, _, h1, _, h3, _⟩ := body_parts (k := (k : Int)) (by omega) h
  have e1 : bodyL k c r = (numL k ++ [32]) ++ (c ++ 64 :: r) := by simp [bodyL]
  unfold rdS
  simp only [h1]
  rw [e1, List.take_left' rfl, if_pos rfl, List.drop_left' rfl, h3, if_neg (by simp)]
  have e2 : (c ++ 64 :: r).drop (c.length + 1) = r := by rw [List.drop_append]; simp
  rw [e2, h]
  simp
theorem rdS_eq (line : L8) (k : Nat) : rdS line k = rdI line k := by
  cases h : rdI line k with
  | some x =>
    obtain ⟨c, r⟩ := x
    obtain ⟨h1, rfl⟩ := rdI_some h
    exact rdS_line h1
  | none =>
    cases h2 : rdS line k with
    | none => rfl
    | some x =>
      obtain ⟨c, r⟩ := x
      obtain ⟨h3, rfl⟩ := rdS_some h2
      rw [rdI_line h3] at h; cases h
/-- A record read from the start of a text. -/
def rd1 (l : L8) (k : Nat) : Option (L8 × L8 × Nat) :=
  if hasC 10 l && decide (k < 60) then (rdI (bef 10 l) k).map fun x => (x.1, x.2, (bef 10 l).length + 1) else none
theorem rd1_some {l : L8} {k : Nat} {c r : L8} {n : Nat} (h : rd1 l k = some (c, r, n)) : k < 60 ∧ okL c r = true ∧ n = (lineL k c r).length + 1 ∧ l = lineL k c r ++ 10 :: aft 10 l := by
  unfold rd1 at h
  split at h
  · rename_i hc
    simp only [Bool.and_eq_true, decide_eq_true_eq, hasC_mem] at hc
    cases hx : rdI (bef 10 l) k with
    | none => rw [hx] at h; cases h
    | some x =>
      obtain ⟨c', r'⟩ := x
      rw [hx] at h
      simp only [Option.map_some, Option.some.injEq, Prod.mk.injEq] at h
      obtain ⟨rfl, rfl, rfl⟩ := h
      obtain ⟨h1, h2⟩ := rdI_some hx
      refine ⟨hc.2, h1, by rw [h2], ?_⟩
      have := split_at hc.1
      rw [h2] at this
      exact this
  · cases h
theorem rd1_line {k : Nat} (hk : k < 60) {c r t : L8} (h : okL c r = true) : rd1 (lineL k c r ++ 10 :: t) k = some (c, r, (lineL k c r).length + 1) := by
  have hn := (body_parts (k := (k : Int)) (by omega) h).2.1
  unfold rd1
  rw [bef_app hn, rdI_line h, if_pos (by simp [hk, hasC_mem])]
  rfl
theorem rd1_len {l : L8} {k : Nat} {c r : L8} {n : Nat} (h : rd1 l k = some (c, r, n)) : n ≤ l.length ∧ 1 ≤ n ∧ n ≤ 372 := by
  obtain ⟨h0, h1, rfl, h2⟩ := rd1_some h
  have := lineL_len (k := (k : Int)) (by omega) (by omega) h1
  refine ⟨?_, by omega, by omega⟩
  have e := congrArg List.length h2
  simp at e; omega
/-- The records read from the start of a text: each with the place where it ends. -/
def rdGo : Nat → Nat → L8 → Nat → List (L8 × L8 × Nat)
  | 0, _, _, _ => []
  | f + 1, k, l, a => match rd1 l k with
    | none => []
    | some (c, r, n) => (c, r, a + n) :: rdGo f (k + 1) (l.drop n) (a + n)
def rdAll (l : L8) : List (L8 × L8 × Nat) := rdGo 61 0 l 0
end Go.Proofs.YtpejnfhenpdobaaDoor
