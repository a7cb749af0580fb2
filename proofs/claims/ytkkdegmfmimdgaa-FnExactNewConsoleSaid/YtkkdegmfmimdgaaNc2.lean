/- Small functions on numbers and words: what they compute. -/
import Derived.Test.YtkkdegmfmimdgaaProg
import Derived.Test.YtkkdegmfmimdgaaNc0
import Derived.Laws.AppendOwnNone
import Derived.Lib.SlBytesRow
namespace Go.Proofs.Ytkkdegmfmimdgaa
open Go.RowKit Go.G9
def inB (n a b : Int) : Bool := decide (a ≤ n) && decide (n ≤ b)
theorem inB_eq {n a b : Int} {v : Bool} (h : (decide (a ≤ n) && decide (n ≤ b)) = v) : inB n a b = v := h
theorem inB_iff {n a b : Int} : inB n a b = true ↔ a ≤ n ∧ n ≤ b := by simp [inB]
def lowB (l : List UInt8) : Bool := l.all fun c => decide (97 ≤ c.toNat) && decide (c.toNat ≤ 122)
def wordB (s : ByteArray) : Bool := lowB s.data.toList && inB s.size 1 10

theorem inside_is (n a b : Int) (v : Bool) (hv : inB n a b = v) (w : World) : Calls Try.prog 85 #[.int .i64 n, .int .i64 a, .int .i64 b] w fun e w' => e = .returned (.bool v) ∧ w' = w := by
  subst hv
  go_enter Try.func85, Try.ntmps85
  go_wp2
  all_goals go_ret; exact ⟨by simp [inB, *] <;> omega, rfl⟩
theorem l1In_is (n a b : Int) (v : Bool) (hv : inB n a b = v) (w : World) : Calls Try.prog 96 #[.int .i64 n, .int .i64 a, .int .i64 b] w fun e w' => e = .returned (.bool v) ∧ w' = w := by
  subst hv
  go_enter Try.func96, Try.ntmps96
  go_wp2
  all_goals go_ret; exact ⟨by simp [inB, *] <;> omega, rfl⟩

theorem lowB_take_succ (s : ByteArray) (k : Nat) (h : k < s.size) : lowB (s.data.toList.take (k+1)) = (lowB (s.data.toList.take k) && (decide (97 ≤ s[k].toNat) && decide (s[k].toNat ≤ 122))) := by
  unfold lowB
  rw [List.take_succ_eq_append_getElem (by simpa using h), List.all_append]; simp; rfl
theorem lowB_not (s : ByteArray) (k : Nat) (h : k < s.size) (h1 : (decide (97 ≤ s[k].toNat) && decide (s[k].toNat ≤ 122)) = false) : lowB s.data.toList = false := by
  have : lowB s.data.toList = (lowB (s.data.toList.take (k+1)) && lowB (s.data.toList.drop (k+1))) := by
    unfold lowB; rw [← List.all_append, List.take_append_drop]
  rw [this, lowB_take_succ s k h, h1]; simp
theorem isWord_is (s : ByteArray) (hs : s.size ≤ maxLen) (v : Bool) (hv : wordB s = v) (w : World) : Calls Try.prog 114 #[.string s] w fun e w' => e = .returned (.bool v) ∧ w' = w := by
  subst hv
  unfold maxLen at hs
  go_enter Try.func114, Try.ntmps114
  go_wp2
  go_loop [3] (fun i => ∃ k : Nat, k ≤ s.size ∧ i = .int .i64 k ∧ lowB (s.data.toList.take k) = true) (fun i => s.size - (intOf i).toNat)
  case atStart => exact ⟨0, Nat.zero_le _, rfl, rfl⟩
  case round =>
    obtain ⟨k, hk, rfl, hl⟩ := hrel
    have HL := Lib.hid hl; clear hl
    by_cases hlt : k < s.size
    · by_cases h1 : s[k].toNat < 97
      · go_wp2
        go_ret
        exact ⟨by simp [wordB, lowB_not s k hlt (by simp; omega)], rfl⟩
      · by_cases h2 : 122 < s[k].toNat
        · go_wp2
          go_ret
          exact ⟨by simp [wordB, lowB_not s k hlt (by simp; omega)], rfl⟩
        · go_wp2
          go_round
          case rel => exact ⟨k + 1, by omega, by go_num, by rw [lowB_take_succ s k hlt, HL.out]; simp; omega⟩
          case measure => simp [intOf]; omega
    · obtain rfl : k = s.size := by omega
      go_wp2_with (go_at_call 85; refine (inside_is _ _ _ _ rfl _).mono ?_; rintro e w' ⟨rfl, rfl⟩)
      go_ret
      have := HL.out
      rw [List.take_of_length_le (by simp)] at this
      exact ⟨by simp [wordB, this], rfl⟩
theorem l2Word_is (s : ByteArray) (hs : s.size ≤ maxLen) (v : Bool) (hv : wordB s = v) (w : World) : Calls Try.prog 113 #[.string s] w fun e w' => e = .returned (.bool v) ∧ w' = w := by
  subst hv
  unfold maxLen at hs
  go_enter Try.func113, Try.ntmps113
  go_wp2
  go_loop [3] (fun i => ∃ k : Nat, k ≤ s.size ∧ i = .int .i64 k ∧ lowB (s.data.toList.take k) = true) (fun i => s.size - (intOf i).toNat)
  case atStart => exact ⟨0, Nat.zero_le _, rfl, rfl⟩
  case round =>
    obtain ⟨k, hk, rfl, hl⟩ := hrel
    have HL := Lib.hid hl; clear hl
    by_cases hlt : k < s.size
    · by_cases h1 : s[k].toNat < 97
      · go_wp2
        go_ret
        exact ⟨by simp [wordB, lowB_not s k hlt (by simp; omega)], rfl⟩
      · by_cases h2 : 122 < s[k].toNat
        · go_wp2
          go_ret
          exact ⟨by simp [wordB, lowB_not s k hlt (by simp; omega)], rfl⟩
        · go_wp2
          go_round
          case rel => exact ⟨k + 1, by omega, by go_num, by rw [lowB_take_succ s k hlt, HL.out]; simp; omega⟩
          case measure => simp [intOf]; omega
    · obtain rfl : k = s.size := by omega
      go_wp2_with (go_at_call 96; refine (l1In_is _ _ _ _ rfl _).mono ?_; rintro e w' ⟨rfl, rfl⟩)
      go_ret
      have := HL.out
      rw [List.take_of_length_le (by simp)] at this
      exact ⟨by simp [wordB, this], rfl⟩
end Go.Proofs.Ytkkdegmfmimdgaa
/- The index of the first element that a test takes; a call of a function value. -/
namespace Go.G9
open Go.RowKit
def atB {T : Type} (p : T → Bool) (xs : List T) (i : Nat) : Bool := match xs[i]? with | some x => p x | none => false
/-- The index of the first element that p takes, -1 if there is none. -/
def idxB {T : Type} (p : T → Bool) (xs : List T) : Int := match xs.findIdx? p with | some i => i | none => -1
theorem idxB_none {T : Type} {p : T → Bool} {xs : List T} (h : allTo (fun i => !atB p xs i) xs.length = true) : idxB p xs = -1 := by
  have : xs.findIdx? p = none := by
    rw [List.findIdx?_eq_none_iff]
    intro x hx
    obtain ⟨i, hi⟩ := List.getElem?_of_mem hx
    have := allTo_iff.1 h i (List.getElem?_eq_some_iff.1 hi).1
    simpa [atB, hi] using this
  simp [idxB, this]
theorem idxB_found {T : Type} {p : T → Bool} {xs : List T} {k : Nat} (hk : k < xs.length) (h : allTo (fun i => !atB p xs i) k = true) (hp : atB p xs k = true) : idxB p xs = k := by
  have : xs.findIdx? p = some k := by
    rw [List.findIdx?_eq_some_iff_getElem]
    refine ⟨hk, ?_, fun j hj => ?_⟩
    · simpa [atB, List.getElem?_eq_getElem hk] using hp
    · have := allTo_iff.1 h j hj
      simpa [atB, List.getElem?_eq_getElem (show j < xs.length by omega)] using this
  simp [idxB, this]
theorem idxB_ge {T : Type} (p : T → Bool) (xs : List T) : (decide (0 ≤ idxB p xs)) = xs.any p := by
  unfold idxB
  cases h : xs.findIdx? p with
  | none => simp at h; simpa using fun x hx => by simpa using h x hx
  | some i =>
    rw [List.findIdx?_eq_some_iff_getElem] at h
    obtain ⟨hi, hp, _⟩ := h
    have : xs.any p = true := List.any_eq_true.2 ⟨_, List.getElem_mem hi, hp⟩
    rw [this]; simp
theorem idxB_lt {T : Type} (p : T → Bool) (xs : List T) : -1 ≤ idxB p xs ∧ idxB p xs < xs.length := by
  unfold idxB
  cases h : xs.findIdx? p with
  | none => simp; omega
  | some i =>
    rw [List.findIdx?_eq_some_iff_getElem] at h
    obtain ⟨hi, _⟩ := h
    simp; omega
theorem run_enter {P : Program} {f : FuncId} {fn : Func} (hf : P.funcs[f]? = some fn) (hname : (fn.name == "runtime.NumGoroutine") = false) (hb : fn.body.isNone = false) (args : Array Value) (W : World) :
    (callFunc f args).run P W = .ok (.enter f args) W := by
  have h1 : fn.name ≠ "runtime.NumGoroutine" := by simpa using hname
  have h2 : fn.body ≠ none := by intro h; rw [h] at hb; simp at hb
  simp [callFunc, hf, h1, h2]
/-- The cells of an int, of a string. -/
def intC (x : Int) : List Value := [.int .i64 x]
structure Str where
  s : ByteArray
  ok : s.size ≤ maxLen
def Str.cells (x : Str) : List Value := [.string x.s]
end Go.G9
/- Slices that the call itself has made: what they hold, appends to them, marks in them. -/
namespace Go.G9
open Go.RowKit
/-- The slice value v owns its block, from B on, and holds the elements xs, each as the cells that f gives. -/
def OwnV {T : Type} (B : Nat) (e : TypeId) (sz : Nat) (f : T → List Value) (w : World) (v : Value) (xs : List T) : Prop := w.ownsRow B e sz v xs.length (xs.flatMap f)
section
variable {T : Type} {B : Nat} {e : TypeId} {sz : Nat} {f : T → List Value} {w w' : World} {v : Value} {xs : List T}
theorem flat_len (hf : ∀ y, (f y).length = sz) : ∀ xs : List T, (xs.flatMap f).length = xs.length * sz
  | [] => by simp
  | x :: xs => by rw [List.flatMap_cons, List.length_append, flat_len hf xs, hf, List.length_cons, Nat.add_mul, Nat.one_mul, Nat.add_comm]
theorem flat_get (hf : ∀ y, (f y).length = sz) : ∀ (xs : List T) (i : Nat) (x : T), xs[i]? = some x → ∀ (j : Nat) (u : Value), (f x)[j]? = some u → (xs.flatMap f)[i * sz + j]? = some u
  | [], _, _, h, _, _, _ => by simp at h
  | y :: xs, 0, x, h, j, u, hu => by
    simp at h; subst h
    rw [List.flatMap_cons, List.getElem?_append_left (by have := (List.getElem?_eq_some_iff.1 hu).1; omega), Nat.zero_mul, Nat.zero_add]; exact hu
  | y :: xs, i + 1, x, h, j, u, hu => by
    simp at h
    have h2 := flat_get hf xs i x h j u hu
    rw [List.flatMap_cons, List.getElem?_append_right (by rw [hf, Nat.add_mul]; omega), hf, show (i + 1) * sz + j - sz = i * sz + j from by rw [Nat.add_mul, Nat.one_mul]; omega]
    exact h2
theorem flat_inv (hf : ∀ y, (f y).length = sz) (xs : List T) (k : Nat) (u : Value) (h : (xs.flatMap f)[k]? = some u) : ∃ i j x, xs[i]? = some x ∧ (f x)[j]? = some u ∧ k = i * sz + j := by
  induction xs generalizing k with
  | nil => simp at h
  | cons y xs ih =>
    rw [List.flatMap_cons] at h
    by_cases hk : k < (f y).length
    · rw [List.getElem?_append_left hk] at h
      exact ⟨0, k, y, rfl, h, by omega⟩
    · rw [List.getElem?_append_right (by omega)] at h
      obtain ⟨i, j, x, hx, hj, e⟩ := ih _ h
      exact ⟨i + 1, j, x, by simpa using hx, hj, by rw [Nat.add_mul, Nat.one_mul]; have := hf y; omega⟩
theorem OwnV.nil : OwnV B e sz f w (.slice none 0 0) [] := World.ownsRow_nil _ _ _ _
theorem OwnV.form (h : OwnV B e sz f w v xs) (hf : ∀ y, (f y).length = sz) : ∃ A c, v = .slice A xs.length c ∧ xs.length ≤ c ∧ Rds sz f w A xs ∧ (A = none → xs = []) := by
  obtain ⟨hl, h⟩ := h
  rcases h with ⟨rfl, h0⟩ | ⟨g, cap, cur, rfl, hB, hh, hnc, hcm, hcs, htake⟩
  · have : xs = [] := List.length_eq_zero_iff.1 h0
    subst this
    exact ⟨none, 0, rfl, Nat.le_refl _, Rds.nil, fun _ => rfl⟩
  · refine ⟨some ⟨g, 0, none⟩, cap, rfl, hnc, fun _ => ⟨g, 0, rfl, (Array.getElem?_eq_some_iff.1 hh).1, fun i x hx j u hu => ?_⟩, fun h => by cases h⟩
    have h1 := flat_get hf xs i x hx j u hu
    rw [← htake, List.getElem?_take] at h1
    split at h1
    · rw [Nat.zero_add, cell_of_row w g _ cur e (0, 0) hh]; simpa using h1
    · cases h1
theorem OwnV.rds {A : Option Addr} {n c : Nat} (h : OwnV B e sz f w (.slice A n c) xs) (hf : ∀ y, (f y).length = sz := by intro y; rfl) : Rds sz f w A xs := by
  obtain ⟨A', c', hv, _, hR, _⟩ := h.form hf
  injection hv with h1 h2 h3; subst h1; exact hR
theorem OwnV.below (h : OwnV B e sz f w v xs) {B' : Nat} (hb : Below B' w w') (hlt : ∀ k, v.ownBlock = some k → k < B') : OwnV B e sz f w' v xs := by
  refine ⟨h.1, ?_⟩
  rcases h.2 with hn | ⟨g, cap, cur, rfl, hB, hh, r⟩
  · exact .inl hn
  · exact .inr ⟨g, cap, cur, rfl, hB, by rw [hb.block g (hlt g rfl)]; exact hh, r⟩
theorem OwnV.lt (h : OwnV B e sz f w v xs) : ∀ k, v.ownBlock = some k → B ≤ k ∧ k < w.heap.size := World.ownsRow.lt h
theorem OwnV.later (h : OwnV B e sz f w v xs) (hb : Below w.heap.size w w') : OwnV B e sz f w' v xs := h.below hb (fun k hk => (h.lt k hk).2)
theorem OwnV.alloc (h : OwnV B e sz f w v xs) (o : Obj) : OwnV B e sz f (w.alloc o) v xs := World.ownsRow.alloc h o
theorem OwnV.kept {row : Option Nat} (h : OwnV B e sz f w v xs) (hg : w.grownBy w' row) (hne : ∀ k, v.ownBlock = some k → some k ≠ row) : OwnV B e sz f w' v xs := by
  refine ⟨h.1, ?_⟩
  rcases h.2 with hn | ⟨g, cap, cur, rfl, hB, hh, r⟩
  · exact .inl hn
  · exact .inr ⟨g, cap, cur, rfl, hB, by rw [hg.block g (Array.getElem?_eq_some_iff.1 hh).1 (hne g rfl)]; exact hh, r⟩
theorem OwnV.base {B' : Nat} (h : OwnV B e sz f w v xs) (hB : B' ≤ B) : OwnV B' e sz f w v xs := by
  refine ⟨h.1, ?_⟩
  rcases h.2 with hn | ⟨g, cap, cur, rfl, hg, r⟩
  · exact .inl hn
  · exact .inr ⟨g, cap, cur, rfl, by omega, r⟩
/-- 'make' and a loop that has filled it. -/
theorem OwnV.filled {g : Nat} {cs : Array Value} (hb : Blk w g e cs) (hB : B ≤ g) (hsz : cs.size = xs.length * sz) (hm : xs.length ≤ maxLen) (hF : ∀ i x, xs[i]? = some x → ∀ j u, (f x)[j]? = some u → cs[i * sz + j]? = some u)
    (hf : ∀ y, (f y).length = sz := by intro y; rfl) : OwnV B e sz f w (.slice (some ⟨g, 0, none⟩) xs.length xs.length) xs := by
  refine ⟨flat_len hf xs, .inr ⟨g, xs.length, cs, rfl, hB, hb, Nat.le_refl _, hm, hsz, ?_⟩⟩
  rw [List.take_of_length_le (by simp [hsz])]
  apply List.ext_getElem?
  intro k
  by_cases hk : k < (xs.flatMap f).length
  · obtain ⟨i, j, x, hx, hj, rfl⟩ := flat_inv hf xs k _ (List.getElem?_eq_getElem hk)
    rw [List.getElem?_eq_getElem hk, ← hF i x hx j _ hj]; simp
  · rw [flat_len hf] at hk
    rw [List.getElem?_eq_none (by rw [Array.length_toList]; omega), List.getElem?_eq_none (by rw [flat_len hf]; omega)]
theorem Rds.flat {ad : Addr} {ys : List T} (h : Rds sz f w (some ad) ys) (hf : ∀ y, (f y).length = sz) (j : Nat) (u : Value) (hu : (ys.flatMap f)[j]? = some u) : w.cell? (ad.add j) = some u := by
  obtain ⟨i, j', y, hy, hj, rfl⟩ := flat_inv hf ys j u hu
  obtain ⟨b, off, hA, _, hc⟩ := h (by have := (List.getElem?_eq_some_iff.1 hy).1; omega)
  injection hA with hA; subst hA
  rw [← hc i y hy j' u hj]
  congr 1
  unfold Addr.add
  split <;> simp_all [Nat.add_assoc]
/-- A new block that holds one element, as 'append(out, x)' lays it. -/
theorem Rds.one (x : T) (t : TypeId) : Rds sz f (w.alloc (.cells (f x).toArray t)) (some ⟨w.heap.size, 0, none⟩) [x] := fun _ =>
  ⟨w.heap.size, 0, rfl, by simp, fun i y hy j u hu => by
    have h0 : i = 0 := by have := (List.getElem?_eq_some_iff.1 hy).1; simp at this; omega
    subst h0; simp at hy; subst hy
    rw [Nat.zero_mul, Nat.zero_add]
    exact ((Blk.new w t _).cell j).trans (by simpa using hu)⟩
theorem Rds.alloc {A : Option Addr} (h : Rds sz f w A xs) (o : Obj) : Rds sz f (w.alloc o) A xs := h.below (bl1 w o)
end
section
variable {T : Type} {B : Nat} {e : TypeId} {sz : Nat} {f : T → List Value} {w w' : World} {v : Value} {xs : List T}
theorem OwnV.made (w : World) (hB : B ≤ w.heap.size) (e : TypeId) : OwnV B e sz f (w.alloc (.cells #[] e)) (.slice (some ⟨w.heap.size, 0, none⟩) 0 0) ([] : List T) :=
  World.ownsRow_made w #[] 0 hB (by simp) (by simp)
theorem OwnV.nilOk {A : Option Addr} {n c : Nat} (h : OwnV B e sz f w (.slice A n c) xs) : A = none → xs = [] ∧ c = 0 := by
  rintro rfl
  rcases h.2 with ⟨hv, h0⟩ | ⟨g, cap, cur, hv, _⟩
  · injection hv with _ _ h3; exact ⟨List.length_eq_zero_iff.1 h0, h3⟩
  · injection hv with h1; cases h1
theorem ownsRow_set {n : Nat} {cells : List Value} {g j : Nat} {u : Value} (h : w.ownsRow B e sz v n cells) (hg : v.ownBlock = some g) : (w.setCell ⟨g, j, none⟩ u).ownsRow B e sz v n (cells.set j u) := by
  obtain ⟨hl, h⟩ := h
  refine ⟨by simpa using hl, ?_⟩
  rcases h with ⟨rfl, _⟩ | ⟨g', cap, cur, rfl, hB, hh, hnc, hcm, hcs, htake⟩
  · simp [Value.ownBlock] at hg
  · simp [Value.ownBlock] at hg; subst hg
    refine .inr ⟨g', cap, cur.setIfInBounds j u, rfl, hB, (Blk.set_ (w := w) (g := g') (t := e) (cs := cur) hh j u), hnc, hcm, by simpa using hcs, ?_⟩
    rw [Array.toList_setIfInBounds, ← htake, List.take_set]
theorem ownsRow_cellAt {n : Nat} {cells : List Value} {g j : Nat} (h : w.ownsRow B e sz v n cells) (hg : v.ownBlock = some g) (hj : j < cells.length) : w.cell? ⟨g, j, none⟩ = some cells[j] ∧ w.frozen? ⟨g, j, none⟩ = false := by
  obtain ⟨hl, h⟩ := h
  rcases h with ⟨rfl, _⟩ | ⟨g', cap, cur, rfl, hB, hh, hnc, hcm, hcs, htake⟩
  · simp [Value.ownBlock] at hg
  · simp [Value.ownBlock] at hg; subst hg
    refine ⟨?_, Blk.frozen (w := w) (g := g') (t := e) (cs := cur) hh j⟩
    rw [cell_of_row w g' j cur e (0, 0) hh]
    have h1 : (cur.toList.take (n * sz))[j]? = some cells[j] := by rw [htake]; exact List.getElem?_eq_getElem hj
    rw [List.getElem?_take] at h1
    split at h1
    · simpa using h1
    · cases h1
theorem grown_refl (w : World) (row : Option Nat) : w.grownBy w row := ⟨rfl, rfl, rfl, Nat.le_refl _, fun _ _ _ => rfl⟩
theorem grown_set {a w : World} {g j : Nat} (h : a.grownBy w (some g)) (u : Value) : a.grownBy (w.setCell ⟨g, j, none⟩ u) (some g) :=
  ⟨h.os, h.tape, h.output, by simpa [World.setCell] using h.size, fun i hi hne => (Below.heap_setCell w _ u i (by rintro rfl; exact hne rfl)).trans (h.block i hi hne)⟩
theorem grown_tr {a b c : World} {row : Option Nat} (h : a.grownBy b row) (k : b.grownBy c row) : a.grownBy c row :=
  ⟨k.os.trans h.os, k.tape.trans h.tape, k.output.trans h.output, Nat.le_trans h.size k.size, fun i hi hne => (k.block i (Nat.lt_of_lt_of_le hi h.size) hne).trans (h.block i hi hne)⟩
theorem grown_below {a b : World} {row : Option Nat} {B : Nat} (h : a.grownBy b row) (hB : B ≤ a.heap.size) (hr : ∀ k, row = some k → B ≤ k) : Below B a b := (Below.refl B a).grown h hB hr
theorem below_grown {a b : World} (h : Below a.heap.size a b) (row : Option Nat) : a.grownBy b row := ⟨h.os, h.tape, h.output, h.size, fun i hi _ => h.block i hi⟩
/-- A reading survives writes elsewhere. -/
theorem Rds.grown {A : Option Addr} {row : Option Nat} (h : Rds sz f w A xs) (hg : w.grownBy w' row) (hne : ∀ ad, A = some ad → some ad.block ≠ row) : Rds sz f w' A xs := fun hn => by
  obtain ⟨b, off, hA, hlt, hc⟩ := h hn
  exact ⟨b, off, hA, Nat.lt_of_lt_of_le hlt hg.size, fun i x hx j u hu => (World.cell?_of_block (hg.block b hlt (hne _ hA))).trans (hc i x hx j u hu)⟩
def markTo (k : Int) (xs : List Int) (i : Nat) : List Int := xs.mapIdx (fun j x => if j < i then k + j else x)
theorem markTo_zero (k : Int) (xs : List Int) : markTo k xs 0 = xs := by
  apply List.ext_getElem?
  intro j
  simp only [markTo, List.getElem?_mapIdx]
  cases xs[j]? <;> simp
theorem markTo_len (k : Int) (xs : List Int) (i : Nat) : (markTo k xs i).length = xs.length := by simp [markTo]
theorem markTo_set (k : Int) (xs : List Int) (i : Nat) : (markTo k xs i).set i (k + i) = markTo k xs (i + 1) := by
  apply List.ext_getElem?
  intro j
  simp only [markTo, List.getElem?_set, List.getElem?_mapIdx, List.length_mapIdx]
  by_cases hij : i = j
  · subst hij
    by_cases hl : i < xs.length
    · simp [hl]
    · simp [hl]
  · rw [if_neg hij]
    cases xs[j]? with
    | none => simp
    | some x => simp only [Option.map_some, Option.some.injEq]; split <;> split <;> first | rfl | omega
theorem markTo_at {k : Int} {xs : List Int} {j : Nat} {x : Int} (h : (markTo k xs xs.length)[j]? = some x) : x = k + j := by
  simp only [markTo, List.getElem?_mapIdx] at h
  cases hx : xs[j]? with
  | none => rw [hx] at h; simp at h
  | some y => rw [hx] at h; have := (List.getElem?_eq_some_iff.1 hx).1; simp [this] at h; exact h.symm
end
/-- 'append(s, x...)', s of the call's own, x whatever slice: nil, empty or not. -/
theorem wpList_app {P : Program} {w : World} {ops : Array Oper} {rest : List Oper} {o : Oper} {a : Act} {Q : Exit → Act → World → Prop} (hgd : o.guard = none) (s x : Operand) (t : TypeId)
    (ho : o.op = .call { callee := .builtin .append, args := #[s, x], argTypes := #[t, t] })
    (B : Nat) (e : TypeId) (i : TypeInfo) (z : Value) (sz bytes : Nat) (ht : P.underlying t = some (.slice e)) (hi : P.info? e = some i) (hz : i.zero = some z)
    (hsize : i.size = sz) (hby : i.bytes = bytes) (hzs : z.cells.size = sz) (hsz : 0 < sz) {T : Type} (f : T → List Value) (hf : ∀ y, (f y).length = sz) (hone : ∀ y u, u ∈ f y → u.oneCell' = true)
    (v : Value) (xs : List T) (hs : a.eval s = v) (hown : OwnV B e sz f w v xs) (A2 : Option Addr) (c2 : Nat) (ys : List T) (hx : a.eval x = .slice A2 ys.length c2) (hR : Rds sz f w A2 ys)
    (hA : A2 = none → ys = [] ∧ c2 = 0) (h63 : xs.length + ys.length ≤ maxLen) (hbytes : (xs.length + ys.length) * bytes ≤ 140737488355328) (hbase : B ≤ w.heap.size)
    (h : ∀ v' w', OwnV B e sz f w' v' (xs ++ ys) → w.grownBy w' v.ownBlock → wpList P ops Q rest (a.put o.dst v') w') : wpList P ops Q (o :: rest) a w := by
  cases A2 with
  | some ad =>
    refine wpList_append_own w hgd s x t ho B e i z sz bytes ht hi hz hsize hby hzs hsz v xs.length (xs.flatMap f) hs hown ad ys.length c2 (ys.flatMap f) hx (flat_len hf ys) (fun j u hu => Rds.flat hR hf j u hu)
      (fun u hu => by obtain ⟨y, _, hy⟩ := List.mem_flatMap.1 hu; exact hone y u hy) h63 hbytes hbase (fun v' w' h1 h2 _ => h v' w' ?_ h2)
    unfold OwnV; rw [List.length_append, List.flatMap_append]; exact h1
  | none =>
    obtain ⟨rfl, rfl⟩ := hA rfl
    exact wpList_append_own_none hgd s x t ho B e i sz ht hi v xs.length (xs.flatMap f) hs hown hx (h v w (by simpa using hown) ⟨rfl, rfl, rfl, Nat.le_refl _, fun _ _ _ => rfl⟩)

/-! A region that does not draw, walked as a quiet one: its callees may make memory, each answers one value. -/
theorem wpList_of_quiet {P : Program} {ops : Array Oper} {C : World → Prop} {F : Act → Prop} {Q : Exit → Act → World → Prop} (hF : ∀ a w, C w → F a → Q .normal a w) :
    ∀ (l : List Oper) (a : Act) (w : World), C w → wpQuiet P ops C F l a → wpList P ops Q l a w
  | [], a, w, hw, h => hF a w hw h
  | o :: rest, a, w, hw, h => by
    unfold wpQuiet at h
    unfold wpList
    split
    · rename_i hg; rw [if_pos hg] at h
      exact .inl (Oper.wp_of_quiet hw (fun a' w' hw' hK => wpList_of_quiet hF rest a' w' hw' hK) h)
    · rename_i hg; rw [if_neg hg] at h
      exact wpList_of_quiet hF rest _ w hw h
theorem wp_region_seq {P : Program} {id : Nat} {Q : Exit → Act → World → Prop} {a : Act} {w : World} {l : List Oper}
    (h : wpQuiet P l.toArray (fun w' => ∃ k : Kin w.heap.size w, w' = k.world) (fun a' => ∀ k : Kin w.heap.size w, Q .normal a' k.world) l a) : (Code.region id l.toArray false).wp P Q a w :=
  wp_region_lit (wpList_of_quiet (C := fun w' => ∃ k : Kin w.heap.size w, w' = k.world) (F := fun a' => ∀ k : Kin w.heap.size w, Q .normal a' k.world) (fun _ _ ⟨k, hk⟩ hF => hk ▸ hF k) l a w ⟨Kin.self w, rfl⟩ h)
end Go.G9
/- The text that stands for a mark. -/
namespace Go.Proofs.Ytkkdegmfmimdgaa
open Go.RowKit Go.G9
theorem flat_set {T : Type} {f : T → List Value} {sz : Nat} (hf : ∀ y, (f y).length = sz) : ∀ (xs : List T) (i : Nat) (x y : T) (j : Nat) (u : Value), xs[i]? = some x → f y = (f x).set j u → j < sz → (xs.flatMap f).set (i * sz + j) u = (xs.set i y).flatMap f
  | [], i, x, y, j, u, h, _, _ => by simp at h
  | a :: xs, 0, x, y, j, u, h, hy, hj => by
    simp at h; subst h
    simp only [List.flatMap_cons, List.set_cons_zero, Nat.zero_mul, Nat.zero_add, hy]
    rw [List.set_append_left _ _ (by rw [hf]; exact hj)]
  | a :: xs, i + 1, x, y, j, u, h, hy, hj => by
    have ih := flat_set hf xs i x y j u (by simpa using h) hy hj
    simp only [List.flatMap_cons, List.set_cons_succ]
    rw [List.set_append_right _ _ (by rw [hf, Nat.succ_mul]; omega), hf, show (i + 1) * sz + j - sz = i * sz + j by rw [Nat.succ_mul]; omega, ih]
theorem OwnV.setF {T : Type} {f : T → List Value} {B sz : Nat} {e : TypeId} {w : World} {v : Value} {xs : List T} {g : Nat} (hO : OwnV B e sz f w v xs) (hg : v.ownBlock = some g) (hf : ∀ y, (f y).length = sz) {i j : Nat} {x y : T} {u : Value} (hx : xs[i]? = some x) (hy : f y = (f x).set j u) (hj : j < sz) :
    OwnV B e sz f (w.setCell ⟨g, i * sz + j, none⟩ u) v (xs.set i y) := by
  have h := ownsRow_set (j := i * sz + j) (u := u) hO hg
  rw [flat_set hf xs i x y j u hx hy hj] at h
  unfold OwnV
  rw [List.length_set]
  exact h
def markD (k : Nat) : ByteArray := if _h : k = 0 then ⟨#[]⟩ else markD (k / 10) ++ ⟨#[48 + UInt8.ofNat (k % 10)]⟩
termination_by k
decreasing_by omega
def markS (k : Nat) : ByteArray := ⟨#[109]⟩ ++ markD k
set_option maxRecDepth 100000 in
theorem markText_is (k : Nat) (h0 : 0 < k) (h1 : k ≤ 1000000000) (w : World) : Calls Try.prog 67 #[.int .i64 k] w fun e w' => e = .returned (.string (markS k)) ∧ Below w.heap.size w w' := by
  go_enter Try.func67, Try.ntmps67
  go_wp2
  go_loopw [0, 3] (fun n s wr => ∃ (j : Nat) (t : ByteArray), j ≤ k ∧ n = .int .i64 j ∧ s = .string t ∧ markD k = markD j ++ t ∧ t.size + j ≤ k ∧ Below w.heap.size w wr) (fun n _ _ => (intOf n).toNat)
  case atStart => exact ⟨k, ⟨#[]⟩, Nat.le_refl _, rfl, rfl, by rw [show (⟨#[]⟩ : ByteArray) = ByteArray.empty from rfl, ByteArray.append_empty], Nat.le_of_eq (Nat.zero_add k), Below.refl _ _⟩
  case round =>
    obtain ⟨j, t, hj, rfl, rfl, hm, hs, hb⟩ := hrel
    have HM := Lib.hid hm; clear hm
    by_cases hlt : 0 < j
    · have hc : Lib.Bytes (wr.alloc (.cells #[.int .u8 (48 + (j : Int) % 10)] 5)) wr.heap.size 0 ⟨#[UInt8.ofNat (48 + j % 10)]⟩ := by
        intro i hi
        obtain rfl : i = 0 := by simp [ByteArray.size] at hi; omega
        have hu : (UInt8.ofNat (48 + j % 10)).toNat = 48 + j % 10 := by simp; omega
        show _ = some (Value.int .u8 ((UInt8.ofNat (48 + j % 10)).toNat : Int))
        rw [hu]
        have h := (Blk.new wr 5 #[.int .u8 (48 + (j : Int) % 10)]).cell 0
        refine h.trans ?_
        simp
      have kc := Lib.run_convert_whole (P := Try.prog) _ 125 5 9 Try.underlying125 Try.underlying5 Try.underlying9 wr.heap.size 0 ⟨#[UInt8.ofNat (48 + j % 10)]⟩ hc 1
      rw [show (⟨#[UInt8.ofNat (48 + j % 10)]⟩ : ByteArray).size = 1 from rfl] at kc
      clear hc
      go_wp2
      go_roundw
      case rel => exact ⟨j / 10, _, by omega, by go_num, rfl, by rw [HM.out, markD, dif_neg (by omega), ByteArray.append_assoc], by simp [ByteArray.size_append]; show 1 + _ + _ ≤ _; omega, hb.alloc hb.size _⟩
      case measure => simp [intOf]; omega
    · obtain rfl : j = 0 := by omega
      go_wp2
      go_ret
      refine ⟨?_, hb⟩
      show Ending.returned (Value.string (⟨#[109]⟩ ++ t)) = _
      rw [markS, HM.out, markD, dif_pos rfl, show ((⟨#[]⟩ : ByteArray) ++ t) = t from ByteArray.empty_append]
end Go.Proofs.Ytkkdegmfmimdgaa
/- slices.IndexFunc and its kin, at the instances that the program uses. -/
namespace Go.Proofs.Ytkkdegmfmimdgaa
open Go.RowKit Go.G9
end Go.Proofs.Ytkkdegmfmimdgaa
/- Lists of numbers: rising ones, membership, copies, marks. -/
namespace Go.Proofs.Ytkkdegmfmimdgaa
open Go.RowKit Go.G9
def ascStep (xs : List Int) (lo hi : Int) : Nat → Bool
  | 0 => match xs[0]? with | some x => inB x lo hi | none => true
  | j + 1 => match xs[j]?, xs[j+1]? with | some y, some x => inB x lo hi && decide (y < x) | _, _ => true
def ascB (xs : List Int) (lo hi : Int) : Bool := allTo (ascStep xs lo hi) xs.length
def hasB (xs : List Int) (n : Int) : Bool := xs.any (fun x => x == n)
theorem hasB_yes {xs : List Int} {n x : Int} {k : Nat} (hx : xs[k]? = some x) (h : x = n) : hasB xs n = true := by
  subst h; exact List.any_eq_true.2 ⟨x, List.mem_of_getElem? hx, by simp⟩
theorem hasB_no {xs : List Int} {n : Int} (h : allTo (fun i => !atB (fun x => x == n) xs i) xs.length = true) : hasB xs n = false := by
  have := idxB_ge (fun x => x == n) xs
  rw [idxB_none h] at this
  exact this.symm
theorem l1Has_is (A : Option Addr) (c : Nat) (xs : List Int) (n : Int) (hn : xs.length ≤ 1048576) (v : Bool) (hv : hasB xs n = v) (w : World) (hR : Rds 1 intC w A xs) :
  Calls Try.prog 105 #[.slice A xs.length c, .int .i64 n] w fun e w' => e = .returned (.bool v) ∧ Below w.heap.size w w' := by
  subst hv
  go_enter Try.func105, Try.ntmps105
  go_wp2
  go_loopw [5] (fun i wr => ∃ k : Nat, k ≤ xs.length ∧ i = .int .i64 k ∧ allTo (fun i => !atB (fun x => x == n) xs i) k = true ∧ Below w.heap.size w wr) (fun i _ => xs.length - (intOf i).toNat)
  case atStart => exact ⟨0, Nat.zero_le _, rfl, rfl, Below.refl _ _⟩
  case round =>
    obtain ⟨k, hk, rfl, hl, hb⟩ := hrel
    have HL := Lib.hid hl; clear hl
    by_cases hlt : k < xs.length
    · obtain ⟨b, off, x, rfl, hbl, hx, hcx⟩ := hR.at_ hb hlt
      have f0 := hcx 0 _ rfl
      simp only [Nat.mul_one, Nat.add_zero] at f0
      have g0 := f0 (Kin.self _)
      simp only [Kin.self] at g0
      have HX := Lib.hid hx; clear hx hcx
      by_cases he : x = n
      · have he' : (x == n) = true := beq_iff_eq.2 he
        have HE := Lib.hid he; clear he
        go_wp2
        go_ret
        exact ⟨ret_bool (hasB_yes HX.out HE.out).symm, hb⟩
      · have he' : (x == n) = false := beq_eq_false_iff_ne.2 he
        go_wp2
        go_roundw
        case rel => exact ⟨k + 1, by omega, by go_num, allTo_go HL.out (by simp [atB, HX.out, he]), hb⟩
        case measure => simp [intOf]; omega
    · obtain rfl : k = xs.length := by omega
      go_wp2
      go_ret
      exact ⟨ret_bool (hasB_no HL.out).symm, hb⟩
theorem index_int (A : Option Addr) (c : Nat) (xs : List Int) (n : Int) (hn : xs.length ≤ 1048576) (v : Int) (hv : idxB (fun x => x == n) xs = v) (w : World) (hR : Rds 1 intC w A xs) :
  Calls Try.prog 109 #[.slice A xs.length c, .int .i64 n] w fun e w' => e = .returned (.int .i64 v) ∧ Below w.heap.size w w' := by
  subst hv
  go_enter Try.func109, Try.ntmps109
  go_wp2
  go_loopw [8] (fun i wr => ∃ k : Nat, k ≤ xs.length ∧ i = .int .i64 k ∧ allTo (fun i => !atB (fun x => x == n) xs i) k = true ∧ Below w.heap.size w wr) (fun i _ => xs.length - (intOf i).toNat)
  case atStart => exact ⟨0, Nat.zero_le _, rfl, rfl, Below.refl _ _⟩
  case round =>
    obtain ⟨k, hk, rfl, hl, hb⟩ := hrel
    have HL := Lib.hid hl; clear hl
    by_cases hlt : k < xs.length
    · obtain ⟨b, off, x, rfl, hbl, hx, hcx⟩ := hR.at_ hb hlt
      have f0 := hcx 0 _ rfl
      simp only [Nat.mul_one, Nat.add_zero] at f0
      have g0 := f0 (Kin.self _)
      simp only [Kin.self] at g0
      have HX := Lib.hid hx; clear hx hcx
      by_cases he : x = n
      · have he' : (n == x) = true := beq_iff_eq.2 he.symm
        have HE := Lib.hid he; clear he
        go_wp2
        go_ret
        exact ⟨ret_int (idxB_found hlt HL.out (by simp [atB, HX.out, HE.out])).symm, hb⟩
      · have he' : (n == x) = false := beq_eq_false_iff_ne.2 (Ne.symm he)
        go_wp2
        go_roundw
        case rel => exact ⟨k + 1, by omega, by go_num, allTo_go HL.out (by simp [atB, HX.out, he]), hb⟩
        case measure => simp [intOf]; omega
    · obtain rfl : k = xs.length := by omega
      go_wp2
      go_ret
      exact ⟨ret_int (idxB_none HL.out).symm, hb⟩
theorem contains_int (A : Option Addr) (c : Nat) (xs : List Int) (n : Int) (hn : xs.length ≤ 1048576) (v : Bool) (hv : hasB xs n = v) (w : World) (hR : Rds 1 intC w A xs) :
  Calls Try.prog 86 #[.slice A xs.length c, .int .i64 n] w fun e w' => e = .returned (.bool v) ∧ Below w.heap.size w w' := by
  subst hv
  have hg := idxB_ge (fun x => x == n) xs
  have HG := Lib.hid hg; clear hg
  go_enter Try.func86, Try.ntmps86
  go_wp2_with fail
  refine (index_int A c xs n hn _ rfl _ hR).mono ?_
  rintro e w' ⟨rfl, hb⟩
  go_wp2
  go_ret
  exact ⟨ret_bool HG.out, hb⟩
end Go.Proofs.Ytkkdegmfmimdgaa
/- Lists of numbers: copies, comparisons, marks. -/
namespace Go.Proofs.Ytkkdegmfmimdgaa
open Go.RowKit Go.G9
theorem info_int : (Try.prog.info? 3).map (fun i => (i.zero, i.size, i.bytes)) = some (some (.int .i64 0), 1, 8) := by kernel_rfl
theorem intC_len (y : Int) : (intC y).length = 1 := rfl
theorem intC_one (y : Int) (u : Value) (h : u ∈ intC y) : u.oneCell' = true := by simp [intC] at h; subst h; rfl
theorem intC_flat (xs : List Int) : xs.flatMap intC = xs.map (Value.int .i64) := by induction xs with
  | nil => rfl
  | cons x xs ih => simp [intC, ih]
theorem szIntS_is (A : Option Addr) (c : Nat) (xs : List Int) (hn : xs.length ≤ maxLen) (l : Int) (h00 : 0 ≤ l) (h01 : l ≤ 1048576) (w : World) :
  Calls Try.prog 76 #[.slice A xs.length c, .int .i64 l] w fun e w' => ∃ r : Int, e = .returned (.int .i64 r) ∧ -1 ≤ r ∧ r ≤ l ∧ (r < 0 ∨ xs.length ≤ 1048576) ∧ w' = w := by
  unfold maxLen at hn
  go_enter Try.func76, Try.ntmps76
  go_wp2
  all_goals go_ret
  all_goals exact ⟨_, rfl, by omega, by omega, by omega, rfl⟩
theorem eqIntS_is (A A' : Option Addr) (c c' : Nat) (xs : List Int) (hn : xs.length ≤ 1048576) (w : World) (hR : Rds 1 intC w A xs) (hR' : Rds 1 intC w A' xs) :
  Calls Try.prog 36 #[.slice A xs.length c, .slice A' xs.length c'] w fun e w' => e = .returned (.bool true) ∧ Below w.heap.size w w' := by
  go_enter Try.func36, Try.ntmps36
  go_wp2
  go_loopw [5] (fun i wr => ∃ (k : Nat), k ≤ xs.length ∧ i = .int .i64 k ∧ Below w.heap.size w wr) (fun i _ => xs.length - (intOf i).toNat)
  case atStart => exact ⟨0, Nat.zero_le _, rfl, Below.refl _ _⟩
  case round =>
    obtain ⟨k, hk, rfl, hb⟩ := hrel
    by_cases hlt : k < xs.length
    · obtain ⟨b, off, x, rfl, hbl, hx, hcx⟩ := hR.at_ hb hlt
      obtain ⟨b', off', x', rfl, _, hx', hcx'⟩ := hR'.at_ hb hlt
      obtain rfl : x = x' := Option.some.inj (hx.symm.trans hx')
      have f0 := hcx 0 _ rfl
      have e0 := hcx' 0 _ rfl
      simp only [Nat.mul_one, Nat.add_zero] at f0 e0
      clear hx hcx hx' hcx'
      go_wp2
      refine wp_region_kin (by kernel_rfl) (by kernel_rfl) ?_
      repeat (go_big_quiet_step ((fail)))
      refine wpQuiet_nil ?_
      intro K
      go_wp2
      go_roundw
      case rel => exact ⟨k + 1, by omega, by go_num, bth hb K.below⟩
      case measure => simp [intOf]; omega
    · go_wp2
      go_ret
      exact ⟨rfl, hb⟩
set_option maxHeartbeats 1000000 in
theorem toIntS_is (A : Option Addr) (c : Nat) (xs : List Int) (hn : xs.length ≤ 1048576) (w : World) (hR : Rds 1 intC w A xs) :
  Calls Try.prog 81 #[.slice A xs.length c] w fun e w' => ∃ A', e = .returned (.slice A' xs.length xs.length) ∧ OwnV w.heap.size 3 1 intC w' (.slice A' xs.length xs.length) xs ∧ Below w.heap.size w w' := by
  obtain ⟨i0, hi, hz0, hz1, hz2⟩ := info_parts info_int
  have hmk := run_make_rowN (P := Try.prog) 24 3 i0 _ Try.underlying24 hi hz0 .i64 .i64 xs.length xs.length (Nat.le_refl _) (by rw [hz2]; omega) (by omega)
  rw [hz1] at hmk
  go_enter Try.func81, Try.ntmps81
  go_wp2
  go_loopw [4] (fun i wr => ∃ (k : Nat) (cs : Array Value), k ≤ xs.length ∧ i = .int .i64 k ∧ Blk wr w.heap.size 3 cs ∧ cs.size = xs.length * 1 ∧ Filled 1 intC xs k cs ∧ Below w.heap.size w wr) (fun i _ => xs.length - (intOf i).toNat)
  case atStart => exact ⟨0, _, Nat.zero_le _, rfl, Blk.new _ _ _, by simp [madeCells], Filled.zero, bl1 _ _⟩
  case round =>
    obtain ⟨k, cs, hk, rfl, hB, hsz, hF, hb⟩ := hrel
    have HSZ := Lib.hid hsz; clear hsz
    by_cases hlt : k < xs.length
    · obtain ⟨b, off, x, rfl, hbl, hx, hcx⟩ := hR.at_ hb hlt
      have f0 := hcx 0 _ rfl
      simp only [Nat.mul_one, Nat.add_zero] at f0
      have g0 := f0 (Kin.self _)
      simp only [Kin.self] at g0
      clear hcx
      have HX := Lib.hid hx; clear hx
      obtain ⟨v0, c0⟩ := hB.some_ k (by rw [HSZ.out]; omega)
      have z0 := hB.frozen k
      go_wp2
      go_roundw
      case rel => exact ⟨k + 1, setMany cs (k * 1) (intC x), by omega, by go_num, by have h := hB.setMany (k * 1) (intC x); rw [Nat.mul_one] at h ⊢; exact h, by rw [size_setMany, HSZ.out], hF.put HX.out (by rw [HSZ.out]; simp [intC]; omega), hb.setCell (Nat.le_refl _) _⟩
      case measure => simp [intOf]; omega
    · obtain rfl : k = xs.length := by omega
      go_wp2
      go_ret
      exact ⟨_, rfl, OwnV.filled hB (Nat.le_refl _) HSZ.out (by unfold maxLen; omega) hF.all, hb⟩
set_option maxHeartbeats 1000000 in
theorem markIntS_is (B : Nat) (A : Option Addr) (c : Nat) (xs : List Int) (hn : xs.length ≤ 1048576) (m : Int) (h0 : 0 ≤ m) (h1 : m ≤ 1000000000) (w : World) (hO : OwnV B 3 1 intC w (.slice A xs.length c) xs) :
  Calls Try.prog 37 #[.slice A xs.length c, .int .i64 m] w fun e w' => e = .returned (.int .i64 (m + xs.length)) ∧ OwnV B 3 1 intC w' (.slice A xs.length c) (markTo m xs xs.length) ∧ w.grownBy w' (Value.slice A xs.length c).ownBlock := by
  go_enter Try.func37, Try.ntmps37
  go_wp2
  go_loopw [1, 5] (fun mv i wr => ∃ (k : Nat), k ≤ xs.length ∧ i = .int .i64 k ∧ mv = .int .i64 (m + k) ∧ OwnV B 3 1 intC wr (.slice A xs.length c) (markTo m xs k) ∧ w.grownBy wr (Value.slice A xs.length c).ownBlock) (fun _ i _ => xs.length - (intOf i).toNat)
  case atStart => exact ⟨0, Nat.zero_le _, rfl, by simp, by unfold OwnV; rw [markTo_zero]; exact hO, grown_refl _ _⟩
  case round =>
    obtain ⟨k, hk, rfl, rfl, hW, hg⟩ := hrel
    by_cases hlt : k < xs.length
    · obtain ⟨A', c', hv, _, hR, hnl⟩ := hW.form intC_len
      obtain ⟨b, off, x, rfl, hbl, hx, hcx⟩ := hR.at_ (Below.refl _ _) (k := k) (by rw [markTo_len]; exact hlt)
      injection hv with hA _ hc'
      subst hA
      have hoff : off = 0 := by
        rcases hO.2 with ⟨he, _⟩ | ⟨g, cap, cur, he, _⟩
        · injection he with he; cases he
        · injection he with he; injection he with he; injection he
      subst hoff
      clear hcx hx hR hnl hc'
      have hc := ownsRow_cellAt hW (g := b) rfl (j := k) (by rw [intC_flat, List.length_map, markTo_len]; exact hlt)
      have hW' := ownsRow_set hW (g := b) rfl (j := k) (u := .int .i64 (m + k))
      rw [intC_flat, ← List.map_set, markTo_set, ← intC_flat] at hW'
      have HW := Lib.hid hW'; clear hW'
      obtain ⟨c0, z0⟩ := hc
      go_wp2
      go_roundw
      case rel => exact ⟨k + 1, by omega, by go_num, by go_num, by have := HW.out; rw [markTo_len] at this; unfold OwnV; rw [markTo_len]; exact this, grown_set hg _⟩
      case measure => simp [intOf]; omega
    · obtain rfl : k = xs.length := by omega
      go_wp2
      go_ret
      exact ⟨rfl, hW, hg⟩
theorem heldIntS_is (A : Option Addr) (c : Nat) (xs : List Int) (hn : xs.length ≤ 1048576) (m : Int) (h0 : 0 ≤ m) (h1 : m ≤ 1000000000) (hm : ∀ (j : Nat) x, xs[j]? = some x → x = m + j) (w : World) (hR : Rds 1 intC w A xs) :
  Calls Try.prog 38 #[.slice A xs.length c, .int .i64 m] w fun e w' => e = .returned (.int .i64 (m + xs.length)) ∧ w' = w := by
  have HM := Lib.hid hm; clear hm
  go_enter Try.func38, Try.ntmps38
  go_wp2
  go_loop [1, 5] (fun mv i => ∃ (k : Nat), k ≤ xs.length ∧ i = .int .i64 k ∧ mv = .int .i64 (m + k)) (fun _ i => xs.length - (intOf i).toNat)
  case atStart => exact ⟨0, Nat.zero_le _, rfl, by simp⟩
  case round =>
    obtain ⟨k, hk, rfl, rfl⟩ := hrel
    by_cases hlt : k < xs.length
    · obtain ⟨b, off, x, rfl, hbl, hx, hcx⟩ := hR.at_ (Below.refl _ _) hlt
      obtain rfl := HM.out k x hx
      have f0 := hcx 0 _ rfl
      simp only [Nat.mul_one, Nat.add_zero] at f0
      have g0 := f0 (Kin.self _)
      simp only [Kin.self] at g0
      clear hx hcx
      go_wp2
      go_round
      case rel => exact ⟨k + 1, by omega, by go_num, by go_num⟩
      case measure => simp [intOf]; omega
    · obtain rfl : k = xs.length := by omega
      go_wp2
      go_ret
      exact ⟨rfl, rfl⟩
end Go.Proofs.Ytkkdegmfmimdgaa
/- Notices: validity of a notice and of a list of notices, copied, counted and compared. -/
namespace Go.Proofs.Ytkkdegmfmimdgaa
open Go.RowKit Go.G9
structure Ntc where
  id : Int
  topic : ByteArray
  given : Int
  days : Int
  ok : topic.size ≤ maxLen
def Ntc.cells (n : Ntc) : List Value := [.int .i64 n.id, .string n.topic, .int .i64 n.given, .int .i64 n.days]
def noticeB (n : Ntc) : Bool := inB n.id 1 99 && (wordB n.topic && (inB n.given 0 3650 && inB n.days 0 60))
def ntcStep (xs : List Ntc) : Nat → Bool
  | 0 => match xs[0]? with | some x => noticeB x | none => true
  | j + 1 => match xs[j]?, xs[j+1]? with | some y, some x => noticeB x && decide (y.id < x.id) | _, _ => true
def noticesB (xs : List Ntc) : Bool := allTo (ntcStep xs) xs.length && decide (xs.length ≤ 10)

end Go.Proofs.Ytkkdegmfmimdgaa
/- Marks: what a slice holds behind the marks, and that it is held. -/
namespace Go.G9
open Go.RowKit
/-- The first marks of n elements of s fields each. -/
def mks (m s : Int) (n : Nat) : List Int := (List.range n).map fun (i : Nat) => m + s * (i : Int)
theorem setMany_one (cs : Array Value) (i : Nat) (a : Value) (bs : List Value) : setMany (setMany cs i [a]) (i + 1) bs = setMany cs i (a :: bs) := rfl
theorem mks_len (m s : Int) (n : Nat) : (mks m s n).length = n := by simp [mks]
theorem mks_get {m s : Int} {n k : Nat} (h : k < n) : (mks m s n)[k]? = some (m + s * k) := by simp [mks, h]
section
variable {T U : Type} {B : Nat} {e : TypeId} {sz : Nat} {f : T → List Value} {h : U → List Value} {w w' : World} {v : Value} {xs : List T}
theorem OwnV.block (hO : OwnV B e sz f w v xs) (hn : 0 < xs.length) : ∃ g cap cur, v = .slice (some ⟨g, 0, none⟩) xs.length cap ∧ B ≤ g ∧ Blk w g e cur ∧ xs.length ≤ cap ∧ cap ≤ maxLen ∧ cur.size = cap * sz := by
  rcases hO.2 with ⟨_, h0⟩ | ⟨g, cap, cur, hv, hB, hh, hnc, hcm, hcs, _⟩
  · omega
  · exact ⟨g, cap, cur, hv, hB, hh, hnc, hcm, hcs⟩
theorem OwnV.empty {A : Option Addr} {n c : Nat} {m s : Int} (hO : OwnV B e sz f w (.slice A n c) ([] : List T)) {p : Int → List Value} : OwnV B e sz p w (.slice A 0 c) (mks m s 0) := by
  obtain ⟨hl, hO⟩ := hO
  refine ⟨by simp [mks], ?_⟩
  rcases hO with ⟨hv, h0⟩ | ⟨g, cap, cur, hv, hB, hh, hnc, hcm, hcs, htake⟩
  · injection hv with h1 h2 h3
    subst h1 h2 h3
    exact .inl ⟨rfl, by simp [mks]⟩
  · injection hv with h1 h2 h3
    subst h1 h3
    simp at h2
    exact .inr ⟨g, c, cur, by simp [mks], hB, hh, by simp [mks], hcm, hcs, by simp [mks]⟩
theorem OwnV.ofBlk {g cap : Nat} {cs : Array Value} (hb : Blk w g e cs) (hB : B ≤ g) (hc : xs.length ≤ cap) (hm : cap ≤ maxLen) (hsz : cs.size = cap * sz) (hF : ∀ i x, xs[i]? = some x → ∀ j u, (f x)[j]? = some u → cs[i * sz + j]? = some u)
    (hf : ∀ y, (f y).length = sz := by intro y; rfl) : OwnV B e sz f w (.slice (some ⟨g, 0, none⟩) xs.length cap) xs := by
  refine ⟨flat_len hf xs, .inr ⟨g, cap, cs, rfl, hB, hb, hc, hm, hsz, ?_⟩⟩
  have hle : xs.length * sz ≤ cap * sz := Nat.mul_le_mul_right sz hc
  apply List.ext_getElem?
  intro k
  rw [List.getElem?_take]
  by_cases hk : k < (xs.flatMap f).length
  · obtain ⟨i, j, x, hx, hj, rfl⟩ := flat_inv hf xs k _ (List.getElem?_eq_getElem hk)
    rw [flat_len hf] at hk
    rw [if_pos hk, List.getElem?_eq_getElem (l := xs.flatMap f) (by rw [flat_len hf]; exact hk), ← hF i x hx j _ hj]; simp
  · rw [flat_len hf] at hk
    rw [if_neg hk, List.getElem?_eq_none (by rw [flat_len hf]; omega)]
end
end Go.G9
namespace Go.Proofs.Ytkkdegmfmimdgaa
open Go.RowKit Go.G9
theorem markTextI_is (z : Int) (h0 : 0 < z) (h1 : z ≤ 1000000000) (w : World) : Calls Try.prog 67 #[.int .i64 z] w fun e w' => e = .returned (.string (markS z.toNat)) ∧ Below w.heap.size w w' := by
  have h := markText_is z.toNat (by omega) (by omega) w
  rw [show ((z.toNat : Nat) : Int) = z from Int.toNat_of_nonneg (by omega)] at h
  exact h
end Go.Proofs.Ytkkdegmfmimdgaa
