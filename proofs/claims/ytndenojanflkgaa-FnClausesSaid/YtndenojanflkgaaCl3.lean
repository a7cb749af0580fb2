/- A drawn region: makers at whatever time, then effects, behind some of which nothing asks for the class. -/
import Derived.Test.YtndenojanflkgaaCl2
import Derived.Test.YtndenojanflkgaaProg
import Derived.Test.YtndenojanflkgaaCl0
import Derived.Laws.AppendOwnNone
namespace Go.G9
open Go.RowKit
section
variable {P : Program} {ops : Array Oper} {md : Region.Mode} {C : World → Prop} {α : Type} [Inhabited α]
def mkyB (md : Region.Mode) (ops : Array Oper) (par : Nat → List Nat) (r1 : List (List Nat × Nat)) (s1 : List Nat) (r2 : List (List Nat × List Nat × Nat × Bool)) (s2 p2 : List Nat) : Bool :=
  let o1 := mkOrd 0 1 r1 s1; let o2 := mxOrd r2 s2 p2; let ms := r1.map (·.2)
  Region.noSelect ops && wfB md ops && pairsB md ops (o1 ++ o2) && (o1 ++ o2).all (fun x => decide (x.1 < ops.size)) && (List.range ops.size).all (fun i => (o1 ++ o2).any fun x => x.1 == i) &&
    (o1 ++ o2).all (fun x => x.2 == 1 || x.2 == 3 || x.2 == 5 || stillAt ops x.1) && ms.all (fun e => (par e).all fun m => ms.contains m && edgeB md ops e m) && (o1 ++ o2).all (fun x => !(ms.contains x.1) || x.2 == 1) &&
    decide (o1.length + o2.length = ops.size)
theorem mxOrd_kind : ∀ (r : List (List Nat × List Nat × Nat × Bool)) (s' p' : List Nat), ∀ x ∈ mxOrd r s' p', x.2 = 2 ∨ x.2 = 3 ∨ x.2 = 4 ∨ x.2 = 5
  | [], s', p', x, hx => by
    simp [mxOrd] at hx
    rcases hx with ⟨_, _, rfl⟩ | ⟨_, _, rfl⟩ <;> simp
  | (s, p, e, d) :: r, s', p', x, hx => by
    simp only [mxOrd, List.mem_append, List.mem_cons, List.mem_map] at hx
    rcases hx with ⟨_, _, rfl⟩ | ⟨_, _, rfl⟩ | rfl | hx
    · simp
    · simp
    · cases d <;> simp
    · exact mxOrd_kind r s' p' x hx
theorem wp_region_mky {id : Nat} {Q : Exit → Act → World → Prop} {a : Act} {w : World} {l : List Oper} (S : MkSpec α) (C : World → Prop) (r1 : List (List Nat × Nat)) (s1 : List Nat) (r2 : List (List Nat × List Nat × Nat × Bool)) (s2 p2 : List Nat) (hm : P.follows .mixedOrders = true)
    (hB : mkyB .any l.toArray S.par r1 s1 r2 s2 p2 = true) (hC : C w.drew) (hst : ∀ W W', C W → Below W.heap.size W W' → C W')
    (h : ∀ σ : Nat → α, wpMk1 P l (fun w' => ∃ k : Hld C, w' = k.world) S σ (fun a' => ∀ V0 V W, Made S w.drew (r1.map (·.2)) σ V0 V W → C W → wpMx P l (fun w' => ∃ k : Hld C, w' = k.world) (fun a' w' => Q .normal a' w') r2 s2 p2 a' W) r1 s1 a) : (Code.region id l.toArray true).wp P Q a w := by
  simp only [mkyB, Bool.and_eq_true, List.all_eq_true, decide_eq_true_eq] at hB
  obtain ⟨⟨⟨⟨⟨⟨⟨⟨b1, b2⟩, b3⟩, b4⟩, b5⟩, b6⟩, b7⟩, b8⟩, b9⟩ := hB
  have hst' : ∀ W W', cls C W → Below W.heap.size W W' → cls C W' := fun W W' ⟨k, hk⟩ hb => ⟨⟨W', hst W W' (hk ▸ k.holds) hb⟩, rfl⟩
  have hk1 : ∀ x ∈ mkOrd 0 1 r1 s1, x.1 < l.length ∧ (x.2 = 1 ∨ stillAt l.toArray x.1 = true) := fun x hx => by
    have h1 := b4 x (List.mem_append_left _ hx)
    have h2 := b6 x (List.mem_append_left _ hx)
    refine ⟨by simpa using h1, ?_⟩
    rcases mkOrd_snd r1 s1 x hx with h3 | ⟨h3, _⟩
    · right; simpa [h3] using h2
    · exact .inl h3
  have hk2 : ∀ x ∈ mxOrd r2 s2 p2, x.1 < l.length ∧ (x.2 = 3 ∨ x.2 = 5 ∨ stillAt l.toArray x.1 = true) := fun x hx => by
    have h1 := b4 x (List.mem_append_right _ hx)
    have h2 := b6 x (List.mem_append_right _ hx)
    refine ⟨by simpa using h1, ?_⟩
    have h3 := mxOrd_kind r2 s2 p2 x hx
    have h4 : x.2 ≠ 1 := by omega
    simpa [h4, or_assoc] using h2
  have hms : ∀ m ∈ r1.map (·.2), ∀ k, (m, k) ∈ mkOrd 0 1 r1 s1 ++ mxOrd r2 s2 p2 → (m, k) ∈ mkOrd 0 1 r1 s1 ∧ k = 1 := by
    intro m hm k hk
    have h1 := b8 _ hk
    have hc : (r1.map (·.2)).contains m = true := List.contains_iff_mem.2 hm
    simp only [hc, Bool.not_true, Bool.false_or, beq_iff_eq] at h1
    refine ⟨?_, h1⟩
    rcases List.mem_append.1 hk with h2 | h2
    · exact h2
    · exfalso
      have h3 := mxOrd_kind r2 s2 p2 _ h2
      simp only at h3; omega
  have hfit : Fit .any l.toArray (mkOrd 0 1 r1 s1 ++ mxOrd r2 s2 p2) (Array.replicate l.toArray.size false) := by
    refine ⟨b2, by simp, fun i hi => ?_, fun x hx => b4 x hx, pairsB_pw b3, fun x y he _ => by
      obtain ⟨o, ho, _⟩ := edgeB_iff.1 he
      have hy := (Array.getElem?_eq_some_iff.1 ho).1
      have hy' : y < l.length := by simpa using hy
      simp [Array.getD_eq_getD_getElem?, hy']⟩
    have h1 := b5 i (List.mem_range.2 hi)
    rw [List.any_eq_true] at h1
    obtain ⟨x, hx, hxi⟩ := h1
    refine ⟨fun _ => ⟨x.2, ?_⟩, fun _ => ?_⟩
    · have : x.1 = i := by simpa using hxi
      rw [← this]; exact hx
    · have : i < l.length := by simpa using hi
      simp [Array.getD_eq_getD_getElem?, this]
  have H := wpAny_of_RW1 (P := P) (md := .any) (ops := l.toArray) (C := cls C) (Q := fun a' w' => Q .normal a' w') (S := S) (w0 := w.drew) (r2 := mxOrd r2 s2 p2) (ms := r1.map (·.2)) b1 hst'
    (fun e he m hm => by
      have h1 := b7 e he m hm
      exact ⟨List.contains_iff_mem.1 h1.1, h1.2⟩)
    (fun x hx => mxOrd_kind r2 s2 p2 x hx)
    _ (mkOrd 0 1 r1 s1) _ a w.drew (fun _ => default) (fun _ => w) (fun _ => w) rfl (fun x hx => (mkOrd_snd r1 s1 x hx).imp_right .inr) hfit hms ⟨⟨_, hC⟩, rfl⟩ (Below.refl _ _)
    (by
      have : ((r1.map (·.2)).filter fun m => decide ((m, 1) ∉ mkOrd 0 1 r1 s1)) = [] := by
        rw [List.filter_eq_nil_iff]
        intro m hm
        simp [mkOrd_mem r1 s1 m hm]
      rw [this]
      exact ⟨fun m h => (by cases h), fun m h => (by cases h), fun m h => (by cases h), fun m h => (by cases h), fun m h => (by cases h)⟩)
    (fun m hm hn => absurd (mkOrd_mem r1 s1 m hm) hn)
    (fun σ _ => RW1_of_mk (fun a' hF V0 V W hM ⟨k, hCW⟩ => RW2_of_mx r2 s2 p2 a' W hk2 (hF V0 V W hM (by rw [hCW]; exact k.holds))) r1 s1 a hk1 (h σ))
  rw [b9] at H
  have HH : (Code.region id l.toArray true).wp P (Nrm fun a' w' => Q .normal a' w') a w := wp_region_any hm H
  exact Code.wp_mono (fun e a w h => by obtain ⟨rfl, h⟩ := h; exact h) HH
end
end Go.G9
/- Small functions on numbers and words: what they compute. -/
namespace Go.Proofs.Ytndenojanflkgaa
open Go.RowKit Go.G9
def inB (n a b : Int) : Bool := decide (a ≤ n) && decide (n ≤ b)
theorem inB_eq {n a b : Int} {v : Bool} (h : (decide (a ≤ n) && decide (n ≤ b)) = v) : inB n a b = v := h
theorem inB_iff {n a b : Int} : inB n a b = true ↔ a ≤ n ∧ n ≤ b := by simp [inB]
def lowB (l : List UInt8) : Bool := l.all fun c => decide (97 ≤ c.toNat) && decide (c.toNat ≤ 122)
def wordB (s : ByteArray) : Bool := lowB s.data.toList && inB s.size 1 10

theorem inside_is (n a b : Int) (v : Bool) (hv : inB n a b = v) (w : World) : Calls Try.prog 34 #[.int .i64 n, .int .i64 a, .int .i64 b] w fun e w' => e = .returned (.bool v) ∧ w' = w := by
  subst hv
  go_enter Try.func34, Try.ntmps34
  go_wp2
  all_goals go_ret; exact ⟨by simp [inB, *] <;> omega, rfl⟩
theorem l1In_is (n a b : Int) (v : Bool) (hv : inB n a b = v) (w : World) : Calls Try.prog 52 #[.int .i64 n, .int .i64 a, .int .i64 b] w fun e w' => e = .returned (.bool v) ∧ w' = w := by
  subst hv
  go_enter Try.func52, Try.ntmps52
  go_wp2
  all_goals go_ret; exact ⟨by simp [inB, *] <;> omega, rfl⟩

theorem lowB_take_succ (s : ByteArray) (k : Nat) (h : k < s.size) : lowB (s.data.toList.take (k+1)) = (lowB (s.data.toList.take k) && (decide (97 ≤ s[k].toNat) && decide (s[k].toNat ≤ 122))) := by
  unfold lowB
  rw [List.take_succ_eq_append_getElem (by simpa using h), List.all_append]; simp; rfl
theorem lowB_not (s : ByteArray) (k : Nat) (h : k < s.size) (h1 : (decide (97 ≤ s[k].toNat) && decide (s[k].toNat ≤ 122)) = false) : lowB s.data.toList = false := by
  have : lowB s.data.toList = (lowB (s.data.toList.take (k+1)) && lowB (s.data.toList.drop (k+1))) := by
    unfold lowB; rw [← List.all_append, List.take_append_drop]
  rw [this, lowB_take_succ s k h, h1]; simp
theorem isWord_is (s : ByteArray) (hs : s.size ≤ maxLen) (v : Bool) (hv : wordB s = v) (w : World) : Calls Try.prog 49 #[.string s] w fun e w' => e = .returned (.bool v) ∧ w' = w := by
  subst hv
  unfold maxLen at hs
  go_enter Try.func49, Try.ntmps49
  go_wp2
  go_loop [3] (fun i => ∃ k : Nat, k ≤ s.size ∧ i = .int .i64 k ∧ lowB (s.data.toList.take k) = true) (fun i => s.size - (intOf i).toNat)
  case atStart => exact ⟨0, Nat.zero_le _, rfl, rfl⟩
  case round =>
    obtain ⟨k, hk, rfl, hl⟩ := hrel
    have HL := Lib.hid hl; clear hl
    by_cases hlt : k < s.size
    · by_cases h1 : s[k].toNat < 97
      · go_wp2
        go_ret
        exact ⟨by simp [wordB, lowB_not s k hlt (by simp; omega)], rfl⟩
      · by_cases h2 : 122 < s[k].toNat
        · go_wp2
          go_ret
          exact ⟨by simp [wordB, lowB_not s k hlt (by simp; omega)], rfl⟩
        · go_wp2
          go_round
          case rel => exact ⟨k + 1, by omega, by go_num, by rw [lowB_take_succ s k hlt, HL.out]; simp; omega⟩
          case measure => simp [intOf]; omega
    · obtain rfl : k = s.size := by omega
      go_wp2_with (go_at_call 34; refine (inside_is _ _ _ _ rfl _).mono ?_; rintro e w' ⟨rfl, rfl⟩)
      go_ret
      have := HL.out
      rw [List.take_of_length_le (by simp)] at this
      exact ⟨by simp [wordB, this], rfl⟩
theorem l2Word_is (s : ByteArray) (hs : s.size ≤ maxLen) (v : Bool) (hv : wordB s = v) (w : World) : Calls Try.prog 55 #[.string s] w fun e w' => e = .returned (.bool v) ∧ w' = w := by
  subst hv
  unfold maxLen at hs
  go_enter Try.func55, Try.ntmps55
  go_wp2
  go_loop [3] (fun i => ∃ k : Nat, k ≤ s.size ∧ i = .int .i64 k ∧ lowB (s.data.toList.take k) = true) (fun i => s.size - (intOf i).toNat)
  case atStart => exact ⟨0, Nat.zero_le _, rfl, rfl⟩
  case round =>
    obtain ⟨k, hk, rfl, hl⟩ := hrel
    have HL := Lib.hid hl; clear hl
    by_cases hlt : k < s.size
    · by_cases h1 : s[k].toNat < 97
      · go_wp2
        go_ret
        exact ⟨by simp [wordB, lowB_not s k hlt (by simp; omega)], rfl⟩
      · by_cases h2 : 122 < s[k].toNat
        · go_wp2
          go_ret
          exact ⟨by simp [wordB, lowB_not s k hlt (by simp; omega)], rfl⟩
        · go_wp2
          go_round
          case rel => exact ⟨k + 1, by omega, by go_num, by rw [lowB_take_succ s k hlt, HL.out]; simp; omega⟩
          case measure => simp [intOf]; omega
    · obtain rfl : k = s.size := by omega
      go_wp2_with (go_at_call 52; refine (l1In_is _ _ _ _ rfl _).mono ?_; rintro e w' ⟨rfl, rfl⟩)
      go_ret
      have := HL.out
      rw [List.take_of_length_le (by simp)] at this
      exact ⟨by simp [wordB, this], rfl⟩
end Go.Proofs.Ytndenojanflkgaa
/- The index of the first element that a test takes; a call of a function value. -/
namespace Go.G9
open Go.RowKit
def atB {T : Type} (p : T → Bool) (xs : List T) (i : Nat) : Bool := match xs[i]? with | some x => p x | none => false
/-- The index of the first element that p takes, -1 if there is none. -/
def idxB {T : Type} (p : T → Bool) (xs : List T) : Int := match xs.findIdx? p with | some i => i | none => -1
theorem idxB_none {T : Type} {p : T → Bool} {xs : List T} (h : allTo (fun i => !atB p xs i) xs.length = true) : idxB p xs = -1 := by
  have : xs.findIdx? p = none := by
    rw [List.findIdx?_eq_none_iff]
    intro x hx
    obtain ⟨i, hi⟩ := List.getElem?_of_mem hx
    have := allTo_iff.1 h i (List.getElem?_eq_some_iff.1 hi).1
    simpa [atB, hi] using this
  simp [idxB, this]
theorem idxB_found {T : Type} {p : T → Bool} {xs : List T} {k : Nat} (hk : k < xs.length) (h : allTo (fun i => !atB p xs i) k = true) (hp : atB p xs k = true) : idxB p xs = k := by
  have : xs.findIdx? p = some k := by
    rw [List.findIdx?_eq_some_iff_getElem]
    refine ⟨hk, ?_, fun j hj => ?_⟩
    · simpa [atB, List.getElem?_eq_getElem hk] using hp
    · have := allTo_iff.1 h j hj
      simpa [atB, List.getElem?_eq_getElem (show j < xs.length by omega)] using this
  simp [idxB, this]
theorem idxB_ge {T : Type} (p : T → Bool) (xs : List T) : (decide (0 ≤ idxB p xs)) = xs.any p := by
  unfold idxB
  cases h : xs.findIdx? p with
  | none => simp at h; simpa using fun x hx => by simpa using h x hx
  | some i =>
    rw [List.findIdx?_eq_some_iff_getElem] at h
    obtain ⟨hi, hp, _⟩ := h
    have : xs.any p = true := List.any_eq_true.2 ⟨_, List.getElem_mem hi, hp⟩
    rw [this]; simp
theorem idxB_lt {T : Type} (p : T → Bool) (xs : List T) : -1 ≤ idxB p xs ∧ idxB p xs < xs.length := by
  unfold idxB
  cases h : xs.findIdx? p with
  | none => simp; omega
  | some i =>
    rw [List.findIdx?_eq_some_iff_getElem] at h
    obtain ⟨hi, _⟩ := h
    simp; omega
theorem run_enter {P : Program} {f : FuncId} {fn : Func} (hf : P.funcs[f]? = some fn) (hname : (fn.name == "runtime.NumGoroutine") = false) (hb : fn.body.isNone = false) (args : Array Value) (W : World) :
    (callFunc f args).run P W = .ok (.enter f args) W := by
  have h1 : fn.name ≠ "runtime.NumGoroutine" := by simpa using hname
  have h2 : fn.body ≠ none := by intro h; rw [h] at hb; simp at hb
  simp [callFunc, hf, h1, h2]
/-- The cells of an int, of a string. -/
def intC (x : Int) : List Value := [.int .i64 x]
structure Str where
  s : ByteArray
  ok : s.size ≤ maxLen
def Str.cells (x : Str) : List Value := [.string x.s]
end Go.G9
/- Slices that the call itself has made: what they hold, appends to them, marks in them. -/
namespace Go.G9
open Go.RowKit
/-- The slice value v owns its block, from B on, and holds the elements xs, each as the cells that f gives. -/
def OwnV {T : Type} (B : Nat) (e : TypeId) (sz : Nat) (f : T → List Value) (w : World) (v : Value) (xs : List T) : Prop := w.ownsRow B e sz v xs.length (xs.flatMap f)
section
variable {T : Type} {B : Nat} {e : TypeId} {sz : Nat} {f : T → List Value} {w w' : World} {v : Value} {xs : List T}
theorem flat_len (hf : ∀ y, (f y).length = sz) : ∀ xs : List T, (xs.flatMap f).length = xs.length * sz
  | [] => by simp
  | x :: xs => by rw [List.flatMap_cons, List.length_append, flat_len hf xs, hf, List.length_cons, Nat.add_mul, Nat.one_mul, Nat.add_comm]
theorem flat_get (hf : ∀ y, (f y).length = sz) : ∀ (xs : List T) (i : Nat) (x : T), xs[i]? = some x → ∀ (j : Nat) (u : Value), (f x)[j]? = some u → (xs.flatMap f)[i * sz + j]? = some u
  | [], _, _, h, _, _, _ => by simp at h
  | y :: xs, 0, x, h, j, u, hu => by
    simp at h; subst h
    rw [List.flatMap_cons, List.getElem?_append_left (by have := (List.getElem?_eq_some_iff.1 hu).1; omega), Nat.zero_mul, Nat.zero_add]; exact hu
  | y :: xs, i + 1, x, h, j, u, hu => by
    simp at h
    have h2 := flat_get hf xs i x h j u hu
    rw [List.flatMap_cons, List.getElem?_append_right (by rw [hf, Nat.add_mul]; omega), hf, show (i + 1) * sz + j - sz = i * sz + j from by rw [Nat.add_mul, Nat.one_mul]; omega]
    exact h2
theorem flat_inv (hf : ∀ y, (f y).length = sz) (xs : List T) (k : Nat) (u : Value) (h : (xs.flatMap f)[k]? = some u) : ∃ i j x, xs[i]? = some x ∧ (f x)[j]? = some u ∧ k = i * sz + j := by
  induction xs generalizing k with
  | nil => simp at h
  | cons y xs ih =>
    rw [List.flatMap_cons] at h
    by_cases hk : k < (f y).length
    · rw [List.getElem?_append_left hk] at h
      exact ⟨0, k, y, rfl, h, by omega⟩
    · rw [List.getElem?_append_right (by omega)] at h
      obtain ⟨i, j, x, hx, hj, e⟩ := ih _ h
      exact ⟨i + 1, j, x, by simpa using hx, hj, by rw [Nat.add_mul, Nat.one_mul]; have := hf y; omega⟩
theorem OwnV.nil : OwnV B e sz f w (.slice none 0 0) [] := World.ownsRow_nil _ _ _ _
theorem OwnV.form (h : OwnV B e sz f w v xs) (hf : ∀ y, (f y).length = sz) : ∃ A c, v = .slice A xs.length c ∧ xs.length ≤ c ∧ Rds sz f w A xs ∧ (A = none → xs = []) := by
  obtain ⟨hl, h⟩ := h
  rcases h with ⟨rfl, h0⟩ | ⟨g, cap, cur, rfl, hB, hh, hnc, hcm, hcs, htake⟩
  · have : xs = [] := List.length_eq_zero_iff.1 h0
    subst this
    exact ⟨none, 0, rfl, Nat.le_refl _, Rds.nil, fun _ => rfl⟩
  · refine ⟨some ⟨g, 0, none⟩, cap, rfl, hnc, fun _ => ⟨g, 0, rfl, (Array.getElem?_eq_some_iff.1 hh).1, fun i x hx j u hu => ?_⟩, fun h => by cases h⟩
    have h1 := flat_get hf xs i x hx j u hu
    rw [← htake, List.getElem?_take] at h1
    split at h1
    · rw [Nat.zero_add, cell_of_row w g _ cur e (0, 0) hh]; simpa using h1
    · cases h1
theorem OwnV.rds {A : Option Addr} {n c : Nat} (h : OwnV B e sz f w (.slice A n c) xs) (hf : ∀ y, (f y).length = sz := by intro y; rfl) : Rds sz f w A xs := by
  obtain ⟨A', c', hv, _, hR, _⟩ := h.form hf
  injection hv with h1 h2 h3; subst h1; exact hR
theorem OwnV.below (h : OwnV B e sz f w v xs) {B' : Nat} (hb : Below B' w w') (hlt : ∀ k, v.ownBlock = some k → k < B') : OwnV B e sz f w' v xs := by
  refine ⟨h.1, ?_⟩
  rcases h.2 with hn | ⟨g, cap, cur, rfl, hB, hh, r⟩
  · exact .inl hn
  · exact .inr ⟨g, cap, cur, rfl, hB, by rw [hb.block g (hlt g rfl)]; exact hh, r⟩
theorem OwnV.lt (h : OwnV B e sz f w v xs) : ∀ k, v.ownBlock = some k → B ≤ k ∧ k < w.heap.size := World.ownsRow.lt h
theorem OwnV.later (h : OwnV B e sz f w v xs) (hb : Below w.heap.size w w') : OwnV B e sz f w' v xs := h.below hb (fun k hk => (h.lt k hk).2)
theorem OwnV.alloc (h : OwnV B e sz f w v xs) (o : Obj) : OwnV B e sz f (w.alloc o) v xs := World.ownsRow.alloc h o
theorem OwnV.kept {row : Option Nat} (h : OwnV B e sz f w v xs) (hg : w.grownBy w' row) (hne : ∀ k, v.ownBlock = some k → some k ≠ row) : OwnV B e sz f w' v xs := by
  refine ⟨h.1, ?_⟩
  rcases h.2 with hn | ⟨g, cap, cur, rfl, hB, hh, r⟩
  · exact .inl hn
  · exact .inr ⟨g, cap, cur, rfl, hB, by rw [hg.block g (Array.getElem?_eq_some_iff.1 hh).1 (hne g rfl)]; exact hh, r⟩
theorem OwnV.base {B' : Nat} (h : OwnV B e sz f w v xs) (hB : B' ≤ B) : OwnV B' e sz f w v xs := by
  refine ⟨h.1, ?_⟩
  rcases h.2 with hn | ⟨g, cap, cur, rfl, hg, r⟩
  · exact .inl hn
  · exact .inr ⟨g, cap, cur, rfl, by omega, r⟩
/-- 'make' and a loop that has filled it. -/
theorem OwnV.filled {g : Nat} {cs : Array Value} (hb : Blk w g e cs) (hB : B ≤ g) (hsz : cs.size = xs.length * sz) (hm : xs.length ≤ maxLen) (hF : ∀ i x, xs[i]? = some x → ∀ j u, (f x)[j]? = some u → cs[i * sz + j]? = some u)
    (hf : ∀ y, (f y).length = sz := by intro y; rfl) : OwnV B e sz f w (.slice (some ⟨g, 0, none⟩) xs.length xs.length) xs := by
  refine ⟨flat_len hf xs, .inr ⟨g, xs.length, cs, rfl, hB, hb, Nat.le_refl _, hm, hsz, ?_⟩⟩
  rw [List.take_of_length_le (by simp [hsz])]
  apply List.ext_getElem?
  intro k
  by_cases hk : k < (xs.flatMap f).length
  · obtain ⟨i, j, x, hx, hj, rfl⟩ := flat_inv hf xs k _ (List.getElem?_eq_getElem hk)
    rw [List.getElem?_eq_getElem hk, ← hF i x hx j _ hj]; simp
  · rw [flat_len hf] at hk
    rw [List.getElem?_eq_none (by rw [Array.length_toList]; omega), List.getElem?_eq_none (by rw [flat_len hf]; omega)]
theorem Rds.flat {ad : Addr} {ys : List T} (h : Rds sz f w (some ad) ys) (hf : ∀ y, (f y).length = sz) (j : Nat) (u : Value) (hu : (ys.flatMap f)[j]? = some u) : w.cell? (ad.add j) = some u := by
  obtain ⟨i, j', y, hy, hj, rfl⟩ := flat_inv hf ys j u hu
  obtain ⟨b, off, hA, _, hc⟩ := h (by have := (List.getElem?_eq_some_iff.1 hy).1; omega)
  injection hA with hA; subst hA
  rw [← hc i y hy j' u hj]
  congr 1
  unfold Addr.add
  split <;> simp_all [Nat.add_assoc]
/-- A new block that holds one element, as 'append(out, x)' lays it. -/
theorem Rds.one (x : T) (t : TypeId) : Rds sz f (w.alloc (.cells (f x).toArray t)) (some ⟨w.heap.size, 0, none⟩) [x] := fun _ =>
  ⟨w.heap.size, 0, rfl, by simp, fun i y hy j u hu => by
    have h0 : i = 0 := by have := (List.getElem?_eq_some_iff.1 hy).1; simp at this; omega
    subst h0; simp at hy; subst hy
    rw [Nat.zero_mul, Nat.zero_add]
    exact ((Blk.new w t _).cell j).trans (by simpa using hu)⟩
theorem Rds.alloc {A : Option Addr} (h : Rds sz f w A xs) (o : Obj) : Rds sz f (w.alloc o) A xs := h.below (bl1 w o)
end
section
variable {T : Type} {B : Nat} {e : TypeId} {sz : Nat} {f : T → List Value} {w w' : World} {v : Value} {xs : List T}
theorem OwnV.made (w : World) (hB : B ≤ w.heap.size) (e : TypeId) : OwnV B e sz f (w.alloc (.cells #[] e)) (.slice (some ⟨w.heap.size, 0, none⟩) 0 0) ([] : List T) :=
  World.ownsRow_made w #[] 0 hB (by simp) (by simp)
theorem OwnV.nilOk {A : Option Addr} {n c : Nat} (h : OwnV B e sz f w (.slice A n c) xs) : A = none → xs = [] ∧ c = 0 := by
  rintro rfl
  rcases h.2 with ⟨hv, h0⟩ | ⟨g, cap, cur, hv, _⟩
  · injection hv with _ _ h3; exact ⟨List.length_eq_zero_iff.1 h0, h3⟩
  · injection hv with h1; cases h1
theorem ownsRow_set {n : Nat} {cells : List Value} {g j : Nat} {u : Value} (h : w.ownsRow B e sz v n cells) (hg : v.ownBlock = some g) : (w.setCell ⟨g, j, none⟩ u).ownsRow B e sz v n (cells.set j u) := by
  obtain ⟨hl, h⟩ := h
  refine ⟨by simpa using hl, ?_⟩
  rcases h with ⟨rfl, _⟩ | ⟨g', cap, cur, rfl, hB, hh, hnc, hcm, hcs, htake⟩
  · simp [Value.ownBlock] at hg
  · simp [Value.ownBlock] at hg; subst hg
    refine .inr ⟨g', cap, cur.setIfInBounds j u, rfl, hB, (Blk.set_ (w := w) (g := g') (t := e) (cs := cur) hh j u), hnc, hcm, by simpa using hcs, ?_⟩
    rw [Array.toList_setIfInBounds, ← htake, List.take_set]
theorem ownsRow_cellAt {n : Nat} {cells : List Value} {g j : Nat} (h : w.ownsRow B e sz v n cells) (hg : v.ownBlock = some g) (hj : j < cells.length) : w.cell? ⟨g, j, none⟩ = some cells[j] ∧ w.frozen? ⟨g, j, none⟩ = false := by
  obtain ⟨hl, h⟩ := h
  rcases h with ⟨rfl, _⟩ | ⟨g', cap, cur, rfl, hB, hh, hnc, hcm, hcs, htake⟩
  · simp [Value.ownBlock] at hg
  · simp [Value.ownBlock] at hg; subst hg
    refine ⟨?_, Blk.frozen (w := w) (g := g') (t := e) (cs := cur) hh j⟩
    rw [cell_of_row w g' j cur e (0, 0) hh]
    have h1 : (cur.toList.take (n * sz))[j]? = some cells[j] := by rw [htake]; exact List.getElem?_eq_getElem hj
    rw [List.getElem?_take] at h1
    split at h1
    · simpa using h1
    · cases h1
theorem grown_refl (w : World) (row : Option Nat) : w.grownBy w row := ⟨rfl, rfl, rfl, Nat.le_refl _, fun _ _ _ => rfl⟩
theorem grown_set {a w : World} {g j : Nat} (h : a.grownBy w (some g)) (u : Value) : a.grownBy (w.setCell ⟨g, j, none⟩ u) (some g) :=
  ⟨h.os, h.tape, h.output, by simpa [World.setCell] using h.size, fun i hi hne => (Below.heap_setCell w _ u i (by rintro rfl; exact hne rfl)).trans (h.block i hi hne)⟩
theorem grown_tr {a b c : World} {row : Option Nat} (h : a.grownBy b row) (k : b.grownBy c row) : a.grownBy c row :=
  ⟨k.os.trans h.os, k.tape.trans h.tape, k.output.trans h.output, Nat.le_trans h.size k.size, fun i hi hne => (k.block i (Nat.lt_of_lt_of_le hi h.size) hne).trans (h.block i hi hne)⟩
theorem grown_below {a b : World} {row : Option Nat} {B : Nat} (h : a.grownBy b row) (hB : B ≤ a.heap.size) (hr : ∀ k, row = some k → B ≤ k) : Below B a b := (Below.refl B a).grown h hB hr
theorem below_grown {a b : World} (h : Below a.heap.size a b) (row : Option Nat) : a.grownBy b row := ⟨h.os, h.tape, h.output, h.size, fun i hi _ => h.block i hi⟩
/-- A reading survives writes elsewhere. -/
theorem Rds.grown {A : Option Addr} {row : Option Nat} (h : Rds sz f w A xs) (hg : w.grownBy w' row) (hne : ∀ ad, A = some ad → some ad.block ≠ row) : Rds sz f w' A xs := fun hn => by
  obtain ⟨b, off, hA, hlt, hc⟩ := h hn
  exact ⟨b, off, hA, Nat.lt_of_lt_of_le hlt hg.size, fun i x hx j u hu => (World.cell?_of_block (hg.block b hlt (hne _ hA))).trans (hc i x hx j u hu)⟩
def markTo (k : Int) (xs : List Int) (i : Nat) : List Int := xs.mapIdx (fun j x => if j < i then k + j else x)
theorem markTo_zero (k : Int) (xs : List Int) : markTo k xs 0 = xs := by
  apply List.ext_getElem?
  intro j
  simp only [markTo, List.getElem?_mapIdx]
  cases xs[j]? <;> simp
theorem markTo_len (k : Int) (xs : List Int) (i : Nat) : (markTo k xs i).length = xs.length := by simp [markTo]
theorem markTo_set (k : Int) (xs : List Int) (i : Nat) : (markTo k xs i).set i (k + i) = markTo k xs (i + 1) := by
  apply List.ext_getElem?
  intro j
  simp only [markTo, List.getElem?_set, List.getElem?_mapIdx, List.length_mapIdx]
  by_cases hij : i = j
  · subst hij
    by_cases hl : i < xs.length
    · simp [hl]
    · simp [hl]
  · rw [if_neg hij]
    cases xs[j]? with
    | none => simp
    | some x => simp only [Option.map_some, Option.some.injEq]; split <;> split <;> first | rfl | omega
theorem markTo_at {k : Int} {xs : List Int} {j : Nat} {x : Int} (h : (markTo k xs xs.length)[j]? = some x) : x = k + j := by
  simp only [markTo, List.getElem?_mapIdx] at h
  cases hx : xs[j]? with
  | none => rw [hx] at h; simp at h
  | some y => rw [hx] at h; have := (List.getElem?_eq_some_iff.1 hx).1; simp [this] at h; exact h.symm
end
/-- 'append(s, x...)', s of the call's own, x whatever slice: nil, empty or not. -/
theorem wpList_app {P : Program} {w : World} {ops : Array Oper} {rest : List Oper} {o : Oper} {a : Act} {Q : Exit → Act → World → Prop} (hgd : o.guard = none) (s x : Operand) (t : TypeId)
    (ho : o.op = .call { callee := .builtin .append, args := #[s, x], argTypes := #[t, t] })
    (B : Nat) (e : TypeId) (i : TypeInfo) (z : Value) (sz bytes : Nat) (ht : P.underlying t = some (.slice e)) (hi : P.info? e = some i) (hz : i.zero = some z)
    (hsize : i.size = sz) (hby : i.bytes = bytes) (hzs : z.cells.size = sz) (hsz : 0 < sz) {T : Type} (f : T → List Value) (hf : ∀ y, (f y).length = sz) (hone : ∀ y u, u ∈ f y → u.oneCell' = true)
    (v : Value) (xs : List T) (hs : a.eval s = v) (hown : OwnV B e sz f w v xs) (A2 : Option Addr) (c2 : Nat) (ys : List T) (hx : a.eval x = .slice A2 ys.length c2) (hR : Rds sz f w A2 ys)
    (hA : A2 = none → ys = [] ∧ c2 = 0) (h63 : xs.length + ys.length ≤ maxLen) (hbytes : (xs.length + ys.length) * bytes ≤ 140737488355328) (hbase : B ≤ w.heap.size)
    (h : ∀ v' w', OwnV B e sz f w' v' (xs ++ ys) → w.grownBy w' v.ownBlock → wpList P ops Q rest (a.put o.dst v') w') : wpList P ops Q (o :: rest) a w := by
  cases A2 with
  | some ad =>
    refine wpList_append_own w hgd s x t ho B e i z sz bytes ht hi hz hsize hby hzs hsz v xs.length (xs.flatMap f) hs hown ad ys.length c2 (ys.flatMap f) hx (flat_len hf ys) (fun j u hu => Rds.flat hR hf j u hu)
      (fun u hu => by obtain ⟨y, _, hy⟩ := List.mem_flatMap.1 hu; exact hone y u hy) h63 hbytes hbase (fun v' w' h1 h2 _ => h v' w' ?_ h2)
    unfold OwnV; rw [List.length_append, List.flatMap_append]; exact h1
  | none =>
    obtain ⟨rfl, rfl⟩ := hA rfl
    exact wpList_append_own_none hgd s x t ho B e i sz ht hi v xs.length (xs.flatMap f) hs hown hx (h v w (by simpa using hown) ⟨rfl, rfl, rfl, Nat.le_refl _, fun _ _ _ => rfl⟩)

/-! A region that does not draw, walked as a quiet one: its callees may make memory, each answers one value. -/
theorem wpList_of_quiet {P : Program} {ops : Array Oper} {C : World → Prop} {F : Act → Prop} {Q : Exit → Act → World → Prop} (hF : ∀ a w, C w → F a → Q .normal a w) :
    ∀ (l : List Oper) (a : Act) (w : World), C w → wpQuiet P ops C F l a → wpList P ops Q l a w
  | [], a, w, hw, h => hF a w hw h
  | o :: rest, a, w, hw, h => by
    unfold wpQuiet at h
    unfold wpList
    split
    · rename_i hg; rw [if_pos hg] at h
      exact .inl (Oper.wp_of_quiet hw (fun a' w' hw' hK => wpList_of_quiet hF rest a' w' hw' hK) h)
    · rename_i hg; rw [if_neg hg] at h
      exact wpList_of_quiet hF rest _ w hw h
theorem wp_region_seq {P : Program} {id : Nat} {Q : Exit → Act → World → Prop} {a : Act} {w : World} {l : List Oper}
    (h : wpQuiet P l.toArray (fun w' => ∃ k : Kin w.heap.size w, w' = k.world) (fun a' => ∀ k : Kin w.heap.size w, Q .normal a' k.world) l a) : (Code.region id l.toArray false).wp P Q a w :=
  wp_region_lit (wpList_of_quiet (C := fun w' => ∃ k : Kin w.heap.size w, w' = k.world) (F := fun a' => ∀ k : Kin w.heap.size w, Q .normal a' k.world) (fun _ _ ⟨k, hk⟩ hF => hk ▸ hF k) l a w ⟨Kin.self w, rfl⟩ h)
end Go.G9
