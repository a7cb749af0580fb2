/- Texts of the proof: walks of the functions, and what they compute. -/
import Derived.BigQuiet
import Derived.Deep.Draws
import Derived.Lib.Hide
import Derived.WalkKit
import Derived.WalkLawsBesides
import Derived.WalkSpells
import Derived.Laws.AppendOwnNone
import Derived.StillTail
set_option maxHeartbeats 16000000
set_option maxRecDepth 100000
namespace Go.G9
open Go.RowKit

structure Kin (B : Nat) (w : World) where
  world : World
  below : Below B w world

instance {B : Nat} {w : World} : Nonempty (Kin B w) := ⟨⟨w, Below.refl _ _⟩⟩

theorem Kin.cell {B : Nat} {w : World} (k : Kin B w) {p : Addr} (h : p.block < B) : k.world.cell? p = w.cell? p := k.below.cell h
theorem Kin.frozen {B : Nat} {w : World} (k : Kin B w) {p : Addr} (h : p.block < B) : k.world.frozen? p = w.frozen? p := k.below.frozen h

theorem Kin.call {P : Program} {f : FuncId} {args : Array Value} {B : Nat} {w : World} {v : Value} (k : Kin B w) (hB : B ≤ w.heap.size)
    (h : Calls P f args k.world fun e w' => e = .returned v ∧ Below k.world.heap.size k.world w') :
    Calls P f args k.world fun e w'' => e = .returned v ∧ ∃ k' : Kin B w, w'' = k'.world :=
  h.mono fun _ w' ⟨he, hb⟩ => ⟨he, ⟨w', k.below.trans (hb.mono (Nat.le_trans hB k.below.size))⟩, rfl⟩

theorem Kin.same {P : Program} {f : FuncId} {args : Array Value} {B : Nat} {w : World} {v : Value} (k : Kin B w)
    (h : Calls P f args k.world fun e w' => e = .returned v ∧ w' = k.world) :
    Calls P f args k.world fun e w'' => e = .returned v ∧ ∃ k' : Kin B w, w'' = k'.world :=
  h.mono fun _ _ ⟨he, hb⟩ => ⟨he, k, hb⟩

theorem zb148 {p : Prop} (h : p := by
 funext a'; exact propext ⟨fun h w' ⟨k, hk⟩ => hk ▸ h k, fun h k => h _ ⟨k, rfl⟩⟩) : p := h
theorem wp_region_kin {P : Program} {id : Nat} {Q : Exit → Act → World → Prop} {a : Act} {w : World} {l : List Oper} (hm : P.follows .mixedOrders = true) (hB : Region.lexB .any l.toArray = true)
    (h : wpQuiet P l.toArray (fun w' => ∃ k : Kin w.heap.size w, w' = k.world) (fun a' => ∀ k : Kin w.heap.size w, Q .normal a' k.world) l a) : (Code.region id l.toArray true).wp P Q a w :=
  wp_region_quiet (C := fun w' => ∃ k : Kin w.heap.size w, w' = k.world) hm hB ⟨⟨w.drew, (Below.refl _ _).drew⟩, rfl⟩
    (by
      have e : (fun a' : Act => ∀ k : Kin w.heap.size w, Q .normal a' k.world) = (fun a' => ∀ w', (∃ k : Kin w.heap.size w, w' = k.world) → Q .normal a' w') := by
        exact zb148
      rw [e] at h; simpa using h)

theorem bth {w w1 w2 : World} (h : Below w.heap.size w w1) (k : Below w1.heap.size w1 w2) : Below w.heap.size w w2 := h.trans (k.mono h.size)

def allTo (p : Nat → Bool) (n : Nat) : Bool := (List.range n).all p
theorem allTo_succ (p : Nat → Bool) (n : Nat) : allTo p (n+1) = (allTo p n && p n) := by simp [allTo, List.range_succ]
theorem allTo_go {p : Nat → Bool} {n : Nat} (h : allTo p n = true) (hp : p n = true) : allTo p (n+1) = true := by rw [allTo_succ, h, hp]; rfl
theorem allTo_not {p : Nat → Bool} {n k : Nat} (h : k < n) (hp : p k = false) : allTo p n = false := by
  simp only [allTo, List.all_eq_false, List.mem_range]; exact ⟨k, h, by simp [hp]⟩
theorem allTo_iff {p : Nat → Bool} {n : Nat} : allTo p n = true ↔ ∀ k, k < n → p k = true := by simp [allTo]

theorem ret_bool {a b : Bool} (h : a = b) : Ending.returned (.bool a) = .returned (.bool b) := by rw [h]
theorem ret_int {k : IntKind} {a b : Int} (h : a = b) : Ending.returned (.int k a) = .returned (.int k b) := by rw [h]

def Rds {T : Type} (sz : Nat) (f : T → List Value) (w : World) (A : Option Addr) (xs : List T) : Prop :=
  0 < xs.length → ∃ b off, A = some ⟨b, off, none⟩ ∧ b < w.heap.size ∧ ∀ i x, xs[i]? = some x → ∀ j u, (f x)[j]? = some u → w.cell? ⟨b, off + i * sz + j, none⟩ = some u

theorem Rds.nil {T : Type} {sz : Nat} {f : T → List Value} {w : World} {A : Option Addr} : Rds sz f w A [] := fun h => absurd h (by simp)

theorem Rds.below {T : Type} {sz : Nat} {f : T → List Value} {w w' : World} {A : Option Addr} {xs : List T} (h : Rds sz f w A xs) (hb : Below w.heap.size w w') : Rds sz f w' A xs := fun hn => by
  obtain ⟨b, off, hA, hlt, hc⟩ := h hn
  exact ⟨b, off, hA, Nat.lt_of_lt_of_le hlt hb.size, fun i x hx j u hu => (hb.cell (p := ⟨b, _, none⟩) hlt).trans (hc i x hx j u hu)⟩

theorem Rds.at_ {T : Type} {sz : Nat} {f : T → List Value} {w wr : World} {A : Option Addr} {xs : List T} (h : Rds sz f w A xs) (hb : Below w.heap.size w wr) {k : Nat} (hk : k < xs.length) :
    ∃ b off x, A = some ⟨b, off, none⟩ ∧ b < wr.heap.size ∧ xs[k]? = some x ∧ ∀ j u, (f x)[j]? = some u → ∀ K : Kin wr.heap.size wr, K.world.cell? ⟨b, off + k * sz + j, none⟩ = some u := by
  obtain ⟨b, off, hA, hlt, hc⟩ := h (by omega)
  have hlt' := Nat.lt_of_lt_of_le hlt hb.size
  exact ⟨b, off, xs[k], hA, hlt', List.getElem?_eq_getElem hk, fun j u hu K => (K.cell (p := ⟨b, _, none⟩) hlt').trans ((hb.cell (p := ⟨b, _, none⟩) hlt).trans (hc k _ (List.getElem?_eq_getElem hk) j u hu))⟩

def Kin.self (w : World) : Kin w.heap.size w := ⟨w, Below.refl _ _⟩

theorem bl1 (w : World) (a : Obj) : Below w.heap.size w (w.alloc a) := (Below.refl _ _).alloc (Nat.le_refl _) _
theorem bl2 (w : World) (a b : Obj) : Below w.heap.size w ((w.alloc a).alloc b) := (bl1 w a).alloc (by simp) _
theorem bl3 (w : World) (a b c : Obj) : Below w.heap.size w (((w.alloc a).alloc b).alloc c) := (bl2 w a b).alloc (by simp; omega) _
def Blk (w : World) (g : Nat) (t : TypeId) (cs : Array Value) : Prop := w.heap[g]? = some (.cells cs t (0, 0))
section
variable {w w' : World} {g : Nat} {t : TypeId} {cs : Array Value}
theorem Blk.lt (h : Blk w g t cs) : g < w.heap.size := by
  rcases Nat.lt_or_ge g w.heap.size with hlt | hge
  · exact hlt
  · unfold Blk at h; rw [Array.getElem?_eq_none hge] at h; cases h
theorem Blk.cell (h : Blk w g t cs) (i : Nat) : w.cell? ⟨g, i, none⟩ = cs[i]? := cell_of_row w g i cs t (0, 0) h
theorem Blk.frozen (h : Blk w g t cs) (i : Nat) : w.frozen? ⟨g, i, none⟩ = false := by
  unfold Blk at h
  simp [World.frozen?, h]
theorem Blk.new (w : World) (t : TypeId) (cs : Array Value) : Blk (w.alloc (.cells cs t)) w.heap.size t cs := heap_alloc_new w _
theorem Blk.alloc (h : Blk w g t cs) (o : Obj) : Blk (w.alloc o) g t cs := (Below.heap_alloc w o g h.lt).trans h
theorem Blk.set_ (h : Blk w g t cs) (i : Nat) (u : Value) : Blk (w.setCell ⟨g, i, none⟩ u) g t (cs.setIfInBounds i u) := by
  unfold Blk at h ⊢
  simp [World.setCell, Array.getElem?_modify, h]
theorem Blk.below {B : Nat} (h : Blk w g t cs) (hb : Below B w w') (hg : g < B) : Blk w' g t cs := (hb.block g hg).trans h
end

def Own {T : Type} (B : Nat) (sz : Nat) (f : T → List Value) (t : TypeId) (w : World) (A : Option Addr) (xs : List T) : Prop :=
  ∃ g cs, A = some ⟨g, 0, none⟩ ∧ B ≤ g ∧ Blk w g t cs ∧ ∀ i x, xs[i]? = some x → ∀ j u, (f x)[j]? = some u → cs[i * sz + j]? = some u
theorem Own.rds {T : Type} {B sz : Nat} {f : T → List Value} {t : TypeId} {w : World} {A : Option Addr} {xs : List T} (h : Own B sz f t w A xs) : Rds sz f w A xs := fun _ => by
  obtain ⟨g, cs, hA, _, hb, hc⟩ := h
  exact ⟨g, 0, hA, hb.lt, fun i x hx j u hu => by rw [hb.cell, Nat.zero_add]; exact hc i x hx j u hu⟩

def Filled {T : Type} (sz : Nat) (f : T → List Value) (xs : List T) (k : Nat) (cs : Array Value) : Prop :=
  ∀ i x, i < k → xs[i]? = some x → ∀ j u, (f x)[j]? = some u → cs[i * sz + j]? = some u
theorem Filled.zero {T : Type} {sz : Nat} {f : T → List Value} {xs : List T} {cs : Array Value} : Filled sz f xs 0 cs := fun _ _ h => absurd h (Nat.not_lt_zero _)

def setMany : Array Value → Nat → List Value → Array Value
  | cs, _, [] => cs
  | cs, i, u :: us => setMany (cs.setIfInBounds i u) (i + 1) us
def setCells : World → Nat → Nat → List Value → World
  | w, _, _, [] => w
  | w, g, i, u :: us => setCells (w.setCell ⟨g, i, none⟩ u) g (i + 1) us
theorem Blk.setMany {g : Nat} {t : TypeId} : ∀ (i : Nat) (us : List Value) {w : World} {cs : Array Value}, Blk w g t cs → Blk (setCells w g i us) g t (Go.G9.setMany cs i us)
  | _, [], _, _, h => h
  | i, u :: us, _, _, h => Blk.setMany (i + 1) us (h.set_ i u)
theorem setMany_lt : ∀ (us : List Value) (cs : Array Value) (i j : Nat), j < i → (setMany cs i us)[j]? = cs[j]?
  | [], _, _, _, _ => rfl
  | u :: us, cs, i, j, h => by rw [setMany, setMany_lt us _ _ _ (by omega), Array.getElem?_setIfInBounds_ne (by omega)]
theorem setMany_in : ∀ (us : List Value) (cs : Array Value) (i j : Nat) (u : Value), i + us.length ≤ cs.size → us[j]? = some u → (setMany cs i us)[i + j]? = some u
  | [], _, _, _, _, _, h => by simp at h
  | v :: us, cs, i, 0, u, hs, h => by
    simp only [List.length_cons] at hs
    simp at h; subst h
    rw [setMany, setMany_lt us _ _ _ (by omega), Nat.add_zero, Array.getElem?_setIfInBounds_self_of_lt (by omega)]
  | v :: us, cs, i, j + 1, u, hs, h => by
    simp only [List.length_cons] at hs
    simp at h
    rw [setMany, show i + (j + 1) = (i + 1) + j from by omega]
    exact setMany_in us _ _ j u (by simp; omega) h
theorem Filled.put {T : Type} {sz : Nat} {f : T → List Value} {xs : List T} {k : Nat} {cs : Array Value} {x : T} (h : Filled sz f xs k cs) (hx : xs[k]? = some x) (hs : k * sz + (f x).length ≤ cs.size)
    (hf : ∀ y, (f y).length = sz := by intro y; rfl) : Filled sz f xs (k + 1) (Go.G9.setMany cs (k * sz) (f x)) := by
  intro i y hi hy j u hu
  have hj : j < sz := by have := hf y; have h2 := (List.getElem?_eq_some_iff.1 hu).1; omega
  by_cases he : i = k
  · subst he
    obtain rfl : x = y := Option.some.inj (hx.symm.trans hy)
    exact setMany_in _ _ _ _ _ hs hu
  · rw [setMany_lt _ _ _ _ (by
      have : i + 1 ≤ k := by omega
      have := Nat.mul_le_mul_right sz this
      rw [Nat.add_mul, Nat.one_mul] at this; omega)]
    exact h i y (by omega) hy j u hu
theorem Filled.all {T : Type} {sz : Nat} {f : T → List Value} {xs : List T} {cs : Array Value} (h : Filled sz f xs xs.length cs) : ∀ i x, xs[i]? = some x → ∀ j u, (f x)[j]? = some u → cs[i * sz + j]? = some u :=
  fun i x hx => h i x (List.getElem?_eq_some_iff.1 hx).1 hx

theorem boxed (w : World) (cs : Array Value) (t : TypeId) (j : Nat) (u : Value) (h : cs[j]? = some u) (K : Kin (w.alloc (.cells cs t)).heap.size (w.alloc (.cells cs t))) : K.world.cell? ⟨w.heap.size, j, none⟩ = some u :=
  (K.cell (p := ⟨w.heap.size, j, none⟩) (by simp)).trans (((Blk.new w t cs).cell j).trans h)
def Kin.drop {w w1 : World} (K : Kin w1.heap.size w1) (h : Below w.heap.size w w1) : Kin w.heap.size w := ⟨K.world, bth h K.below⟩

open Go.RowKit
theorem Blk.far' {w : World} {g : Nat} {t : TypeId} {cs : Array Value} (h : Blk w g t cs) {p : Addr} (hp : g ≠ p.block) (u : Value) : Blk (w.setCell p u) g t cs := (Below.heap_setCell w p u g hp).trans h
theorem Blk.new2 (w : World) (a : Obj) (t : TypeId) (cs : Array Value) : Blk ((w.alloc a).alloc (.cells cs t)) (w.heap.size + 1) t cs := by
  have h := Blk.new (w.alloc a) t cs
  rwa [show (w.alloc a).heap.size = w.heap.size + 1 from by simp] at h
theorem Blk.new3 (w : World) (a b : Obj) (t : TypeId) (cs : Array Value) : Blk (((w.alloc a).alloc b).alloc (.cells cs t)) (w.heap.size + 1 + 1) t cs := by
  have h := Blk.new ((w.alloc a).alloc b) t cs
  rw [show ((w.alloc a).alloc b).heap.size = w.heap.size + 1 + 1 from by simp] at h
  exact h
theorem Blk.new4 (w : World) (a b c : Obj) (t : TypeId) (cs : Array Value) : Blk ((((w.alloc a).alloc b).alloc c).alloc (.cells cs t)) (w.heap.size + 1 + 1 + 1) t cs := by
  have h := Blk.new (((w.alloc a).alloc b).alloc c) t cs
  rw [show (((w.alloc a).alloc b).alloc c).heap.size = w.heap.size + 1 + 1 + 1 from by simp] at h
  exact h
open Go.RowKit
def OwnV {T : Type} (B : Nat) (e : TypeId) (sz : Nat) (f : T → List Value) (w : World) (v : Value) (xs : List T) : Prop := w.ownsRow B e sz v xs.length (xs.flatMap f)
section
variable {T : Type} {B : Nat} {e : TypeId} {sz : Nat} {f : T → List Value} {w w' : World} {v : Value} {xs : List T}
theorem flat_len (hf : ∀ y, (f y).length = sz) : ∀ xs : List T, (xs.flatMap f).length = xs.length * sz
  | [] => by simp
  | x :: xs => by rw [List.flatMap_cons, List.length_append, flat_len hf xs, hf, List.length_cons, Nat.add_mul, Nat.one_mul, Nat.add_comm]
theorem flat_get (hf : ∀ y, (f y).length = sz) : ∀ (xs : List T) (i : Nat) (x : T), xs[i]? = some x → ∀ (j : Nat) (u : Value), (f x)[j]? = some u → (xs.flatMap f)[i * sz + j]? = some u
  | [], _, _, h, _, _, _ => by simp at h
  | y :: xs, 0, x, h, j, u, hu => by
    simp at h; subst h
    rw [List.flatMap_cons, List.getElem?_append_left (by have := (List.getElem?_eq_some_iff.1 hu).1; omega), Nat.zero_mul, Nat.zero_add]; exact hu
  | y :: xs, i + 1, x, h, j, u, hu => by
    simp at h
    have h2 := flat_get hf xs i x h j u hu
    rw [List.flatMap_cons, List.getElem?_append_right (by rw [hf, Nat.add_mul]; omega), hf, show (i + 1) * sz + j - sz = i * sz + j from by rw [Nat.add_mul, Nat.one_mul]; omega]
    exact h2
theorem flat_inv (hf : ∀ y, (f y).length = sz) (xs : List T) (k : Nat) (u : Value) (h : (xs.flatMap f)[k]? = some u) : ∃ i j x, xs[i]? = some x ∧ (f x)[j]? = some u ∧ k = i * sz + j := by
  induction xs generalizing k with
  | nil => simp at h
  | cons y xs ih =>
    rw [List.flatMap_cons] at h
    by_cases hk : k < (f y).length
    · rw [List.getElem?_append_left hk] at h
      exact ⟨0, k, y, rfl, h, by omega⟩
    · rw [List.getElem?_append_right (by omega)] at h
      obtain ⟨i, j, x, hx, hj, e⟩ := ih _ h
      exact ⟨i + 1, j, x, by simpa using hx, hj, by rw [Nat.add_mul, Nat.one_mul]; have := hf y; omega⟩
theorem OwnV.nil : OwnV B e sz f w (.slice none 0 0) [] := World.ownsRow_nil _ _ _ _
theorem OwnV.form (h : OwnV B e sz f w v xs) (hf : ∀ y, (f y).length = sz) : ∃ A c, v = .slice A xs.length c ∧ xs.length ≤ c ∧ Rds sz f w A xs ∧ (A = none → xs = []) := by
  obtain ⟨hl, h⟩ := h
  rcases h with ⟨rfl, h0⟩ | ⟨g, cap, cur, rfl, hB, hh, hnc, hcm, hcs, htake⟩
  · have : xs = [] := List.length_eq_zero_iff.1 h0
    subst this
    exact ⟨none, 0, rfl, Nat.le_refl _, Rds.nil, fun _ => rfl⟩
  · refine ⟨some ⟨g, 0, none⟩, cap, rfl, hnc, fun _ => ⟨g, 0, rfl, (Array.getElem?_eq_some_iff.1 hh).1, fun i x hx j u hu => ?_⟩, fun h => by cases h⟩
    have h1 := flat_get hf xs i x hx j u hu
    rw [← htake, List.getElem?_take] at h1
    split at h1
    · rw [Nat.zero_add, cell_of_row w g _ cur e (0, 0) hh]; simpa using h1
    · cases h1
theorem OwnV.rds {A : Option Addr} {n c : Nat} (h : OwnV B e sz f w (.slice A n c) xs) (hf : ∀ y, (f y).length = sz := by intro y; rfl) : Rds sz f w A xs := by
  obtain ⟨A', c', hv, _, hR, _⟩ := h.form hf
  injection hv with h1 h2 h3; subst h1; exact hR
theorem OwnV.below (h : OwnV B e sz f w v xs) {B' : Nat} (hb : Below B' w w') (hlt : ∀ k, v.ownBlock = some k → k < B') : OwnV B e sz f w' v xs := by
  refine ⟨h.1, ?_⟩
  rcases h.2 with hn | ⟨g, cap, cur, rfl, hB, hh, r⟩
  · exact .inl hn
  · exact .inr ⟨g, cap, cur, rfl, hB, by rw [hb.block g (hlt g rfl)]; exact hh, r⟩
theorem OwnV.lt (h : OwnV B e sz f w v xs) : ∀ k, v.ownBlock = some k → B ≤ k ∧ k < w.heap.size := World.ownsRow.lt h
theorem OwnV.later (h : OwnV B e sz f w v xs) (hb : Below w.heap.size w w') : OwnV B e sz f w' v xs := h.below hb (fun k hk => (h.lt k hk).2)
theorem OwnV.alloc (h : OwnV B e sz f w v xs) (o : Obj) : OwnV B e sz f (w.alloc o) v xs := World.ownsRow.alloc h o
theorem OwnV.kept {row : Option Nat} (h : OwnV B e sz f w v xs) (hg : w.grownBy w' row) (hne : ∀ k, v.ownBlock = some k → some k ≠ row) : OwnV B e sz f w' v xs := by
  refine ⟨h.1, ?_⟩
  rcases h.2 with hn | ⟨g, cap, cur, rfl, hB, hh, r⟩
  · exact .inl hn
  · exact .inr ⟨g, cap, cur, rfl, hB, by rw [hg.block g (Array.getElem?_eq_some_iff.1 hh).1 (hne g rfl)]; exact hh, r⟩
theorem OwnV.base {B' : Nat} (h : OwnV B e sz f w v xs) (hB : B' ≤ B) : OwnV B' e sz f w v xs := by
  refine ⟨h.1, ?_⟩
  rcases h.2 with hn | ⟨g, cap, cur, rfl, hg, r⟩
  · exact .inl hn
  · exact .inr ⟨g, cap, cur, rfl, by omega, r⟩
theorem OwnV.filled {g : Nat} {cs : Array Value} (hb : Blk w g e cs) (hB : B ≤ g) (hsz : cs.size = xs.length * sz) (hm : xs.length ≤ maxLen) (hF : ∀ i x, xs[i]? = some x → ∀ j u, (f x)[j]? = some u → cs[i * sz + j]? = some u)
    (hf : ∀ y, (f y).length = sz := by intro y; rfl) : OwnV B e sz f w (.slice (some ⟨g, 0, none⟩) xs.length xs.length) xs := by
  refine ⟨flat_len hf xs, .inr ⟨g, xs.length, cs, rfl, hB, hb, Nat.le_refl _, hm, hsz, ?_⟩⟩
  rw [List.take_of_length_le (by simp [hsz])]
  apply List.ext_getElem?
  intro k
  by_cases hk : k < (xs.flatMap f).length
  · obtain ⟨i, j, x, hx, hj, rfl⟩ := flat_inv hf xs k _ (List.getElem?_eq_getElem hk)
    rw [List.getElem?_eq_getElem hk, ← hF i x hx j _ hj]; simp
  · rw [flat_len hf] at hk
    rw [List.getElem?_eq_none (by rw [Array.length_toList]; omega), List.getElem?_eq_none (by rw [flat_len hf]; omega)]
theorem Rds.flat {ad : Addr} {ys : List T} (h : Rds sz f w (some ad) ys) (hf : ∀ y, (f y).length = sz) (j : Nat) (u : Value) (hu : (ys.flatMap f)[j]? = some u) : w.cell? (ad.add j) = some u := by
  obtain ⟨i, j', y, hy, hj, rfl⟩ := flat_inv hf ys j u hu
  obtain ⟨b, off, hA, _, hc⟩ := h (by have := (List.getElem?_eq_some_iff.1 hy).1; omega)
  injection hA with hA; subst hA
  rw [← hc i y hy j' u hj]
  congr 1
  unfold Addr.add
  split <;> simp_all [Nat.add_assoc]
theorem Rds.one (x : T) (t : TypeId) : Rds sz f (w.alloc (.cells (f x).toArray t)) (some ⟨w.heap.size, 0, none⟩) [x] := fun _ =>
  ⟨w.heap.size, 0, rfl, by simp, fun i y hy j u hu => by
    have h0 : i = 0 := by have := (List.getElem?_eq_some_iff.1 hy).1; simp at this; omega
    subst h0; simp at hy; subst hy
    rw [Nat.zero_mul, Nat.zero_add]
    exact ((Blk.new w t _).cell j).trans (by simpa using hu)⟩
theorem Rds.alloc {A : Option Addr} (h : Rds sz f w A xs) (o : Obj) : Rds sz f (w.alloc o) A xs := h.below (bl1 w o)
end
section
variable {T : Type} {B : Nat} {e : TypeId} {sz : Nat} {f : T → List Value} {w w' : World} {v : Value} {xs : List T}
theorem OwnV.made (w : World) (hB : B ≤ w.heap.size) (e : TypeId) : OwnV B e sz f (w.alloc (.cells #[] e)) (.slice (some ⟨w.heap.size, 0, none⟩) 0 0) ([] : List T) :=
  World.ownsRow_made w #[] 0 hB (by simp) (by simp)
theorem OwnV.nilOk {A : Option Addr} {n c : Nat} (h : OwnV B e sz f w (.slice A n c) xs) : A = none → xs = [] ∧ c = 0 := by
  rintro rfl
  rcases h.2 with ⟨hv, h0⟩ | ⟨g, cap, cur, hv, _⟩
  · injection hv with _ _ h3; exact ⟨List.length_eq_zero_iff.1 h0, h3⟩
  · injection hv with h1; cases h1
theorem ownsRow_set {n : Nat} {cells : List Value} {g j : Nat} {u : Value} (h : w.ownsRow B e sz v n cells) (hg : v.ownBlock = some g) : (w.setCell ⟨g, j, none⟩ u).ownsRow B e sz v n (cells.set j u) := by
  obtain ⟨hl, h⟩ := h
  refine ⟨by simpa using hl, ?_⟩
  rcases h with ⟨rfl, _⟩ | ⟨g', cap, cur, rfl, hB, hh, hnc, hcm, hcs, htake⟩
  · simp [Value.ownBlock] at hg
  · simp [Value.ownBlock] at hg; subst hg
    refine .inr ⟨g', cap, cur.setIfInBounds j u, rfl, hB, (Blk.set_ (w := w) (g := g') (t := e) (cs := cur) hh j u), hnc, hcm, by simpa using hcs, ?_⟩
    rw [Array.toList_setIfInBounds, ← htake, List.take_set]
theorem ownsRow_cellAt {n : Nat} {cells : List Value} {g j : Nat} (h : w.ownsRow B e sz v n cells) (hg : v.ownBlock = some g) (hj : j < cells.length) : w.cell? ⟨g, j, none⟩ = some cells[j] ∧ w.frozen? ⟨g, j, none⟩ = false := by
  obtain ⟨hl, h⟩ := h
  rcases h with ⟨rfl, _⟩ | ⟨g', cap, cur, rfl, hB, hh, hnc, hcm, hcs, htake⟩
  · simp [Value.ownBlock] at hg
  · simp [Value.ownBlock] at hg; subst hg
    refine ⟨?_, Blk.frozen (w := w) (g := g') (t := e) (cs := cur) hh j⟩
    rw [cell_of_row w g' j cur e (0, 0) hh]
    have h1 : (cur.toList.take (n * sz))[j]? = some cells[j] := by rw [htake]; exact List.getElem?_eq_getElem hj
    rw [List.getElem?_take] at h1
    split at h1
    · simpa using h1
    · cases h1
theorem grown_refl (w : World) (row : Option Nat) : w.grownBy w row := ⟨rfl, rfl, rfl, Nat.le_refl _, fun _ _ _ => rfl⟩
theorem grown_set {a w : World} {g j : Nat} (h : a.grownBy w (some g)) (u : Value) : a.grownBy (w.setCell ⟨g, j, none⟩ u) (some g) :=
  ⟨h.os, h.tape, h.output, by simpa [World.setCell] using h.size, fun i hi hne => (Below.heap_setCell w _ u i (by rintro rfl; exact hne rfl)).trans (h.block i hi hne)⟩
theorem grown_tr {a b c : World} {row : Option Nat} (h : a.grownBy b row) (k : b.grownBy c row) : a.grownBy c row :=
  ⟨k.os.trans h.os, k.tape.trans h.tape, k.output.trans h.output, Nat.le_trans h.size k.size, fun i hi hne => (k.block i (Nat.lt_of_lt_of_le hi h.size) hne).trans (h.block i hi hne)⟩
theorem grown_below {a b : World} {row : Option Nat} {B : Nat} (h : a.grownBy b row) (hB : B ≤ a.heap.size) (hr : ∀ k, row = some k → B ≤ k) : Below B a b := (Below.refl B a).grown h hB hr
theorem bgr {a b : World} (h : Below a.heap.size a b) (row : Option Nat) : a.grownBy b row := ⟨h.os, h.tape, h.output, h.size, fun i hi _ => h.block i hi⟩
theorem Rds.grown {A : Option Addr} {row : Option Nat} (h : Rds sz f w A xs) (hg : w.grownBy w' row) (hne : ∀ ad, A = some ad → some ad.block ≠ row) : Rds sz f w' A xs := fun hn => by
  obtain ⟨b, off, hA, hlt, hc⟩ := h hn
  exact ⟨b, off, hA, Nat.lt_of_lt_of_le hlt hg.size, fun i x hx j u hu => (World.cell?_of_block (hg.block b hlt (hne _ hA))).trans (hc i x hx j u hu)⟩
end
theorem wpList_app {P : Program} {w : World} {ops : Array Oper} {rest : List Oper} {o : Oper} {a : Act} {Q : Exit → Act → World → Prop} (hgd : o.guard = none) (s x : Operand) (t : TypeId)
    (ho : o.op = .call { callee := .builtin .append, args := #[s, x], argTypes := #[t, t] })
    (B : Nat) (e : TypeId) (i : TypeInfo) (z : Value) (sz bytes : Nat) (ht : P.underlying t = some (.slice e)) (hi : P.info? e = some i) (hz : i.zero = some z)
    (hsize : i.size = sz) (hby : i.bytes = bytes) (hzs : z.cells.size = sz) (hsz : 0 < sz) {T : Type} (f : T → List Value) (hf : ∀ y, (f y).length = sz) (hone : ∀ y u, u ∈ f y → u.oneCell' = true)
    (v : Value) (xs : List T) (hs : a.eval s = v) (hown : OwnV B e sz f w v xs) (A2 : Option Addr) (c2 : Nat) (ys : List T) (hx : a.eval x = .slice A2 ys.length c2) (hR : Rds sz f w A2 ys)
    (hA : A2 = none → ys = [] ∧ c2 = 0) (h63 : xs.length + ys.length ≤ maxLen) (hbytes : (xs.length + ys.length) * bytes ≤ 140737488355328) (hbase : B ≤ w.heap.size)
    (h : ∀ v' w', OwnV B e sz f w' v' (xs ++ ys) → w.grownBy w' v.ownBlock → wpList P ops Q rest (a.put o.dst v') w') : wpList P ops Q (o :: rest) a w := by
  cases A2 with
  | some ad =>
    refine wpList_append_own w hgd s x t ho B e i z sz bytes ht hi hz hsize hby hzs hsz v xs.length (xs.flatMap f) hs hown ad ys.length c2 (ys.flatMap f) hx (flat_len hf ys) (fun j u hu => Rds.flat hR hf j u hu)
      (fun u hu => by obtain ⟨y, _, hy⟩ := List.mem_flatMap.1 hu; exact hone y u hy) h63 hbytes hbase (fun v' w' h1 h2 _ => h v' w' ?_ h2)
    unfold OwnV; rw [List.length_append, List.flatMap_append]; exact h1
  | none =>
    obtain ⟨rfl, rfl⟩ := hA rfl
    exact wpList_append_own_none hgd s x t ho B e i sz ht hi v xs.length (xs.flatMap f) hs hown hx (h v w (by simpa using hown) ⟨rfl, rfl, rfl, Nat.le_refl _, fun _ _ _ => rfl⟩)

open Go.RowKit
instance belR (w : World) : Nonempty (PLift (Below w.heap.size w w)) := ⟨⟨Below.refl _ _⟩⟩
instance belA (w W : World) (o : Obj) [h : Nonempty (PLift (Below w.heap.size w W))] : Nonempty (PLift (Below w.heap.size w (W.alloc o))) := ⟨⟨h.elim fun x => x.down.alloc x.down.size _⟩⟩
theorem bel {w W : World} [h : Nonempty (PLift (Below w.heap.size w W))] : Below w.heap.size w W := h.elim fun x => x.down
section
variable {w W : World} {g : Nat} {t : TypeId}
theorem Blk.cs3 {a0 a1 a2 : Value} (h : Blk w g t #[a0, a1, a2]) : w.cell? ⟨g, 0, none⟩ = some a0 ∧ w.cell? ⟨g, 1, none⟩ = some a1 ∧ w.cell? ⟨g, 2, none⟩ = some a2 := ⟨h.cell 0, h.cell 1, h.cell 2⟩
theorem Blk.cs3K {ι : Sort _} {V : ι → World} {a0 a1 a2 : Value} (h : ∀ k, Blk (V k) g t #[a0, a1, a2]) : (∀ k, (V k).cell? ⟨g, 0, none⟩ = some a0) ∧ (∀ k, (V k).cell? ⟨g, 1, none⟩ = some a1) ∧ (∀ k, (V k).cell? ⟨g, 2, none⟩ = some a2) := ⟨fun k => (h k).cell 0, fun k => (h k).cell 1, fun k => (h k).cell 2⟩
theorem Blk.fz3 {cs : Array Value} (h : Blk w g t cs) : w.frozen? ⟨g, 0, none⟩ = false ∧ w.frozen? ⟨g, 1, none⟩ = false ∧ w.frozen? ⟨g, 2, none⟩ = false := ⟨h.frozen 0, h.frozen 1, h.frozen 2⟩
theorem Blk.cs5 {a0 a1 a2 a3 a4 : Value} (h : Blk w g t #[a0, a1, a2, a3, a4]) : w.cell? ⟨g, 0, none⟩ = some a0 ∧ w.cell? ⟨g, 1, none⟩ = some a1 ∧ w.cell? ⟨g, 2, none⟩ = some a2 ∧ w.cell? ⟨g, 3, none⟩ = some a3 ∧ w.cell? ⟨g, 4, none⟩ = some a4 := ⟨h.cell 0, h.cell 1, h.cell 2, h.cell 3, h.cell 4⟩
theorem Blk.cs5K {ι : Sort _} {V : ι → World} {a0 a1 a2 a3 a4 : Value} (h : ∀ k, Blk (V k) g t #[a0, a1, a2, a3, a4]) : (∀ k, (V k).cell? ⟨g, 0, none⟩ = some a0) ∧ (∀ k, (V k).cell? ⟨g, 1, none⟩ = some a1) ∧ (∀ k, (V k).cell? ⟨g, 2, none⟩ = some a2) ∧ (∀ k, (V k).cell? ⟨g, 3, none⟩ = some a3) ∧ (∀ k, (V k).cell? ⟨g, 4, none⟩ = some a4) := ⟨fun k => (h k).cell 0, fun k => (h k).cell 1, fun k => (h k).cell 2, fun k => (h k).cell 3, fun k => (h k).cell 4⟩
theorem Blk.fz5 {cs : Array Value} (h : Blk w g t cs) : w.frozen? ⟨g, 0, none⟩ = false ∧ w.frozen? ⟨g, 1, none⟩ = false ∧ w.frozen? ⟨g, 2, none⟩ = false ∧ w.frozen? ⟨g, 3, none⟩ = false ∧ w.frozen? ⟨g, 4, none⟩ = false := ⟨h.frozen 0, h.frozen 1, h.frozen 2, h.frozen 3, h.frozen 4⟩
theorem Blk.cs6 {a0 a1 a2 a3 a4 a5 : Value} (h : Blk w g t #[a0, a1, a2, a3, a4, a5]) : w.cell? ⟨g, 0, none⟩ = some a0 ∧ w.cell? ⟨g, 1, none⟩ = some a1 ∧ w.cell? ⟨g, 2, none⟩ = some a2 ∧ w.cell? ⟨g, 3, none⟩ = some a3 ∧ w.cell? ⟨g, 4, none⟩ = some a4 ∧ w.cell? ⟨g, 5, none⟩ = some a5 := ⟨h.cell 0, h.cell 1, h.cell 2, h.cell 3, h.cell 4, h.cell 5⟩
theorem Blk.fz6 {cs : Array Value} (h : Blk w g t cs) : w.frozen? ⟨g, 0, none⟩ = false ∧ w.frozen? ⟨g, 1, none⟩ = false ∧ w.frozen? ⟨g, 2, none⟩ = false ∧ w.frozen? ⟨g, 3, none⟩ = false ∧ w.frozen? ⟨g, 4, none⟩ = false ∧ w.frozen? ⟨g, 5, none⟩ = false := ⟨h.frozen 0, h.frozen 1, h.frozen 2, h.frozen 3, h.frozen 4, h.frozen 5⟩
theorem Blk.cs7 {a0 a1 a2 a3 a4 a5 a6 : Value} (h : Blk w g t #[a0, a1, a2, a3, a4, a5, a6]) : w.cell? ⟨g, 0, none⟩ = some a0 ∧ w.cell? ⟨g, 1, none⟩ = some a1 ∧ w.cell? ⟨g, 2, none⟩ = some a2 ∧ w.cell? ⟨g, 3, none⟩ = some a3 ∧ w.cell? ⟨g, 4, none⟩ = some a4 ∧ w.cell? ⟨g, 5, none⟩ = some a5 ∧ w.cell? ⟨g, 6, none⟩ = some a6 := ⟨h.cell 0, h.cell 1, h.cell 2, h.cell 3, h.cell 4, h.cell 5, h.cell 6⟩
theorem Blk.cs7K {ι : Sort _} {V : ι → World} {a0 a1 a2 a3 a4 a5 a6 : Value} (h : ∀ k, Blk (V k) g t #[a0, a1, a2, a3, a4, a5, a6]) : (∀ k, (V k).cell? ⟨g, 0, none⟩ = some a0) ∧ (∀ k, (V k).cell? ⟨g, 1, none⟩ = some a1) ∧ (∀ k, (V k).cell? ⟨g, 2, none⟩ = some a2) ∧ (∀ k, (V k).cell? ⟨g, 3, none⟩ = some a3) ∧ (∀ k, (V k).cell? ⟨g, 4, none⟩ = some a4) ∧ (∀ k, (V k).cell? ⟨g, 5, none⟩ = some a5) ∧ (∀ k, (V k).cell? ⟨g, 6, none⟩ = some a6) := ⟨fun k => (h k).cell 0, fun k => (h k).cell 1, fun k => (h k).cell 2, fun k => (h k).cell 3, fun k => (h k).cell 4, fun k => (h k).cell 5, fun k => (h k).cell 6⟩
theorem Blk.fz7 {cs : Array Value} (h : Blk w g t cs) : w.frozen? ⟨g, 0, none⟩ = false ∧ w.frozen? ⟨g, 1, none⟩ = false ∧ w.frozen? ⟨g, 2, none⟩ = false ∧ w.frozen? ⟨g, 3, none⟩ = false ∧ w.frozen? ⟨g, 4, none⟩ = false ∧ w.frozen? ⟨g, 5, none⟩ = false ∧ w.frozen? ⟨g, 6, none⟩ = false := ⟨h.frozen 0, h.frozen 1, h.frozen 2, h.frozen 3, h.frozen 4, h.frozen 5, h.frozen 6⟩
theorem Blk.cs8 {a0 a1 a2 a3 a4 a5 a6 a7 : Value} (h : Blk w g t #[a0, a1, a2, a3, a4, a5, a6, a7]) : w.cell? ⟨g, 0, none⟩ = some a0 ∧ w.cell? ⟨g, 1, none⟩ = some a1 ∧ w.cell? ⟨g, 2, none⟩ = some a2 ∧ w.cell? ⟨g, 3, none⟩ = some a3 ∧ w.cell? ⟨g, 4, none⟩ = some a4 ∧ w.cell? ⟨g, 5, none⟩ = some a5 ∧ w.cell? ⟨g, 6, none⟩ = some a6 ∧ w.cell? ⟨g, 7, none⟩ = some a7 := ⟨h.cell 0, h.cell 1, h.cell 2, h.cell 3, h.cell 4, h.cell 5, h.cell 6, h.cell 7⟩
theorem Blk.cs8K {ι : Sort _} {V : ι → World} {a0 a1 a2 a3 a4 a5 a6 a7 : Value} (h : ∀ k, Blk (V k) g t #[a0, a1, a2, a3, a4, a5, a6, a7]) : (∀ k, (V k).cell? ⟨g, 0, none⟩ = some a0) ∧ (∀ k, (V k).cell? ⟨g, 1, none⟩ = some a1) ∧ (∀ k, (V k).cell? ⟨g, 2, none⟩ = some a2) ∧ (∀ k, (V k).cell? ⟨g, 3, none⟩ = some a3) ∧ (∀ k, (V k).cell? ⟨g, 4, none⟩ = some a4) ∧ (∀ k, (V k).cell? ⟨g, 5, none⟩ = some a5) ∧ (∀ k, (V k).cell? ⟨g, 6, none⟩ = some a6) ∧ (∀ k, (V k).cell? ⟨g, 7, none⟩ = some a7) := ⟨fun k => (h k).cell 0, fun k => (h k).cell 1, fun k => (h k).cell 2, fun k => (h k).cell 3, fun k => (h k).cell 4, fun k => (h k).cell 5, fun k => (h k).cell 6, fun k => (h k).cell 7⟩
theorem Blk.fz8 {cs : Array Value} (h : Blk w g t cs) : w.frozen? ⟨g, 0, none⟩ = false ∧ w.frozen? ⟨g, 1, none⟩ = false ∧ w.frozen? ⟨g, 2, none⟩ = false ∧ w.frozen? ⟨g, 3, none⟩ = false ∧ w.frozen? ⟨g, 4, none⟩ = false ∧ w.frozen? ⟨g, 5, none⟩ = false ∧ w.frozen? ⟨g, 6, none⟩ = false ∧ w.frozen? ⟨g, 7, none⟩ = false := ⟨h.frozen 0, h.frozen 1, h.frozen 2, h.frozen 3, h.frozen 4, h.frozen 5, h.frozen 6, h.frozen 7⟩
theorem Blk.fz9 {cs : Array Value} (h : Blk w g t cs) : w.frozen? ⟨g, 0, none⟩ = false ∧ w.frozen? ⟨g, 1, none⟩ = false ∧ w.frozen? ⟨g, 2, none⟩ = false ∧ w.frozen? ⟨g, 3, none⟩ = false ∧ w.frozen? ⟨g, 4, none⟩ = false ∧ w.frozen? ⟨g, 5, none⟩ = false ∧ w.frozen? ⟨g, 6, none⟩ = false ∧ w.frozen? ⟨g, 7, none⟩ = false ∧ w.frozen? ⟨g, 8, none⟩ = false := ⟨h.frozen 0, h.frozen 1, h.frozen 2, h.frozen 3, h.frozen 4, h.frozen 5, h.frozen 6, h.frozen 7, h.frozen 8⟩
end
def setl : List Value → Nat → List Value → List Value
  | [], _, _ => []
  | c :: cs, 0, [] => c :: cs
  | _ :: cs, 0, v :: vs => v :: setl cs 0 vs
  | c :: cs, k + 1, vs => c :: setl cs k vs
theorem setl_nil : ∀ (l : List Value) (k : Nat), setl l k [] = l
  | [], _ => rfl
  | _ :: _, 0 => rfl
  | c :: cs, k + 1 => by rw [setl, setl_nil cs k]
theorem setl_set : ∀ (l : List Value) (k : Nat) (v : Value) (vs : List Value), setl (l.set k v) (k + 1) vs = setl l k (v :: vs)
  | [], _, _, _ => by simp [setl]
  | c :: cs, 0, v, vs => by simp [setl]
  | c :: cs, k + 1, v, vs => by simp [setl, setl_set cs k v vs]
structure Sto (w : World) (g k : Nat) (vs : List Value) (W : World) : Prop where
  gr : w.grownBy W (some g)
  sz : W.heap.size = w.heap.size
  own : ∀ {t : TypeId} {l : List Value}, Blk w g t ⟨l⟩ → Blk W g t ⟨setl l k vs⟩
  far : ∀ {p : Nat} {t : TypeId} {cs : Array Value}, Blk w p t cs → p ≠ g → Blk W p t cs
  hb : ∀ {n : Nat} {w0 : World}, Below n w0 w → n ≤ g → Below n w0 W
theorem Sto.fa {w W : World} {g k p : Nat} {vs : List Value} {t : TypeId} {cs : Array Value} (h : Sto w g k vs W) (b : Blk w p t cs) (hne : p ≠ g := by omega) : Blk W p t cs := h.far b hne
theorem Sto.hc {w W w0 : World} {g k n : Nat} {vs : List Value} (h : Sto w g k vs W) (b : Below n w0 w) (hn : n ≤ g := by omega) : Below n w0 W := h.hb b hn
theorem be (w : World) {b W : World} [Nonempty (PLift (Below w.heap.size w b))] (h : Below b.heap.size b W) : Below w.heap.size w W := bth bel h
theorem brt {P : Program} {fn : Func} {R : Ending → World → Prop} {a : Act} {w : World} {v : Value} (hR : R (.returned v) w) (hr : (results fn a.tmps).run P w = .ok v w) (hd : a.defers = [] := by rfl) : bodyPost P fn R .ret a w := ⟨hd, v, hr, hR⟩
theorem Sto.nil {w : World} {g k : Nat} : Sto w g k [] w := ⟨grown_refl _ _, rfl, fun {_ l} h => by rw [setl_nil l k]; exact h, fun h _ => h, fun h _ => h⟩
theorem Sto.cons {w W : World} {g k : Nat} {v : Value} {vs : List Value} (h : Sto (w.setCell ⟨g, k, none⟩ v) g (k + 1) vs W) : Sto w g k (v :: vs) W :=
  ⟨grown_tr (grown_set (grown_refl w (some g)) v) h.gr, h.sz.trans (by simp [World.setCell]), fun {_ l} b => by rw [← setl_set l k v vs]; exact h.own (by simpa using b.set_ k v), fun b hn => h.far (b.far' (p := ⟨g, k, none⟩) hn v) hn, fun b hn => h.hb (b.setCell (p := ⟨g, k, none⟩) hn v) hn⟩
theorem Blk.to {w W : World} {g : Nat} {t : TypeId} {cs : Array Value} (h : Blk w g t cs) (hb : Below w.heap.size w W) : Blk W g t cs := h.below hb h.lt
theorem lh {p : Prop} (h : p) : Hid p := Lib.hid h
theorem OwnV.keptS {T : Type} {B sz : Nat} {f : T → List Value} {e : TypeId} {w W : World} {v : Value} {xs : List T} {g k : Nat} {vs : List Value} (h : OwnV B e sz f w v xs) (s : Sto w g k vs W) (hne : ∀ q, v.ownBlock = some q → ¬ q = g) : OwnV B e sz f W v xs := h.kept s.gr (fun q hq e => hne q hq (Option.some.inj e))
section
variable {w W : World} {g : Nat} {t : TypeId} {Q : World → Prop}
theorem st1 (k : Nat) {a0 : Value} (h : ∀ W, Sto w g k [a0] W → Q W) : Q (World.setCell w ⟨g, k, none⟩ a0) := h _ (Sto.cons Sto.nil)
theorem st3 (k : Nat) {a0 a1 a2 : Value} (h : ∀ W, Sto w g k [a0, a1, a2] W → Q W) : Q (World.setCell (World.setCell (World.setCell w ⟨g, k, none⟩ a0) ⟨g, k + 1, none⟩ a1) ⟨g, k + 2, none⟩ a2) := h _ (Sto.cons (Sto.cons (Sto.cons Sto.nil)))
theorem Sto.all3 {a0 a1 a2 b0 b1 b2 : Value} (h : Sto w g 0 [a0, a1, a2] W) (b : Blk w g t #[b0, b1, b2]) : Blk W g t #[a0, a1, a2] := h.own b
theorem st5 (k : Nat) {a0 a1 a2 a3 a4 : Value} (h : ∀ W, Sto w g k [a0, a1, a2, a3, a4] W → Q W) : Q (World.setCell (World.setCell (World.setCell (World.setCell (World.setCell w ⟨g, k, none⟩ a0) ⟨g, k + 1, none⟩ a1) ⟨g, k + 2, none⟩ a2) ⟨g, k + 3, none⟩ a3) ⟨g, k + 4, none⟩ a4) := h _ (Sto.cons (Sto.cons (Sto.cons (Sto.cons (Sto.cons Sto.nil)))))
theorem Sto.all5 {a0 a1 a2 a3 a4 b0 b1 b2 b3 b4 : Value} (h : Sto w g 0 [a0, a1, a2, a3, a4] W) (b : Blk w g t #[b0, b1, b2, b3, b4]) : Blk W g t #[a0, a1, a2, a3, a4] := h.own b
theorem st6 (k : Nat) {a0 a1 a2 a3 a4 a5 : Value} (h : ∀ W, Sto w g k [a0, a1, a2, a3, a4, a5] W → Q W) : Q (World.setCell (World.setCell (World.setCell (World.setCell (World.setCell (World.setCell w ⟨g, k, none⟩ a0) ⟨g, k + 1, none⟩ a1) ⟨g, k + 2, none⟩ a2) ⟨g, k + 3, none⟩ a3) ⟨g, k + 4, none⟩ a4) ⟨g, k + 5, none⟩ a5) := h _ (Sto.cons (Sto.cons (Sto.cons (Sto.cons (Sto.cons (Sto.cons Sto.nil))))))
theorem Sto.all6 {a0 a1 a2 a3 a4 a5 b0 b1 b2 b3 b4 b5 : Value} (h : Sto w g 0 [a0, a1, a2, a3, a4, a5] W) (b : Blk w g t #[b0, b1, b2, b3, b4, b5]) : Blk W g t #[a0, a1, a2, a3, a4, a5] := h.own b
theorem st7 (k : Nat) {a0 a1 a2 a3 a4 a5 a6 : Value} (h : ∀ W, Sto w g k [a0, a1, a2, a3, a4, a5, a6] W → Q W) : Q (World.setCell (World.setCell (World.setCell (World.setCell (World.setCell (World.setCell (World.setCell w ⟨g, k, none⟩ a0) ⟨g, k + 1, none⟩ a1) ⟨g, k + 2, none⟩ a2) ⟨g, k + 3, none⟩ a3) ⟨g, k + 4, none⟩ a4) ⟨g, k + 5, none⟩ a5) ⟨g, k + 6, none⟩ a6) := h _ (Sto.cons (Sto.cons (Sto.cons (Sto.cons (Sto.cons (Sto.cons (Sto.cons Sto.nil)))))))
theorem Sto.all7 {a0 a1 a2 a3 a4 a5 a6 b0 b1 b2 b3 b4 b5 b6 : Value} (h : Sto w g 0 [a0, a1, a2, a3, a4, a5, a6] W) (b : Blk w g t #[b0, b1, b2, b3, b4, b5, b6]) : Blk W g t #[a0, a1, a2, a3, a4, a5, a6] := h.own b
theorem st8 (k : Nat) {a0 a1 a2 a3 a4 a5 a6 a7 : Value} (h : ∀ W, Sto w g k [a0, a1, a2, a3, a4, a5, a6, a7] W → Q W) : Q (World.setCell (World.setCell (World.setCell (World.setCell (World.setCell (World.setCell (World.setCell (World.setCell w ⟨g, k, none⟩ a0) ⟨g, k + 1, none⟩ a1) ⟨g, k + 2, none⟩ a2) ⟨g, k + 3, none⟩ a3) ⟨g, k + 4, none⟩ a4) ⟨g, k + 5, none⟩ a5) ⟨g, k + 6, none⟩ a6) ⟨g, k + 7, none⟩ a7) := h _ (Sto.cons (Sto.cons (Sto.cons (Sto.cons (Sto.cons (Sto.cons (Sto.cons (Sto.cons Sto.nil))))))))
theorem Sto.all8 {a0 a1 a2 a3 a4 a5 a6 a7 b0 b1 b2 b3 b4 b5 b6 b7 : Value} (h : Sto w g 0 [a0, a1, a2, a3, a4, a5, a6, a7] W) (b : Blk w g t #[b0, b1, b2, b3, b4, b5, b6, b7]) : Blk W g t #[a0, a1, a2, a3, a4, a5, a6, a7] := h.own b
theorem lay1 {c0 : Array Value} {t0 : TypeId} (h : ∀ W, Below w.heap.size w W → Blk W (w.heap.size) t0 c0 → Q W) : Q (World.alloc w (.cells c0 t0)) := h _ (bl1 _ _) (Blk.new _ _ _)
theorem lay2 {c0 c1 : Array Value} {t0 t1 : TypeId} (h : ∀ W, Below w.heap.size w W → Blk W (w.heap.size) t0 c0 → Blk W (w.heap.size + 1) t1 c1 → Q W) : Q (World.alloc (World.alloc w (.cells c0 t0)) (.cells c1 t1)) := h _ (bl2 _ _ _) ((Blk.new _ _ _).alloc _) (Blk.new2 _ _ _ _)
theorem lay3 {c0 c1 c2 : Array Value} {t0 t1 t2 : TypeId} (h : ∀ W, Below w.heap.size w W → Blk W (w.heap.size) t0 c0 → Blk W (w.heap.size + 1) t1 c1 → Blk W (w.heap.size + 1 + 1) t2 c2 → Q W) : Q (World.alloc (World.alloc (World.alloc w (.cells c0 t0)) (.cells c1 t1)) (.cells c2 t2)) := h _ (bl3 _ _ _ _) (((Blk.new _ _ _).alloc _).alloc _) ((Blk.new2 _ _ _ _).alloc _) (Blk.new3 _ _ _ _ _)
end
open Go.RowKit
section
variable {P : Program} {ops : Array Oper} {md : Region.Mode} {C : World → Prop}

def wpAnyQL (P : Program) (md : Region.Mode) (ops : Array Oper) (C : World → Prop) (n : Nat) (L : Array Bool → Act → Prop) : Nat → Array Bool → Act → Prop
 | 0, listed, a => L listed a
 | f + 1, listed, a =>
  Region.ready md ops listed ≠ [] ∧ ∀ i ∈ Region.ready md ops listed, i < n ∧ qOp P ops C i (wpAnyQL P md ops C n L f (listed.setIfInBounds i true)) a

theorem wpAny_of_headQ {n g : Nat} {L : Array Bool → Act → Prop} {Q' : Exit → Act → World → Prop} (hL : ∀ listed a, L listed a → ∀ w, C w → wpAny P md ops Q' g listed a w) :
  ∀ (f : Nat) (listed : Array Bool) (a : Act), wpAnyQL P md ops C n L f listed a → ∀ w, C w → wpAny P md ops Q' (f + g) listed a w
 | 0, listed, a, h => by rw [Nat.zero_add]; exact hL _ _ h
 | f + 1, listed, a, h => fun w hw => by
  rw [show f + 1 + g = (f + g) + 1 by omega]
  exact ⟨fun h0 => absurd h0 h.1, fun i hi => wpOp_of_qOp hw (fun a' w' hw' h' => wpAny_of_headQ hL f _ a' h' w' hw') (h.2 i hi).2⟩

theorem zb137 {p : Prop} (h : p := by
 rcases Nat.lt_or_ge j n with h | h
 ·exact h
 ·exact absurd hj (tail_waits hs hc hn inv _ i rfl hin hun j h)) : p := h
theorem wpAnyQL_first {n i : Nat} {oi : Oper} {v : Value} {L : Array Bool → Act → Prop} (hi : ops[i]? = some oi) (hsel : ∀ (j : Nat) (o : Oper) cs b, ops[j]? = some o → o.op ≠ .select cs b)
  (hs : Region.sinkB md ops n = true) (hc : Region.chainB md ops n = true) (hn : n < ops.size) (hin : i < n)
  (hdone : ∀ listed a, L listed a → ∀ j ∈ Region.ready md ops listed, n ≤ j) :
  ∀ (f : Nat) (listed : Array Bool) (a : Act), HeadInv md ops n listed →
   (∀ j oj, ops[j]? = some oj → j ≠ i → listed.getD j true = false → (∀ e ∈ oj.after, Region.binds md e = true → e.on ≠ i) → oi.apart ops oj = true) →
   i ∈ Region.ready md ops listed → YieldsIn P ops C oi v a →
   wpAnyQL P md ops C n L f (listed.setIfInBounds i true) (a.put oi.dst v) → wpAnyQL P md ops C n L (f + 1) listed a := by
 intro f
 induction f with
 | zero =>
  intro listed a inv _ hr hy H
  have hun := (mem_ready.1 hr).1
  refine ⟨fun h => (by rw [h] at hr; cases hr), fun j hj => ?_⟩
  have hjn : j < n := by
   exact zb137
  refine ⟨hjn, ?_⟩
  by_cases hji : j = i
  ·subst hji; exact hy.qOp hi H
  ·have := hdone _ _ H j (ready_mono hj hji)
   omega
 | succ f ih =>
  intro listed a inv hfree hr hy H
  have hun := (mem_ready.1 hr).1
  refine ⟨fun h => (by rw [h] at hr; cases hr), fun j hj => ?_⟩
  have hjn : j < n := by
   exact zb137
  refine ⟨hjn, ?_⟩
  by_cases hji : j = i
  ·subst hji; exact hy.qOp hi H
  ·have h1 := (H.2 j (ready_mono hj hji)).2
   obtain ⟨hjun, oj, hoj, hall⟩ := mem_ready.1 hj
   have hnot : ∀ e ∈ oj.after, Region.binds md e = true → e.on ≠ i := fun e he hb heq => by
    have h1 := hall e he hb
    rw [heq, getD_both hun] at h1
    cases h1
   have h2 := qOp_put hoj (hfree j oj hoj hji hjun hnot) (fun cs b => hsel i oi cs b hi) (fun cs b => hsel j oj cs b hoj) hy h1; have hfree' : ∀ k ok, ops[k]? = some ok → k ≠ i → (listed.setIfInBounds j true).getD k true = false →
     (∀ e ∈ ok.after, Region.binds md e = true → e.on ≠ i) → oi.apart ops ok = true := fun k ok hk hki hun hno => by
    refine hfree k ok hk hki ?_ hno
    by_cases hjk : j = k
    ·subst hjk; exact hjun
    ·rw [getD_set_ne true hjk] at hun; exact hun
   refine qOp_mono (fun a' h3 => ih (listed.setIfInBounds j true) a' (inv.set hj hjn) hfree' (ready_mono hr (Ne.symm hji)) h3.1 ?_) h2
   rw [Array.setIfInBounds_comm _ _ hji]
   exact h3.2

theorem wpAnyQL_lex {n g : Nat} {Lq : Act → Prop} (hsel : Region.noSelect ops = true) (hs : Region.sinkB md ops n = true) (hc : Region.chainB md ops n = true) (hn : n < ops.size) :
  ∀ (l : List Oper) (k : Nat) (listed : Array Bool) (a : Act), (∀ j, j < l.length → l[j]? = ops[k + j]?) → k + l.length = n → HeadInv md ops n listed →
  Region.lexHead md ops g l.length k listed = true → wpQuiet P ops C Lq l a →
  wpAnyQL P md ops C n (fun listed' a' => Region.seqB md ops g n listed' = true ∧ Lq a') l.length listed a
 | [], k, listed, a, _, hk, _, hB, h => by
  have : k = n := by simpa using hk
  subst this
  exact ⟨by simpa [Region.lexHead] using hB, h⟩
 | o :: l, k, listed, a, hl, hk, inv, hB, h => by
  have h0 : ops[k]? = some o := by simpa using (hl 0 (by simp)).symm
  simp only [List.length_cons, Region.lexHead, Bool.and_eq_true] at hB
  obtain ⟨⟨hr, hf⟩, hB'⟩ := hB
  have hkn : k < n := by simp only [List.length_cons] at hk; omega
  have hr' : k ∈ Region.ready md ops listed := by simpa using hr
  have hst : qOp P ops C k (wpQuiet P ops C Lq l) a := by unfold qOp; simp only [h0]; exact h
  obtain ⟨v, hy, hK⟩ := yieldsIn_of_qOp h0 hst
  exact wpAnyQL_first h0 (Region.noSelect_spec hsel) hs hc hn hkn (fun listed' a' hL => seqB_ready hL.1) l.length listed a inv (Region.free_spec h0 hf) hr' hy
   (wpAnyQL_lex hsel hs hc hn l (k + 1) _ _ (fun j hj => by have := hl (j + 1) (by simp; omega); simpa [Nat.add_assoc, Nat.add_comm 1 j] using this) (by simp only [List.length_cons] at hk; omega) (inv.set hr' hkn) hB' hK)

theorem wp_region_quiet_tail {id : Nat} {Q : Exit → Act → World → Prop} {a : Act} {w : World} {l : List Oper} (n : Nat) (hm : P.follows .mixedOrders = true) (hB : Region.lexTailB .any l.toArray n = true) (hC : C { w with drawn := w.drawn + 1 })
  (h : wpQuiet P l.toArray C (fun a' => ∀ w', C w' → wpList P l.toArray Q (l.drop n) a' w') (l.take n) a) : (Code.region id l.toArray true).wp P Q a w := by
 simp only [Region.lexTailB, Bool.and_eq_true, decide_eq_true_eq] at hB
 obtain ⟨⟨⟨⟨hsel, hn⟩, hs⟩, hc⟩, hlex⟩ := hB
 have hn' : n < l.length := by simpa using hn
 have htl : (l.take n).length = n := by simp; omega
 have hdl : (l.drop n).length = l.toArray.size - n := by simp
 have inv0 : HeadInv .any l.toArray n (Array.replicate l.toArray.size false) :=
  ⟨by simp, fun j oj _ hl => (by rw [getD_replicate_false] at hl; cases hl), fun t _ ht => getD_in (by simpa using ht) (getD_replicate_false _ _)⟩
 have H := wpAnyQL_lex (md := .any) (g := l.toArray.size - n) hsel hs hc hn (l.take n) 0 _ a (fun j hj => by
  have hj' : j < n := by rw [htl] at hj; exact hj
  simp [hj']) (by simpa using htl) inv0 (by rw [htl]; exact hlex) h
 refine wp_region_any hm ?_
 have := wpAny_of_headQ (Q' := Q) (g := l.toArray.size - n) (fun listed a' hL w' hw' => by
  have := wpAny_of_seq (md := .any) (Q' := Q) (l.drop n) n listed a' w' (fun j => by simp [List.getElem?_drop]) (by rw [hdl]; exact hL.1) (hL.2 w' hw')
  rwa [hdl] at this) _ _ _ H _ hC
 rw [htl, show n + (l.toArray.size - n) = l.toArray.size by omega] at this
 exact this

theorem wp_region_kin_tail {id : Nat} {Q : Exit → Act → World → Prop} {a : Act} {w : World} {l : List Oper} (n : Nat) (hm : P.follows .mixedOrders = true) (hB : Region.lexTailB .any l.toArray n = true)
  (h : wpQuiet P l.toArray (fun w' => ∃ k : Kin w.heap.size w, w' = k.world) (fun a' => ∀ k : Kin w.heap.size w, wpList P l.toArray Q (l.drop n) a' k.world) (l.take n) a) : (Code.region id l.toArray true).wp P Q a w :=
 wp_region_quiet_tail (C := fun w' => ∃ k : Kin w.heap.size w, w' = k.world) n hm hB ⟨⟨w.drew, (Below.refl _ _).drew⟩, rfl⟩
  (by
   have e : (fun a' : Act => ∀ k : Kin w.heap.size w, wpList P l.toArray Q (l.drop n) a' k.world) = (fun a' => ∀ w', (∃ k : Kin w.heap.size w, w' = k.world) → wpList P l.toArray Q (l.drop n) a' w') := by
    exact zb148
   rw [e] at h; exact h)
end
end Go.G9
