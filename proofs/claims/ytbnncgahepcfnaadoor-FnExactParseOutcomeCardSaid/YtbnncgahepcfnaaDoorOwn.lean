/- Slices that the call itself has made: what they hold, appends to them, marks in them. -/
import Derived.Test.YtbnncgahepcfnaaDoorBase
import Derived.Laws.AppendOwnNone
namespace Go.G9
open Go.RowKit
/-- The slice value v owns its block, from B on, and holds the elements xs, each as the cells that f gives. -/
def OwnV {T : Type} (B : Nat) (e : TypeId) (sz : Nat) (f : T → List Value) (w : World) (v : Value) (xs : List T) : Prop := w.ownsRow B e sz v xs.length (xs.flatMap f)
section
variable {T : Type} {B : Nat} {e : TypeId} {sz : Nat} {f : T → List Value} {w w' : World} {v : Value} {xs : List T}
theorem flat_len (hf : ∀ y, (f y).length = sz) : ∀ xs : List T, (xs.flatMap f).length = xs.length * sz
  | [] => by simp
  | x :: xs => by rw [List.flatMap_cons, List.length_append, flat_len hf xs, hf, List.length_cons, Nat.add_mul, Nat.one_mul, Nat.add_comm]
theorem flat_get (hf : ∀ y, (f y).length = sz) : ∀ (xs : List T) (i : Nat) (x : T), xs[i]? = some x → ∀ (j : Nat) (u : Value), (f x)[j]? = some u → (xs.flatMap f)[i * sz + j]? = some u
  | [], _, _, h, _, _, _ => by simp at h
  | y :: xs, 0, x, h, j, u, hu => by
    simp at h; subst h
    rw [List.flatMap_cons, List.getElem?_append_left (by have := (List.getElem?_eq_some_iff.1 hu).1; omega), Nat.zero_mul, Nat.zero_add]; exact hu
  | y :: xs, i + 1, x, h, j, u, hu => by
    simp at h
    have h2 := flat_get hf xs i x h j u hu
    rw [List.flatMap_cons, List.getElem?_append_right (by rw [hf, Nat.add_mul]; omega), hf, show (i + 1) * sz + j - sz = i * sz + j from by rw [Nat.add_mul, Nat.one_mul]; omega]
    exact h2
theorem flat_inv (hf : ∀ y, (f y).length = sz) (xs : List T) (k : Nat) (u : Value) (h : (xs.flatMap f)[k]? = some u) : ∃ i j x, xs[i]? = some x ∧ (f x)[j]? = some u ∧ k = i * sz + j := by
  induction xs generalizing k with
  | nil => simp at h
  | cons y xs ih =>
    rw [List.flatMap_cons] at h
    by_cases hk : k < (f y).length
    · rw [List.getElem?_append_left hk] at h
      exact ⟨0, k, y, rfl, h, by omega⟩
    · rw [List.getElem?_append_right (by omega)] at h
      obtain ⟨i, j, x, hx, hj, e⟩ := ih _ h
      exact ⟨i + 1, j, x, by simpa using hx, hj, by rw [Nat.add_mul, Nat.one_mul]; have := hf y; omega⟩
theorem OwnV.nil : OwnV B e sz f w (.slice none 0 0) [] := World.ownsRow_nil _ _ _ _
theorem OwnV.form (h : OwnV B e sz f w v xs) (hf : ∀ y, (f y).length = sz) : ∃ A c, v = .slice A xs.length c ∧ xs.length ≤ c ∧ Rds sz f w A xs ∧ (A = none → xs = []) := by
  obtain ⟨hl, h⟩ := h
  rcases h with ⟨rfl, h0⟩ | ⟨g, cap, cur, rfl, hB, hh, hnc, hcm, hcs, htake⟩
  · have : xs = [] := List.length_eq_zero_iff.1 h0
    subst this
    exact ⟨none, 0, rfl, Nat.le_refl _, Rds.nil, fun _ => rfl⟩
  · refine ⟨some ⟨g, 0, none⟩, cap, rfl, hnc, fun _ => ⟨g, 0, rfl, (Array.getElem?_eq_some_iff.1 hh).1, fun i x hx j u hu => ?_⟩, fun h => by cases h⟩
    have h1 := flat_get hf xs i x hx j u hu
    rw [← htake, List.getElem?_take] at h1
    split at h1
    · rw [Nat.zero_add, cell_of_row w g _ cur e (0, 0) hh]; simpa using h1
    · cases h1
theorem OwnV.rds {A : Option Addr} {n c : Nat} (h : OwnV B e sz f w (.slice A n c) xs) (hf : ∀ y, (f y).length = sz := by intro y; rfl) : Rds sz f w A xs := by
  obtain ⟨A', c', hv, _, hR, _⟩ := h.form hf
  injection hv with h1 h2 h3; subst h1; exact hR
theorem OwnV.below (h : OwnV B e sz f w v xs) {B' : Nat} (hb : Below B' w w') (hlt : ∀ k, v.ownBlock = some k → k < B') : OwnV B e sz f w' v xs := by
  refine ⟨h.1, ?_⟩
  rcases h.2 with hn | ⟨g, cap, cur, rfl, hB, hh, r⟩
  · exact .inl hn
  · exact .inr ⟨g, cap, cur, rfl, hB, by rw [hb.block g (hlt g rfl)]; exact hh, r⟩
theorem OwnV.lt (h : OwnV B e sz f w v xs) : ∀ k, v.ownBlock = some k → B ≤ k ∧ k < w.heap.size := World.ownsRow.lt h
theorem OwnV.later (h : OwnV B e sz f w v xs) (hb : Below w.heap.size w w') : OwnV B e sz f w' v xs := h.below hb (fun k hk => (h.lt k hk).2)
theorem OwnV.alloc (h : OwnV B e sz f w v xs) (o : Obj) : OwnV B e sz f (w.alloc o) v xs := World.ownsRow.alloc h o
theorem OwnV.kept {row : Option Nat} (h : OwnV B e sz f w v xs) (hg : w.grownBy w' row) (hne : ∀ k, v.ownBlock = some k → some k ≠ row) : OwnV B e sz f w' v xs := by
  refine ⟨h.1, ?_⟩
  rcases h.2 with hn | ⟨g, cap, cur, rfl, hB, hh, r⟩
  · exact .inl hn
  · exact .inr ⟨g, cap, cur, rfl, hB, by rw [hg.block g (Array.getElem?_eq_some_iff.1 hh).1 (hne g rfl)]; exact hh, r⟩
theorem OwnV.base {B' : Nat} (h : OwnV B e sz f w v xs) (hB : B' ≤ B) : OwnV B' e sz f w v xs := by
  refine ⟨h.1, ?_⟩
  rcases h.2 with hn | ⟨g, cap, cur, rfl, hg, r⟩
  · exact .inl hn
  · exact .inr ⟨g, cap, cur, rfl, by omega, r⟩
/-- 'make' and a loop that has filled it. -/
theorem OwnV.filled {g : Nat} {cs : Array Value} (hb : Blk w g e cs) (hB : B ≤ g) (hsz : cs.size = xs.length * sz) (hm : xs.length ≤ maxLen) (hF : ∀ i x, xs[i]? = some x → ∀ j u, (f x)[j]? = some u → cs[i * sz + j]? = some u)
    (hf : ∀ y, (f y).length = sz := by intro y; rfl) : OwnV B e sz f w (.slice (some ⟨g, 0, none⟩) xs.length xs.length) xs := by
  refine ⟨flat_len hf xs, .inr ⟨g, xs.length, cs, rfl, hB, hb, Nat.le_refl _, hm, hsz, ?_⟩⟩
  rw [List.take_of_length_le (by simp [hsz])]
  apply List.ext_getElem?
  intro k
  by_cases hk : k < (xs.flatMap f).length
  · obtain ⟨i, j, x, hx, hj, rfl⟩ := flat_inv hf xs k _ (List.getElem?_eq_getElem hk)
    rw [List.getElem?_eq_getElem hk, ← hF i x hx j _ hj]; simp
  · rw [flat_len hf] at hk
    rw [List.getElem?_eq_none (by rw [Array.length_toList]; omega), List.getElem?_eq_none (by rw [flat_len hf]; omega)]
theorem Rds.flat {ad : Addr} {ys : List T} (h : Rds sz f w (some ad) ys) (hf : ∀ y, (f y).length = sz) (j : Nat) (u : Value) (hu : (ys.flatMap f)[j]? = some u) : w.cell? (ad.add j) = some u := by
  obtain ⟨i, j', y, hy, hj, rfl⟩ := flat_inv hf ys j u hu
  obtain ⟨b, off, hA, _, hc⟩ := h (by have := (List.getElem?_eq_some_iff.1 hy).1; omega)
  injection hA with hA; subst hA
  rw [← hc i y hy j' u hj]
  congr 1
  unfold Addr.add
  split <;> simp_all [Nat.add_assoc]
/-- A new block that holds one element, as 'append(out, x)' lays it. -/
theorem Rds.one (x : T) (t : TypeId) : Rds sz f (w.alloc (.cells (f x).toArray t)) (some ⟨w.heap.size, 0, none⟩) [x] := fun _ =>
  ⟨w.heap.size, 0, rfl, by simp, fun i y hy j u hu => by
    have h0 : i = 0 := by have := (List.getElem?_eq_some_iff.1 hy).1; simp at this; omega
    subst h0; simp at hy; subst hy
    rw [Nat.zero_mul, Nat.zero_add]
    exact ((Blk.new w t _).cell j).trans (by simpa using hu)⟩
theorem Rds.alloc {A : Option Addr} (h : Rds sz f w A xs) (o : Obj) : Rds sz f (w.alloc o) A xs := h.below (bl1 w o)
end
section
variable {T : Type} {B : Nat} {e : TypeId} {sz : Nat} {f : T → List Value} {w w' : World} {v : Value} {xs : List T}
theorem OwnV.made (w : World) (hB : B ≤ w.heap.size) (e : TypeId) : OwnV B e sz f (w.alloc (.cells #[] e)) (.slice (some ⟨w.heap.size, 0, none⟩) 0 0) ([] : List T) :=
  World.ownsRow_made w #[] 0 hB (by simp) (by simp)
theorem OwnV.nilOk {A : Option Addr} {n c : Nat} (h : OwnV B e sz f w (.slice A n c) xs) : A = none → xs = [] ∧ c = 0 := by
  rintro rfl
  rcases h.2 with ⟨hv, h0⟩ | ⟨g, cap, cur, hv, _⟩
  · injection hv with _ _ h3; exact ⟨List.length_eq_zero_iff.1 h0, h3⟩
  · injection hv with h1; cases h1
theorem ownsRow_set {n : Nat} {cells : List Value} {g j : Nat} {u : Value} (h : w.ownsRow B e sz v n cells) (hg : v.ownBlock = some g) : (w.setCell ⟨g, j, none⟩ u).ownsRow B e sz v n (cells.set j u) := by
  obtain ⟨hl, h⟩ := h
  refine ⟨by simpa using hl, ?_⟩
  rcases h with ⟨rfl, _⟩ | ⟨g', cap, cur, rfl, hB, hh, hnc, hcm, hcs, htake⟩
  · simp [Value.ownBlock] at hg
  · simp [Value.ownBlock] at hg; subst hg
    refine .inr ⟨g', cap, cur.setIfInBounds j u, rfl, hB, (Blk.set_ (w := w) (g := g') (t := e) (cs := cur) hh j u), hnc, hcm, by simpa using hcs, ?_⟩
    rw [Array.toList_setIfInBounds, ← htake, List.take_set]
theorem ownsRow_cellAt {n : Nat} {cells : List Value} {g j : Nat} (h : w.ownsRow B e sz v n cells) (hg : v.ownBlock = some g) (hj : j < cells.length) : w.cell? ⟨g, j, none⟩ = some cells[j] ∧ w.frozen? ⟨g, j, none⟩ = false := by
  obtain ⟨hl, h⟩ := h
  rcases h with ⟨rfl, _⟩ | ⟨g', cap, cur, rfl, hB, hh, hnc, hcm, hcs, htake⟩
  · simp [Value.ownBlock] at hg
  · simp [Value.ownBlock] at hg; subst hg
    refine ⟨?_, Blk.frozen (w := w) (g := g') (t := e) (cs := cur) hh j⟩
    rw [cell_of_row w g' j cur e (0, 0) hh]
    have h1 : (cur.toList.take (n * sz))[j]? = some cells[j] := by rw [htake]; exact List.getElem?_eq_getElem hj
    rw [List.getElem?_take] at h1
    split at h1
    · simpa using h1
    · cases h1
theorem grown_refl (w : World) (row : Option Nat) : w.grownBy w row := ⟨rfl, rfl, rfl, Nat.le_refl _, fun _ _ _ => rfl⟩
theorem grown_set {a w : World} {g j : Nat} (h : a.grownBy w (some g)) (u : Value) : a.grownBy (w.setCell ⟨g, j, none⟩ u) (some g) :=
  ⟨h.os, h.tape, h.output, by simpa [World.setCell] using h.size, fun i hi hne => (Below.heap_setCell w _ u i (by rintro rfl; exact hne rfl)).trans (h.block i hi hne)⟩
theorem grown_tr {a b c : World} {row : Option Nat} (h : a.grownBy b row) (k : b.grownBy c row) : a.grownBy c row :=
  ⟨k.os.trans h.os, k.tape.trans h.tape, k.output.trans h.output, Nat.le_trans h.size k.size, fun i hi hne => (k.block i (Nat.lt_of_lt_of_le hi h.size) hne).trans (h.block i hi hne)⟩
theorem grown_below {a b : World} {row : Option Nat} {B : Nat} (h : a.grownBy b row) (hB : B ≤ a.heap.size) (hr : ∀ k, row = some k → B ≤ k) : Below B a b := (Below.refl B a).grown h hB hr
theorem below_grown {a b : World} (h : Below a.heap.size a b) (row : Option Nat) : a.grownBy b row := ⟨h.os, h.tape, h.output, h.size, fun i hi _ => h.block i hi⟩
/-- A reading survives writes elsewhere. -/
theorem Rds.grown {A : Option Addr} {row : Option Nat} (h : Rds sz f w A xs) (hg : w.grownBy w' row) (hne : ∀ ad, A = some ad → some ad.block ≠ row) : Rds sz f w' A xs := fun hn => by
  obtain ⟨b, off, hA, hlt, hc⟩ := h hn
  exact ⟨b, off, hA, Nat.lt_of_lt_of_le hlt hg.size, fun i x hx j u hu => (World.cell?_of_block (hg.block b hlt (hne _ hA))).trans (hc i x hx j u hu)⟩
def markTo (k : Int) (xs : List Int) (i : Nat) : List Int := xs.mapIdx (fun j x => if j < i then k + j else x)
theorem markTo_zero (k : Int) (xs : List Int) : markTo k xs 0 = xs := by
  apply List.ext_getElem?
  intro j
  simp only [markTo, List.getElem?_mapIdx]
  cases xs[j]? <;> simp
theorem markTo_len (k : Int) (xs : List Int) (i : Nat) : (markTo k xs i).length = xs.length := by simp [markTo]
theorem markTo_set (k : Int) (xs : List Int) (i : Nat) : (markTo k xs i).set i (k + i) = markTo k xs (i + 1) := by
  apply List.ext_getElem?
  intro j
  simp only [markTo, List.getElem?_set, List.getElem?_mapIdx, List.length_mapIdx]
  by_cases hij : i = j
  · subst hij
    by_cases hl : i < xs.length
    · simp [hl]
    · simp [hl]
  · rw [if_neg hij]
    cases xs[j]? with
    | none => simp
    | some x => simp only [Option.map_some, Option.some.injEq]; split <;> split <;> first | rfl | omega
theorem markTo_at {k : Int} {xs : List Int} {j : Nat} {x : Int} (h : (markTo k xs xs.length)[j]? = some x) : x = k + j := by
  simp only [markTo, List.getElem?_mapIdx] at h
  cases hx : xs[j]? with
  | none => rw [hx] at h; simp at h
  | some y => rw [hx] at h; have := (List.getElem?_eq_some_iff.1 hx).1; simp [this] at h; exact h.symm
end
/-- 'append(s, x...)', s of the call's own, x whatever slice: nil, empty or not. -/
theorem wpList_app {P : Program} {w : World} {ops : Array Oper} {rest : List Oper} {o : Oper} {a : Act} {Q : Exit → Act → World → Prop} (hgd : o.guard = none) (s x : Operand) (t : TypeId)
    (ho : o.op = .call { callee := .builtin .append, args := #[s, x], argTypes := #[t, t] })
    (B : Nat) (e : TypeId) (i : TypeInfo) (z : Value) (sz bytes : Nat) (ht : P.underlying t = some (.slice e)) (hi : P.info? e = some i) (hz : i.zero = some z)
    (hsize : i.size = sz) (hby : i.bytes = bytes) (hzs : z.cells.size = sz) (hsz : 0 < sz) {T : Type} (f : T → List Value) (hf : ∀ y, (f y).length = sz) (hone : ∀ y u, u ∈ f y → u.oneCell' = true)
    (v : Value) (xs : List T) (hs : a.eval s = v) (hown : OwnV B e sz f w v xs) (A2 : Option Addr) (c2 : Nat) (ys : List T) (hx : a.eval x = .slice A2 ys.length c2) (hR : Rds sz f w A2 ys)
    (hA : A2 = none → ys = [] ∧ c2 = 0) (h63 : xs.length + ys.length ≤ maxLen) (hbytes : (xs.length + ys.length) * bytes ≤ 140737488355328) (hbase : B ≤ w.heap.size)
    (h : ∀ v' w', OwnV B e sz f w' v' (xs ++ ys) → w.grownBy w' v.ownBlock → wpList P ops Q rest (a.put o.dst v') w') : wpList P ops Q (o :: rest) a w := by
  cases A2 with
  | some ad =>
    refine wpList_append_own w hgd s x t ho B e i z sz bytes ht hi hz hsize hby hzs hsz v xs.length (xs.flatMap f) hs hown ad ys.length c2 (ys.flatMap f) hx (flat_len hf ys) (fun j u hu => Rds.flat hR hf j u hu)
      (fun u hu => by obtain ⟨y, _, hy⟩ := List.mem_flatMap.1 hu; exact hone y u hy) h63 hbytes hbase (fun v' w' h1 h2 _ => h v' w' ?_ h2)
    unfold OwnV; rw [List.length_append, List.flatMap_append]; exact h1
  | none =>
    obtain ⟨rfl, rfl⟩ := hA rfl
    exact wpList_append_own_none hgd s x t ho B e i sz ht hi v xs.length (xs.flatMap f) hs hown hx (h v w (by simpa using hown) ⟨rfl, rfl, rfl, Nat.le_refl _, fun _ _ _ => rfl⟩)

/-! A region that does not draw, walked as a quiet one: its callees may make memory, each answers one value. -/
theorem wpList_of_quiet {P : Program} {ops : Array Oper} {C : World → Prop} {F : Act → Prop} {Q : Exit → Act → World → Prop} (hF : ∀ a w, C w → F a → Q .normal a w) :
    ∀ (l : List Oper) (a : Act) (w : World), C w → wpQuiet P ops C F l a → wpList P ops Q l a w
  | [], a, w, hw, h => hF a w hw h
  | o :: rest, a, w, hw, h => by
    unfold wpQuiet at h
    unfold wpList
    split
    · rename_i hg; rw [if_pos hg] at h
      exact .inl (Oper.wp_of_quiet hw (fun a' w' hw' hK => wpList_of_quiet hF rest a' w' hw' hK) h)
    · rename_i hg; rw [if_neg hg] at h
      exact wpList_of_quiet hF rest _ w hw h
theorem wp_region_seq {P : Program} {id : Nat} {Q : Exit → Act → World → Prop} {a : Act} {w : World} {l : List Oper}
    (h : wpQuiet P l.toArray (fun w' => ∃ k : Kin w.heap.size w, w' = k.world) (fun a' => ∀ k : Kin w.heap.size w, Q .normal a' k.world) l a) : (Code.region id l.toArray false).wp P Q a w :=
  wp_region_lit (wpList_of_quiet (C := fun w' => ∃ k : Kin w.heap.size w, w' = k.world) (F := fun a' => ∀ k : Kin w.heap.size w, Q .normal a' k.world) (fun _ _ ⟨k, hk⟩ hF => hk ▸ hF k) l a w ⟨Kin.self w, rfl⟩ h)
end Go.G9
