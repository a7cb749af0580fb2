/- Slices that the call itself has made: what they hold, appends to them, marks in them. -/
import Derived.Test.YtbnncgahepcfnaaGreatDoorRl0
import Derived.Laws.AppendOwnNone
import Derived.Test.YtbnncgahepcfnaaGreatDoorRl3
import Derived.Lib.SlBytesRow
import Derived.Test.YtbnncgahepcfnaaGreatDoorProg
import Derived.Test.YtbnncgahepcfnaaGreatDoorRl5
namespace Go.G9
open Go.RowKit
/-- The slice value v owns its block, from B on, and holds the elements xs, each as the cells that f gives. -/
def OwnV {T : Type} (B : Nat) (e : TypeId) (sz : Nat) (f : T → List Value) (w : World) (v : Value) (xs : List T) : Prop := w.ownsRow B e sz v xs.length (xs.flatMap f)
section
variable {T : Type} {B : Nat} {e : TypeId} {sz : Nat} {f : T → List Value} {w w' : World} {v : Value} {xs : List T}
theorem flat_len (hf : ∀ y, (f y).length = sz) : ∀ xs : List T, (xs.flatMap f).length = xs.length * sz
  | [] => by simp
  | x :: xs => by rw [List.flatMap_cons, List.length_append, flat_len hf xs, hf, List.length_cons, Nat.add_mul, Nat.one_mul, Nat.add_comm]
theorem flat_get (hf : ∀ y, (f y).length = sz) : ∀ (xs : List T) (i : Nat) (x : T), xs[i]? = some x → ∀ (j : Nat) (u : Value), (f x)[j]? = some u → (xs.flatMap f)[i * sz + j]? = some u
  | [], _, _, h, _, _, _ => by simp at h
  | y :: xs, 0, x, h, j, u, hu => by
    simp at h; subst h
    rw [List.flatMap_cons, List.getElem?_append_left (by have := (List.getElem?_eq_some_iff.1 hu).1; omega), Nat.zero_mul, Nat.zero_add]; exact hu
  | y :: xs, i + 1, x, h, j, u, hu => by
    simp at h
    have h2 := flat_get hf xs i x h j u hu
    rw [List.flatMap_cons, List.getElem?_append_right (by rw [hf, Nat.add_mul]; omega), hf, show (i + 1) * sz + j - sz = i * sz + j from by rw [Nat.add_mul, Nat.one_mul]; omega]
    exact h2
theorem flat_inv (hf : ∀ y, (f y).length = sz) (xs : List T) (k : Nat) (u : Value) (h : (xs.flatMap f)[k]? = some u) : ∃ i j x, xs[i]? = some x ∧ (f x)[j]? = some u ∧ k = i * sz + j := by
  induction xs generalizing k with
  | nil => simp at h
  | cons y xs ih =>
    rw [List.flatMap_cons] at h
    by_cases hk : k < (f y).length
    · rw [List.getElem?_append_left hk] at h
      exact ⟨0, k, y, rfl, h, by omega⟩
    · rw [List.getElem?_append_right (by omega)] at h
      obtain ⟨i, j, x, hx, hj, e⟩ := ih _ h
      exact ⟨i + 1, j, x, by simpa using hx, hj, by rw [Nat.add_mul, Nat.one_mul]; have := hf y; omega⟩
theorem OwnV.nil : OwnV B e sz f w (.slice none 0 0) [] := World.ownsRow_nil _ _ _ _
theorem OwnV.form (h : OwnV B e sz f w v xs) (hf : ∀ y, (f y).length = sz) : ∃ A c, v = .slice A xs.length c ∧ xs.length ≤ c ∧ Rds sz f w A xs ∧ (A = none → xs = []) := by
  obtain ⟨hl, h⟩ := h
  rcases h with ⟨rfl, h0⟩ | ⟨g, cap, cur, rfl, hB, hh, hnc, hcm, hcs, htake⟩
  · have : xs = [] := List.length_eq_zero_iff.1 h0
    subst this
    exact ⟨none, 0, rfl, Nat.le_refl _, Rds.nil, fun _ => rfl⟩
  · refine ⟨some ⟨g, 0, none⟩, cap, rfl, hnc, fun _ => ⟨g, 0, rfl, (Array.getElem?_eq_some_iff.1 hh).1, fun i x hx j u hu => ?_⟩, fun h => by cases h⟩
    have h1 := flat_get hf xs i x hx j u hu
    rw [← htake, List.getElem?_take] at h1
    split at h1
    · rw [Nat.zero_add, cell_of_row w g _ cur e (0, 0) hh]; simpa using h1
    · cases h1
theorem OwnV.rds {A : Option Addr} {n c : Nat} (h : OwnV B e sz f w (.slice A n c) xs) (hf : ∀ y, (f y).length = sz := by intro y; rfl) : Rds sz f w A xs := by
  obtain ⟨A', c', hv, _, hR, _⟩ := h.form hf
  injection hv with h1 h2 h3; subst h1; exact hR
theorem OwnV.below (h : OwnV B e sz f w v xs) {B' : Nat} (hb : Below B' w w') (hlt : ∀ k, v.ownBlock = some k → k < B') : OwnV B e sz f w' v xs := by
  refine ⟨h.1, ?_⟩
  rcases h.2 with hn | ⟨g, cap, cur, rfl, hB, hh, r⟩
  · exact .inl hn
  · exact .inr ⟨g, cap, cur, rfl, hB, by rw [hb.block g (hlt g rfl)]; exact hh, r⟩
theorem OwnV.lt (h : OwnV B e sz f w v xs) : ∀ k, v.ownBlock = some k → B ≤ k ∧ k < w.heap.size := World.ownsRow.lt h
theorem OwnV.later (h : OwnV B e sz f w v xs) (hb : Below w.heap.size w w') : OwnV B e sz f w' v xs := h.below hb (fun k hk => (h.lt k hk).2)
theorem OwnV.alloc (h : OwnV B e sz f w v xs) (o : Obj) : OwnV B e sz f (w.alloc o) v xs := World.ownsRow.alloc h o
theorem OwnV.kept {row : Option Nat} (h : OwnV B e sz f w v xs) (hg : w.grownBy w' row) (hne : ∀ k, v.ownBlock = some k → some k ≠ row) : OwnV B e sz f w' v xs := by
  refine ⟨h.1, ?_⟩
  rcases h.2 with hn | ⟨g, cap, cur, rfl, hB, hh, r⟩
  · exact .inl hn
  · exact .inr ⟨g, cap, cur, rfl, hB, by rw [hg.block g (Array.getElem?_eq_some_iff.1 hh).1 (hne g rfl)]; exact hh, r⟩
theorem OwnV.base {B' : Nat} (h : OwnV B e sz f w v xs) (hB : B' ≤ B) : OwnV B' e sz f w v xs := by
  refine ⟨h.1, ?_⟩
  rcases h.2 with hn | ⟨g, cap, cur, rfl, hg, r⟩
  · exact .inl hn
  · exact .inr ⟨g, cap, cur, rfl, by omega, r⟩
/-- 'make' and a loop that has filled it. -/
theorem OwnV.filled {g : Nat} {cs : Array Value} (hb : Blk w g e cs) (hB : B ≤ g) (hsz : cs.size = xs.length * sz) (hm : xs.length ≤ maxLen) (hF : ∀ i x, xs[i]? = some x → ∀ j u, (f x)[j]? = some u → cs[i * sz + j]? = some u)
    (hf : ∀ y, (f y).length = sz := by intro y; rfl) : OwnV B e sz f w (.slice (some ⟨g, 0, none⟩) xs.length xs.length) xs := by
  refine ⟨flat_len hf xs, .inr ⟨g, xs.length, cs, rfl, hB, hb, Nat.le_refl _, hm, hsz, ?_⟩⟩
  rw [List.take_of_length_le (by simp [hsz])]
  apply List.ext_getElem?
  intro k
  by_cases hk : k < (xs.flatMap f).length
  · obtain ⟨i, j, x, hx, hj, rfl⟩ := flat_inv hf xs k _ (List.getElem?_eq_getElem hk)
    rw [List.getElem?_eq_getElem hk, ← hF i x hx j _ hj]; simp
  · rw [flat_len hf] at hk
    rw [List.getElem?_eq_none (by rw [Array.length_toList]; omega), List.getElem?_eq_none (by rw [flat_len hf]; omega)]
theorem Rds.flat {ad : Addr} {ys : List T} (h : Rds sz f w (some ad) ys) (hf : ∀ y, (f y).length = sz) (j : Nat) (u : Value) (hu : (ys.flatMap f)[j]? = some u) : w.cell? (ad.add j) = some u := by
  obtain ⟨i, j', y, hy, hj, rfl⟩ := flat_inv hf ys j u hu
  obtain ⟨b, off, hA, _, hc⟩ := h (by have := (List.getElem?_eq_some_iff.1 hy).1; omega)
  injection hA with hA; subst hA
  rw [← hc i y hy j' u hj]
  congr 1
  unfold Addr.add
  split <;> simp_all [Nat.add_assoc]
/-- A new block that holds one element, as 'append(out, x)' lays it. -/
theorem Rds.one (x : T) (t : TypeId) : Rds sz f (w.alloc (.cells (f x).toArray t)) (some ⟨w.heap.size, 0, none⟩) [x] := fun _ =>
  ⟨w.heap.size, 0, rfl, by simp, fun i y hy j u hu => by
    have h0 : i = 0 := by have := (List.getElem?_eq_some_iff.1 hy).1; simp at this; omega
    subst h0; simp at hy; subst hy
    rw [Nat.zero_mul, Nat.zero_add]
    exact ((Blk.new w t _).cell j).trans (by simpa using hu)⟩
theorem Rds.alloc {A : Option Addr} (h : Rds sz f w A xs) (o : Obj) : Rds sz f (w.alloc o) A xs := h.below (bl1 w o)
end
section
variable {T : Type} {B : Nat} {e : TypeId} {sz : Nat} {f : T → List Value} {w w' : World} {v : Value} {xs : List T}
theorem OwnV.made (w : World) (hB : B ≤ w.heap.size) (e : TypeId) : OwnV B e sz f (w.alloc (.cells #[] e)) (.slice (some ⟨w.heap.size, 0, none⟩) 0 0) ([] : List T) :=
  World.ownsRow_made w #[] 0 hB (by simp) (by simp)
theorem OwnV.nilOk {A : Option Addr} {n c : Nat} (h : OwnV B e sz f w (.slice A n c) xs) : A = none → xs = [] ∧ c = 0 := by
  rintro rfl
  rcases h.2 with ⟨hv, h0⟩ | ⟨g, cap, cur, hv, _⟩
  · injection hv with _ _ h3; exact ⟨List.length_eq_zero_iff.1 h0, h3⟩
  · injection hv with h1; cases h1
theorem ownsRow_set {n : Nat} {cells : List Value} {g j : Nat} {u : Value} (h : w.ownsRow B e sz v n cells) (hg : v.ownBlock = some g) : (w.setCell ⟨g, j, none⟩ u).ownsRow B e sz v n (cells.set j u) := by
  obtain ⟨hl, h⟩ := h
  refine ⟨by simpa using hl, ?_⟩
  rcases h with ⟨rfl, _⟩ | ⟨g', cap, cur, rfl, hB, hh, hnc, hcm, hcs, htake⟩
  · simp [Value.ownBlock] at hg
  · simp [Value.ownBlock] at hg; subst hg
    refine .inr ⟨g', cap, cur.setIfInBounds j u, rfl, hB, (Blk.set_ (w := w) (g := g') (t := e) (cs := cur) hh j u), hnc, hcm, by simpa using hcs, ?_⟩
    rw [Array.toList_setIfInBounds, ← htake, List.take_set]
theorem ownsRow_cellAt {n : Nat} {cells : List Value} {g j : Nat} (h : w.ownsRow B e sz v n cells) (hg : v.ownBlock = some g) (hj : j < cells.length) : w.cell? ⟨g, j, none⟩ = some cells[j] ∧ w.frozen? ⟨g, j, none⟩ = false := by
  obtain ⟨hl, h⟩ := h
  rcases h with ⟨rfl, _⟩ | ⟨g', cap, cur, rfl, hB, hh, hnc, hcm, hcs, htake⟩
  · simp [Value.ownBlock] at hg
  · simp [Value.ownBlock] at hg; subst hg
    refine ⟨?_, Blk.frozen (w := w) (g := g') (t := e) (cs := cur) hh j⟩
    rw [cell_of_row w g' j cur e (0, 0) hh]
    have h1 : (cur.toList.take (n * sz))[j]? = some cells[j] := by rw [htake]; exact List.getElem?_eq_getElem hj
    rw [List.getElem?_take] at h1
    split at h1
    · simpa using h1
    · cases h1
theorem grown_refl (w : World) (row : Option Nat) : w.grownBy w row := ⟨rfl, rfl, rfl, Nat.le_refl _, fun _ _ _ => rfl⟩
theorem grown_set {a w : World} {g j : Nat} (h : a.grownBy w (some g)) (u : Value) : a.grownBy (w.setCell ⟨g, j, none⟩ u) (some g) :=
  ⟨h.os, h.tape, h.output, by simpa [World.setCell] using h.size, fun i hi hne => (Below.heap_setCell w _ u i (by rintro rfl; exact hne rfl)).trans (h.block i hi hne)⟩
theorem grown_tr {a b c : World} {row : Option Nat} (h : a.grownBy b row) (k : b.grownBy c row) : a.grownBy c row :=
  ⟨k.os.trans h.os, k.tape.trans h.tape, k.output.trans h.output, Nat.le_trans h.size k.size, fun i hi hne => (k.block i (Nat.lt_of_lt_of_le hi h.size) hne).trans (h.block i hi hne)⟩
theorem grown_below {a b : World} {row : Option Nat} {B : Nat} (h : a.grownBy b row) (hB : B ≤ a.heap.size) (hr : ∀ k, row = some k → B ≤ k) : Below B a b := (Below.refl B a).grown h hB hr
theorem below_grown {a b : World} (h : Below a.heap.size a b) (row : Option Nat) : a.grownBy b row := ⟨h.os, h.tape, h.output, h.size, fun i hi _ => h.block i hi⟩
/-- A reading survives writes elsewhere. -/
theorem Rds.grown {A : Option Addr} {row : Option Nat} (h : Rds sz f w A xs) (hg : w.grownBy w' row) (hne : ∀ ad, A = some ad → some ad.block ≠ row) : Rds sz f w' A xs := fun hn => by
  obtain ⟨b, off, hA, hlt, hc⟩ := h hn
  exact ⟨b, off, hA, Nat.lt_of_lt_of_le hlt hg.size, fun i x hx j u hu => (World.cell?_of_block (hg.block b hlt (hne _ hA))).trans (hc i x hx j u hu)⟩
def markTo (k : Int) (xs : List Int) (i : Nat) : List Int := xs.mapIdx (fun j x => if j < i then k + j else x)
theorem markTo_zero (k : Int) (xs : List Int) : markTo k xs 0 = xs := by
  apply List.ext_getElem?
  intro j
  simp only [markTo, List.getElem?_mapIdx]
  cases xs[j]? <;> simp
theorem markTo_len (k : Int) (xs : List Int) (i : Nat) : (markTo k xs i).length = xs.length := by simp [markTo]
theorem markTo_set (k : Int) (xs : List Int) (i : Nat) : (markTo k xs i).set i (k + i) = markTo k xs (i + 1) := by
  apply List.ext_getElem?
  intro j
  simp only [markTo, List.getElem?_set, List.getElem?_mapIdx, List.length_mapIdx]
  by_cases hij : i = j
  · subst hij
    by_cases hl : i < xs.length
    · simp [hl]
    · simp [hl]
  · rw [if_neg hij]
    cases xs[j]? with
    | none => simp
    | some x => simp only [Option.map_some, Option.some.injEq]; split <;> split <;> first | rfl | omega
theorem markTo_at {k : Int} {xs : List Int} {j : Nat} {x : Int} (h : (markTo k xs xs.length)[j]? = some x) : x = k + j := by
  simp only [markTo, List.getElem?_mapIdx] at h
  cases hx : xs[j]? with
  | none => rw [hx] at h; simp at h
  | some y => rw [hx] at h; have := (List.getElem?_eq_some_iff.1 hx).1; simp [this] at h; exact h.symm
end
/-- 'append(s, x...)', s of the call's own, x whatever slice: nil, empty or not. -/
theorem wpList_app {P : Program} {w : World} {ops : Array Oper} {rest : List Oper} {o : Oper} {a : Act} {Q : Exit → Act → World → Prop} (hgd : o.guard = none) (s x : Operand) (t : TypeId)
    (ho : o.op = .call { callee := .builtin .append, args := #[s, x], argTypes := #[t, t] })
    (B : Nat) (e : TypeId) (i : TypeInfo) (z : Value) (sz bytes : Nat) (ht : P.underlying t = some (.slice e)) (hi : P.info? e = some i) (hz : i.zero = some z)
    (hsize : i.size = sz) (hby : i.bytes = bytes) (hzs : z.cells.size = sz) (hsz : 0 < sz) {T : Type} (f : T → List Value) (hf : ∀ y, (f y).length = sz) (hone : ∀ y u, u ∈ f y → u.oneCell' = true)
    (v : Value) (xs : List T) (hs : a.eval s = v) (hown : OwnV B e sz f w v xs) (A2 : Option Addr) (c2 : Nat) (ys : List T) (hx : a.eval x = .slice A2 ys.length c2) (hR : Rds sz f w A2 ys)
    (hA : A2 = none → ys = [] ∧ c2 = 0) (h63 : xs.length + ys.length ≤ maxLen) (hbytes : (xs.length + ys.length) * bytes ≤ 140737488355328) (hbase : B ≤ w.heap.size)
    (h : ∀ v' w', OwnV B e sz f w' v' (xs ++ ys) → w.grownBy w' v.ownBlock → wpList P ops Q rest (a.put o.dst v') w') : wpList P ops Q (o :: rest) a w := by
  cases A2 with
  | some ad =>
    refine wpList_append_own w hgd s x t ho B e i z sz bytes ht hi hz hsize hby hzs hsz v xs.length (xs.flatMap f) hs hown ad ys.length c2 (ys.flatMap f) hx (flat_len hf ys) (fun j u hu => Rds.flat hR hf j u hu)
      (fun u hu => by obtain ⟨y, _, hy⟩ := List.mem_flatMap.1 hu; exact hone y u hy) h63 hbytes hbase (fun v' w' h1 h2 _ => h v' w' ?_ h2)
    unfold OwnV; rw [List.length_append, List.flatMap_append]; exact h1
  | none =>
    obtain ⟨rfl, rfl⟩ := hA rfl
    exact wpList_append_own_none hgd s x t ho B e i sz ht hi v xs.length (xs.flatMap f) hs hown hx (h v w (by simpa using hown) ⟨rfl, rfl, rfl, Nat.le_refl _, fun _ _ _ => rfl⟩)

/-! A region that does not draw, walked as a quiet one: its callees may make memory, each answers one value. -/
theorem wpList_of_quiet {P : Program} {ops : Array Oper} {C : World → Prop} {F : Act → Prop} {Q : Exit → Act → World → Prop} (hF : ∀ a w, C w → F a → Q .normal a w) :
    ∀ (l : List Oper) (a : Act) (w : World), C w → wpQuiet P ops C F l a → wpList P ops Q l a w
  | [], a, w, hw, h => hF a w hw h
  | o :: rest, a, w, hw, h => by
    unfold wpQuiet at h
    unfold wpList
    split
    · rename_i hg; rw [if_pos hg] at h
      exact .inl (Oper.wp_of_quiet hw (fun a' w' hw' hK => wpList_of_quiet hF rest a' w' hw' hK) h)
    · rename_i hg; rw [if_neg hg] at h
      exact wpList_of_quiet hF rest _ w hw h
theorem wp_region_seq {P : Program} {id : Nat} {Q : Exit → Act → World → Prop} {a : Act} {w : World} {l : List Oper}
    (h : wpQuiet P l.toArray (fun w' => ∃ k : Kin w.heap.size w, w' = k.world) (fun a' => ∀ k : Kin w.heap.size w, Q .normal a' k.world) l a) : (Code.region id l.toArray false).wp P Q a w :=
  wp_region_lit (wpList_of_quiet (C := fun w' => ∃ k : Kin w.heap.size w, w' = k.world) (F := fun a' => ∀ k : Kin w.heap.size w, Q .normal a' k.world) (fun _ _ ⟨k, hk⟩ hF => hk ▸ hF k) l a w ⟨Kin.self w, rfl⟩ h)
end Go.G9
/- The text that stands for a mark. -/
namespace Go.Proofs.YtbnncgahepcfnaaGreatDoor
open Go.RowKit Go.G9
theorem flat_set {T : Type} {f : T → List Value} {sz : Nat} (hf : ∀ y, (f y).length = sz) : ∀ (xs : List T) (i : Nat) (x y : T) (j : Nat) (u : Value), xs[i]? = some x → f y = (f x).set j u → j < sz → (xs.flatMap f).set (i * sz + j) u = (xs.set i y).flatMap f
  | [], i, x, y, j, u, h, _, _ => by simp at h
  | a :: xs, 0, x, y, j, u, h, hy, hj => by
    simp at h; subst h
    simp only [List.flatMap_cons, List.set_cons_zero, Nat.zero_mul, Nat.zero_add, hy]
    rw [List.set_append_left _ _ (by rw [hf]; exact hj)]
  | a :: xs, i + 1, x, y, j, u, h, hy, hj => by
    have ih := flat_set hf xs i x y j u (by simpa using h) hy hj
    simp only [List.flatMap_cons, List.set_cons_succ]
    rw [List.set_append_right _ _ (by rw [hf, Nat.succ_mul]; omega), hf, show (i + 1) * sz + j - sz = i * sz + j by rw [Nat.succ_mul]; omega, ih]
theorem OwnV.setF {T : Type} {f : T → List Value} {B sz : Nat} {e : TypeId} {w : World} {v : Value} {xs : List T} {g : Nat} (hO : OwnV B e sz f w v xs) (hg : v.ownBlock = some g) (hf : ∀ y, (f y).length = sz) {i j : Nat} {x y : T} {u : Value} (hx : xs[i]? = some x) (hy : f y = (f x).set j u) (hj : j < sz) :
    OwnV B e sz f (w.setCell ⟨g, i * sz + j, none⟩ u) v (xs.set i y) := by
  have h := ownsRow_set (j := i * sz + j) (u := u) hO hg
  rw [flat_set hf xs i x y j u hx hy hj] at h
  unfold OwnV
  rw [List.length_set]
  exact h
def markD (k : Nat) : ByteArray := if _h : k = 0 then ⟨#[]⟩ else markD (k / 10) ++ ⟨#[48 + UInt8.ofNat (k % 10)]⟩
termination_by k
decreasing_by omega
def markS (k : Nat) : ByteArray := ⟨#[109]⟩ ++ markD k
end Go.Proofs.YtbnncgahepcfnaaGreatDoor
/- slices.IndexFunc and its kin, at the instances that the program uses. -/
namespace Go.Proofs.YtbnncgahepcfnaaGreatDoor
open Go.RowKit Go.G9
end Go.Proofs.YtbnncgahepcfnaaGreatDoor
/- Lists of numbers: rising ones, membership, copies, marks. -/
namespace Go.Proofs.YtbnncgahepcfnaaGreatDoor
open Go.RowKit Go.G9
def ascStep (xs : List Int) (lo hi : Int) : Nat → Bool
  | 0 => match xs[0]? with | some x => inB x lo hi | none => true
  | j + 1 => match xs[j]?, xs[j+1]? with | some y, some x => inB x lo hi && decide (y < x) | _, _ => true
def ascB (xs : List Int) (lo hi : Int) : Bool := allTo (ascStep xs lo hi) xs.length
def hasB (xs : List Int) (n : Int) : Bool := xs.any (fun x => x == n)
theorem hasB_yes {xs : List Int} {n x : Int} {k : Nat} (hx : xs[k]? = some x) (h : x = n) : hasB xs n = true := by
  subst h; exact List.any_eq_true.2 ⟨x, List.mem_of_getElem? hx, by simp⟩
theorem hasB_no {xs : List Int} {n : Int} (h : allTo (fun i => !atB (fun x => x == n) xs i) xs.length = true) : hasB xs n = false := by
  have := idxB_ge (fun x => x == n) xs
  rw [idxB_none h] at this
  exact this.symm
end Go.Proofs.YtbnncgahepcfnaaGreatDoor
/- Lists of numbers: copies, comparisons, marks. -/
namespace Go.Proofs.YtbnncgahepcfnaaGreatDoor
open Go.RowKit Go.G9
theorem info_int : (Tryz.prog.info? 3).map (fun i => (i.zero, i.size, i.bytes)) = some (some (.int .i64 0), 1, 8) := by kernel_rfl
theorem intC_len (y : Int) : (intC y).length = 1 := rfl
theorem intC_one (y : Int) (u : Value) (h : u ∈ intC y) : u.oneCell' = true := by simp [intC] at h; subst h; rfl
theorem intC_flat (xs : List Int) : xs.flatMap intC = xs.map (Value.int .i64) := by induction xs with
  | nil => rfl
  | cons x xs ih => simp [intC, ih]
end Go.Proofs.YtbnncgahepcfnaaGreatDoor
/- Notices: validity of a notice and of a list of notices, copied, counted and compared. -/
namespace Go.Proofs.YtbnncgahepcfnaaGreatDoor
open Go.RowKit Go.G9
structure Ntc where
  id : Int
  topic : ByteArray
  given : Int
  days : Int
  ok : topic.size ≤ maxLen
def Ntc.cells (n : Ntc) : List Value := [.int .i64 n.id, .string n.topic, .int .i64 n.given, .int .i64 n.days]
def noticeB (n : Ntc) : Bool := inB n.id 1 99 && (wordB n.topic && (inB n.given 0 3650 && inB n.days 0 60))
def ntcStep (xs : List Ntc) : Nat → Bool
  | 0 => match xs[0]? with | some x => noticeB x | none => true
  | j + 1 => match xs[j]?, xs[j+1]? with | some y, some x => noticeB x && decide (y.id < x.id) | _, _ => true
def noticesB (xs : List Ntc) : Bool := allTo (ntcStep xs) xs.length && decide (xs.length ≤ 10)

theorem isNotice_is (id g d : Int) (s : ByteArray) (hs : s.size ≤ maxLen) (v : Bool) (hv : noticeB ⟨id, s, g, d, hs⟩ = v) (w : World) :
  Calls Tryz.prog 60 #[.agg #[.int .i64 id, .string s, .int .i64 g, .int .i64 d]] w fun e w' => e = .returned (.bool v) ∧ Below w.heap.size w w' := by
  subst hv
  go_enter Tryz.func60, Tryz.ntmps60
  go_wp2_with (first | (go_at_call 98; refine (inside_is _ _ _ _ rfl _).mono ?_; rintro e w' ⟨rfl, rfl⟩) | (go_at_call 72; refine (isDay_is _ _ rfl _).mono ?_; rintro e w' ⟨rfl, rfl⟩) | (go_at_call 83; refine (isWord_is _ hs _ rfl _).mono ?_; rintro e w' ⟨rfl, rfl⟩))
  all_goals go_ret
  all_goals exact ⟨by simp [noticeB, *], (Below.refl _ _).alloc (Nat.le_refl _) _⟩
theorem l24One_is (id g d : Int) (s : ByteArray) (hs : s.size ≤ maxLen) (v : Bool) (hv : noticeB ⟨id, s, g, d, hs⟩ = v) (w : World) :
  Calls Tryz.prog 62 #[.agg #[.int .i64 id, .string s, .int .i64 g, .int .i64 d]] w fun e w' => e = .returned (.bool v) ∧ Below w.heap.size w w' := by
  subst hv
  go_enter Tryz.func62, Tryz.ntmps62
  go_wp2_with (first | (go_at_call 100; refine (l1In_is _ _ _ _ rfl _).mono ?_; rintro e w' ⟨rfl, rfl⟩) | (go_at_call 71; refine (l24Day_is _ _ rfl _).mono ?_; rintro e w' ⟨rfl, rfl⟩) | (go_at_call 89; refine (l2Word_is _ hs _ rfl _).mono ?_; rintro e w' ⟨rfl, rfl⟩))
  all_goals go_ret
  all_goals exact ⟨by simp [noticeB, *], (Below.refl _ _).alloc (Nat.le_refl _) _⟩
end Go.Proofs.YtbnncgahepcfnaaGreatDoor
/- The text of a notice. -/
namespace Go.Proofs.YtbnncgahepcfnaaGreatDoor
open Go.RowKit Go.G9
def Ntc.head (n : Ntc) : ByteArray := (⟨#[110, 111, 116, 105, 99, 101, 32]⟩ : ByteArray) ++ numS n.id ++ (⟨#[58, 32]⟩ : ByteArray) ++ n.topic ++ (⟨#[32, 103, 105, 118, 101, 110, 32, 111, 110, 32, 100, 97, 121, 32]⟩ : ByteArray) ++ numS n.given ++ (⟨#[44, 32]⟩ : ByteArray) ++ numS n.days
def Ntc.txt (n : Ntc) : ByteArray := if n.days = 1 then n.head ++ (⟨#[32, 100, 97, 121]⟩ : ByteArray) else n.head ++ (⟨#[32, 100, 97, 121, 115]⟩ : ByteArray)
theorem noticeB_bd {n : Ntc} (h : noticeB n = true) : 1 ≤ n.id ∧ n.id ≤ 99 ∧ n.topic.size ≤ 10 ∧ 0 ≤ n.given ∧ n.given ≤ 3650 ∧ 0 ≤ n.days ∧ n.days ≤ 60 := by
  simp [noticeB, wordB, inB] at h
  omega
set_option maxHeartbeats 1000000 in
theorem noticeText_is (id g d : Int) (s : ByteArray) (hs : s.size ≤ maxLen) (hv : noticeB ⟨id, s, g, d, hs⟩ = true) (w : World) (hT : Tab w) :
  Calls Tryz.prog 61 #[.agg #[.int .i64 id, .string s, .int .i64 g, .int .i64 d]] w fun e w' => e = .returned (.string (Ntc.txt ⟨id, s, g, d, hs⟩)) ∧ Below w.heap.size w w' := by
  obtain ⟨h1, h2, h3, h4, h5, h6, h7⟩ := noticeB_bd hv
  simp only at h1 h2 h3 h4 h5 h6 h7
  clear hv
  have HT := Lib.hid (hT.below (bl1 w (.cells #[.int .i64 id, .string s, .int .i64 g, .int .i64 d] 42)))
  have n1 := numS_size id (by omega)
  have n2 := numS_size g (by omega)
  have n3 := numS_size d (by omega)
  have b0 := boxed w #[.int .i64 id, .string s, .int .i64 g, .int .i64 d] 42 0 _ rfl
  have b1 := boxed w #[.int .i64 id, .string s, .int .i64 g, .int .i64 d] 42 1 _ rfl
  have b2 := boxed w #[.int .i64 id, .string s, .int .i64 g, .int .i64 d] 42 2 _ rfl
  have b3 := boxed w #[.int .i64 id, .string s, .int .i64 g, .int .i64 d] 42 3 _ rfl
  by_cases hd : d = 1
  · have hd1 : (d == 1) = true := beq_iff_eq.2 hd
    have HD := Lib.hid hd; clear hd
    go_enter Tryz.func61, Tryz.ntmps61
    go_wp2
    refine wp_region_kin (by kernel_rfl) (by kernel_rfl) ?_
    repeat (go_big_quiet_step ((first | (go_at_call 99; exact Kin.call _ (by first | exact Nat.le_refl _ | omega) (itoa_is _ (by omega) (by omega) _ (HT.out.below (Kin.below _)))))))
    refine wpQuiet_nil ?_
    intro K
    have c3 := b3 K
    go_wp2
    go_ret
    exact ⟨by rw [Ntc.txt, if_pos HD.out]; rfl, bth (bl1 _ _) K.below⟩
  · have hd1 : (d == 1) = false := beq_eq_false_iff_ne.2 hd
    have HD := Lib.hid hd; clear hd
    go_enter Tryz.func61, Tryz.ntmps61
    go_wp2
    refine wp_region_kin (by kernel_rfl) (by kernel_rfl) ?_
    repeat (go_big_quiet_step ((first | (go_at_call 99; exact Kin.call _ (by first | exact Nat.le_refl _ | omega) (itoa_is _ (by omega) (by omega) _ (HT.out.below (Kin.below _)))))))
    refine wpQuiet_nil ?_
    intro K
    have c3 := b3 K
    go_wp2
    go_ret
    refine ⟨?_, bth (bl1 _ _) K.below⟩
    show Ending.returned (Value.string (Ntc.head ⟨id, s, g, d, hs⟩ ++ (⟨#[32, 100, 97, 121]⟩ : ByteArray) ++ (⟨#[115]⟩ : ByteArray))) = _
    rw [Ntc.txt, if_neg HD.out, ByteArray.append_assoc]
    rfl
set_option maxHeartbeats 1000000 in
theorem l24Text_is (id g d : Int) (s : ByteArray) (hs : s.size ≤ maxLen) (hv : noticeB ⟨id, s, g, d, hs⟩ = true) (w : World) :
  Calls Tryz.prog 63 #[.agg #[.int .i64 id, .string s, .int .i64 g, .int .i64 d]] w fun e w' => e = .returned (.string (Ntc.txt ⟨id, s, g, d, hs⟩)) ∧ Below w.heap.size w w' := by
  obtain ⟨h1, h2, h3, h4, h5, h6, h7⟩ := noticeB_bd hv
  simp only at h1 h2 h3 h4 h5 h6 h7
  clear hv
  have n1 := numS_size id (by omega)
  have n2 := numS_size g (by omega)
  have n3 := numS_size d (by omega)
  have b0 := boxed w #[.int .i64 id, .string s, .int .i64 g, .int .i64 d] 42 0 _ rfl
  have b1 := boxed w #[.int .i64 id, .string s, .int .i64 g, .int .i64 d] 42 1 _ rfl
  have b2 := boxed w #[.int .i64 id, .string s, .int .i64 g, .int .i64 d] 42 2 _ rfl
  have b3 := boxed w #[.int .i64 id, .string s, .int .i64 g, .int .i64 d] 42 3 _ rfl
  by_cases hd : d = 1
  · have hd1 : (d == 1) = true := beq_iff_eq.2 hd
    have HD := Lib.hid hd; clear hd
    go_enter Tryz.func63, Tryz.ntmps63
    go_wp2
    refine wp_region_kin (by kernel_rfl) (by kernel_rfl) ?_
    repeat (go_big_quiet_step ((first | (go_at_call 92; exact Kin.call _ (by first | exact Nat.le_refl _ | omega) (l1Num_is _ (by omega) (by omega) _)))))
    refine wpQuiet_nil ?_
    intro K
    have c3 := b3 K
    go_wp2
    go_ret
    exact ⟨by rw [Ntc.txt, if_pos HD.out]; rfl, bth (bl1 _ _) K.below⟩
  · have hd1 : (d == 1) = false := beq_eq_false_iff_ne.2 hd
    have HD := Lib.hid hd; clear hd
    go_enter Tryz.func63, Tryz.ntmps63
    go_wp2
    refine wp_region_kin (by kernel_rfl) (by kernel_rfl) ?_
    repeat (go_big_quiet_step ((first | (go_at_call 92; exact Kin.call _ (by first | exact Nat.le_refl _ | omega) (l1Num_is _ (by omega) (by omega) _)))))
    refine wpQuiet_nil ?_
    intro K
    have c3 := b3 K
    go_wp2
    go_ret
    exact ⟨by rw [Ntc.txt, if_neg HD.out]; rfl, bth (bl1 _ _) K.below⟩
def ntOut (n : Ntc) : Value := if noticeB n then .tuple #[.string n.txt, .bool true] else .tuple #[.string ⟨#[]⟩, .bool false]
theorem ntOut_form (n : Ntc) : ∃ s b, ntOut n = .tuple #[.string s, .bool b] := by unfold ntOut; split <;> exact ⟨_, _, rfl⟩
theorem iNoticeText_is (n : Ntc) (v : Value) (hv : ntOut n = v) (w : World) (hT : Tab w) :
  Calls Tryz.prog 21 #[.agg #[.int .i64 n.id, .string n.topic, .int .i64 n.given, .int .i64 n.days]] w fun e w' => e = .returned v ∧ Below w.heap.size w w' := by
  subst hv
  obtain ⟨id, s, g, d, hs⟩ := n
  cases h : noticeB ⟨id, s, g, d, hs⟩
  · go_enter Tryz.func21, Tryz.ntmps21
    go_wp2_with fail
    refine (isNotice_is id g d s hs _ h _).mono ?_
    rintro e w1 ⟨rfl, hb1⟩
    have hq1 : Below w.heap.size w w1 := bth (by repeat (first | exact Below.refl _ _ | refine Below.alloc ?_ (by first | exact Nat.le_refl _ | (simp <;> omega)) _ | refine Below.setCell ?_ (by first | exact Nat.le_refl _ | (simp <;> omega)) _)) hb1
    have HB : Below w.heap.size w w1 := hq1
    go_wp2
    go_ret2
    exact ⟨by simp [ntOut, h], (bth HB (by repeat (first | exact Below.refl _ _ | refine Below.alloc ?_ (by first | exact Nat.le_refl _ | (simp <;> omega)) _ | refine Below.setCell ?_ (by first | exact Nat.le_refl _ | (simp <;> omega)) _)))⟩
  · go_enter Tryz.func21, Tryz.ntmps21
    go_wp2_with fail
    refine (isNotice_is id g d s hs _ h _).mono ?_
    rintro e w1 ⟨rfl, hb1⟩
    have hq1 : Below w.heap.size w w1 := bth (by repeat (first | exact Below.refl _ _ | refine Below.alloc ?_ (by first | exact Nat.le_refl _ | (simp <;> omega)) _ | refine Below.setCell ?_ (by first | exact Nat.le_refl _ | (simp <;> omega)) _)) hb1
    have HB : Below w.heap.size w w1 := hq1
    have hA : Blk w1 (w.heap.size) 42 #[.int .i64 id, .string s, .int .i64 g, .int .i64 d] := Blk.below (by repeat (first | exact Blk.new _ _ _ | exact Blk.new2 _ _ _ _ | exact Blk.new3 _ _ _ _ _ | exact Blk.new4 _ _ _ _ _ _ | refine Blk.alloc ?_ _)) hb1 (by simp <;> omega)
    have a0 := (hA.cell 0).trans (show _ = some (.int .i64 id) from rfl)
    have a1 := (hA.cell 1).trans (show _ = some (.string s) from rfl)
    have a2 := (hA.cell 2).trans (show _ = some (.int .i64 g) from rfl)
    have a3 := (hA.cell 3).trans (show _ = some (.int .i64 d) from rfl)
    go_wp2_with fail
    refine (noticeText_is id g d s hs h _ (hT.below HB)).mono ?_
    rintro e w2 ⟨rfl, hb2⟩
    have hq2 : Below w1.heap.size w1 w2 := bth (by repeat (first | exact Below.refl _ _ | refine Below.alloc ?_ (by first | exact Nat.le_refl _ | (simp <;> omega)) _ | refine Below.setCell ?_ (by first | exact Nat.le_refl _ | (simp <;> omega)) _)) hb2
    replace HB := bth HB hq2
    replace hA := hA.below hq2 hA.lt
    replace a0 := (hA.cell 0).trans (show _ = some (.int .i64 id) from rfl)
    replace a1 := (hA.cell 1).trans (show _ = some (.string s) from rfl)
    replace a2 := (hA.cell 2).trans (show _ = some (.int .i64 g) from rfl)
    replace a3 := (hA.cell 3).trans (show _ = some (.int .i64 d) from rfl)
    go_wp2
    go_ret2
    exact ⟨by simp [ntOut, h], (bth HB (by repeat (first | exact Below.refl _ _ | refine Below.alloc ?_ (by first | exact Nat.le_refl _ | (simp <;> omega)) _ | refine Below.setCell ?_ (by first | exact Nat.le_refl _ | (simp <;> omega)) _)))⟩
theorem sNoticeText_is (n : Ntc) (v : Value) (hv : ntOut n = v) (w : World) :
  Calls Tryz.prog 22 #[.agg #[.int .i64 n.id, .string n.topic, .int .i64 n.given, .int .i64 n.days]] w fun e w' => e = .returned v ∧ Below w.heap.size w w' := by
  subst hv
  obtain ⟨id, s, g, d, hs⟩ := n
  cases h : noticeB ⟨id, s, g, d, hs⟩
  · go_enter Tryz.func22, Tryz.ntmps22
    go_wp2_with fail
    refine (l24One_is id g d s hs _ h _).mono ?_
    rintro e w1 ⟨rfl, hb1⟩
    have hq1 : Below w.heap.size w w1 := bth (by repeat (first | exact Below.refl _ _ | refine Below.alloc ?_ (by first | exact Nat.le_refl _ | (simp <;> omega)) _ | refine Below.setCell ?_ (by first | exact Nat.le_refl _ | (simp <;> omega)) _)) hb1
    have HB : Below w.heap.size w w1 := hq1
    go_wp2
    go_ret2
    exact ⟨by simp [ntOut, h], (bth HB (by repeat (first | exact Below.refl _ _ | refine Below.alloc ?_ (by first | exact Nat.le_refl _ | (simp <;> omega)) _ | refine Below.setCell ?_ (by first | exact Nat.le_refl _ | (simp <;> omega)) _)))⟩
  · go_enter Tryz.func22, Tryz.ntmps22
    go_wp2_with fail
    refine (l24One_is id g d s hs _ h _).mono ?_
    rintro e w1 ⟨rfl, hb1⟩
    have hq1 : Below w.heap.size w w1 := bth (by repeat (first | exact Below.refl _ _ | refine Below.alloc ?_ (by first | exact Nat.le_refl _ | (simp <;> omega)) _ | refine Below.setCell ?_ (by first | exact Nat.le_refl _ | (simp <;> omega)) _)) hb1
    have HB : Below w.heap.size w w1 := hq1
    have hA : Blk w1 (w.heap.size) 42 #[.int .i64 id, .string s, .int .i64 g, .int .i64 d] := Blk.below (by repeat (first | exact Blk.new _ _ _ | exact Blk.new2 _ _ _ _ | exact Blk.new3 _ _ _ _ _ | exact Blk.new4 _ _ _ _ _ _ | refine Blk.alloc ?_ _)) hb1 (by simp <;> omega)
    have a0 := (hA.cell 0).trans (show _ = some (.int .i64 id) from rfl)
    have a1 := (hA.cell 1).trans (show _ = some (.string s) from rfl)
    have a2 := (hA.cell 2).trans (show _ = some (.int .i64 g) from rfl)
    have a3 := (hA.cell 3).trans (show _ = some (.int .i64 d) from rfl)
    go_wp2_with fail
    refine (l24Text_is id g d s hs h _).mono ?_
    rintro e w2 ⟨rfl, hb2⟩
    have hq2 : Below w1.heap.size w1 w2 := bth (by repeat (first | exact Below.refl _ _ | refine Below.alloc ?_ (by first | exact Nat.le_refl _ | (simp <;> omega)) _ | refine Below.setCell ?_ (by first | exact Nat.le_refl _ | (simp <;> omega)) _)) hb2
    replace HB := bth HB hq2
    replace hA := hA.below hq2 hA.lt
    replace a0 := (hA.cell 0).trans (show _ = some (.int .i64 id) from rfl)
    replace a1 := (hA.cell 1).trans (show _ = some (.string s) from rfl)
    replace a2 := (hA.cell 2).trans (show _ = some (.int .i64 g) from rfl)
    replace a3 := (hA.cell 3).trans (show _ = some (.int .i64 d) from rfl)
    go_wp2
    go_ret2
    exact ⟨by simp [ntOut, h], (bth HB (by repeat (first | exact Below.refl _ _ | refine Below.alloc ?_ (by first | exact Nat.le_refl _ | (simp <;> omega)) _ | refine Below.setCell ?_ (by first | exact Nat.le_refl _ | (simp <;> omega)) _)))⟩
end Go.Proofs.YtbnncgahepcfnaaGreatDoor
/- Marks: what a slice holds behind the marks, and that it is held. -/
namespace Go.G9
open Go.RowKit
/-- The first marks of n elements of s fields each. -/
def mks (m s : Int) (n : Nat) : List Int := (List.range n).map fun (i : Nat) => m + s * (i : Int)
theorem setMany_one (cs : Array Value) (i : Nat) (a : Value) (bs : List Value) : setMany (setMany cs i [a]) (i + 1) bs = setMany cs i (a :: bs) := rfl
theorem mks_len (m s : Int) (n : Nat) : (mks m s n).length = n := by simp [mks]
theorem mks_get {m s : Int} {n k : Nat} (h : k < n) : (mks m s n)[k]? = some (m + s * k) := by simp [mks, h]
section
variable {T U : Type} {B : Nat} {e : TypeId} {sz : Nat} {f : T → List Value} {h : U → List Value} {w w' : World} {v : Value} {xs : List T}
theorem OwnV.block (hO : OwnV B e sz f w v xs) (hn : 0 < xs.length) : ∃ g cap cur, v = .slice (some ⟨g, 0, none⟩) xs.length cap ∧ B ≤ g ∧ Blk w g e cur ∧ xs.length ≤ cap ∧ cap ≤ maxLen ∧ cur.size = cap * sz := by
  rcases hO.2 with ⟨_, h0⟩ | ⟨g, cap, cur, hv, hB, hh, hnc, hcm, hcs, _⟩
  · omega
  · exact ⟨g, cap, cur, hv, hB, hh, hnc, hcm, hcs⟩
theorem OwnV.empty {A : Option Addr} {n c : Nat} {m s : Int} (hO : OwnV B e sz f w (.slice A n c) ([] : List T)) {p : Int → List Value} : OwnV B e sz p w (.slice A 0 c) (mks m s 0) := by
  obtain ⟨hl, hO⟩ := hO
  refine ⟨by simp [mks], ?_⟩
  rcases hO with ⟨hv, h0⟩ | ⟨g, cap, cur, hv, hB, hh, hnc, hcm, hcs, htake⟩
  · injection hv with h1 h2 h3
    subst h1 h2 h3
    exact .inl ⟨rfl, by simp [mks]⟩
  · injection hv with h1 h2 h3
    subst h1 h3
    simp at h2
    exact .inr ⟨g, c, cur, by simp [mks], hB, hh, by simp [mks], hcm, hcs, by simp [mks]⟩
theorem OwnV.ofBlk {g cap : Nat} {cs : Array Value} (hb : Blk w g e cs) (hB : B ≤ g) (hc : xs.length ≤ cap) (hm : cap ≤ maxLen) (hsz : cs.size = cap * sz) (hF : ∀ i x, xs[i]? = some x → ∀ j u, (f x)[j]? = some u → cs[i * sz + j]? = some u)
    (hf : ∀ y, (f y).length = sz := by intro y; rfl) : OwnV B e sz f w (.slice (some ⟨g, 0, none⟩) xs.length cap) xs := by
  refine ⟨flat_len hf xs, .inr ⟨g, cap, cs, rfl, hB, hb, hc, hm, hsz, ?_⟩⟩
  have hle : xs.length * sz ≤ cap * sz := Nat.mul_le_mul_right sz hc
  apply List.ext_getElem?
  intro k
  rw [List.getElem?_take]
  by_cases hk : k < (xs.flatMap f).length
  · obtain ⟨i, j, x, hx, hj, rfl⟩ := flat_inv hf xs k _ (List.getElem?_eq_getElem hk)
    rw [flat_len hf] at hk
    rw [if_pos hk, List.getElem?_eq_getElem (l := xs.flatMap f) (by rw [flat_len hf]; exact hk), ← hF i x hx j _ hj]; simp
  · rw [flat_len hf] at hk
    rw [if_neg hk, List.getElem?_eq_none (by rw [flat_len hf]; omega)]
end
end Go.G9
namespace Go.Proofs.YtbnncgahepcfnaaGreatDoor
open Go.RowKit Go.G9
end Go.Proofs.YtbnncgahepcfnaaGreatDoor
