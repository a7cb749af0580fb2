/- Generic words and lemmas for the walks: worlds that are alike below a block, slices that read as lists, counted loops. -/
import Derived.WalkKit
import Derived.WalkSpells
import Derived.WalkLawsBesides
import Derived.BigQuiet
import Derived.Deep.Draws
import Derived.Lib.Hide
import Derived.StillTail
namespace Go.G9
open Go.RowKit

/-- A world that is as w was below block B. -/
structure Kin (B : Nat) (w : World) where
  world : World
  below : Below B w world

instance {B : Nat} {w : World} : Nonempty (Kin B w) := ⟨⟨w, Below.refl _ _⟩⟩

theorem Kin.cell {B : Nat} {w : World} (k : Kin B w) {p : Addr} (h : p.block < B) : k.world.cell? p = w.cell? p := k.below.cell h
theorem Kin.frozen {B : Nat} {w : World} (k : Kin B w) {p : Addr} (h : p.block < B) : k.world.frozen? p = w.frozen? p := k.below.frozen h

theorem Kin.call {P : Program} {f : FuncId} {args : Array Value} {B : Nat} {w : World} {v : Value} (k : Kin B w) (hB : B ≤ w.heap.size)
    (h : Calls P f args k.world fun e w' => e = .returned v ∧ Below k.world.heap.size k.world w') :
    Calls P f args k.world fun e w'' => e = .returned v ∧ ∃ k' : Kin B w, w'' = k'.world :=
  h.mono fun _ w' ⟨he, hb⟩ => ⟨he, ⟨w', k.below.trans (hb.mono (Nat.le_trans hB k.below.size))⟩, rfl⟩

theorem Kin.same {P : Program} {f : FuncId} {args : Array Value} {B : Nat} {w : World} {v : Value} (k : Kin B w)
    (h : Calls P f args k.world fun e w' => e = .returned v ∧ w' = k.world) :
    Calls P f args k.world fun e w'' => e = .returned v ∧ ∃ k' : Kin B w, w'' = k'.world :=
  h.mono fun _ _ ⟨he, hb⟩ => ⟨he, k, hb⟩

theorem wp_region_kin {P : Program} {id : Nat} {Q : Exit → Act → World → Prop} {a : Act} {w : World} {l : List Oper} (hm : P.follows .mixedOrders = true) (hB : Region.lexB .any l.toArray = true)
    (h : wpQuiet P l.toArray (fun w' => ∃ k : Kin w.heap.size w, w' = k.world) (fun a' => ∀ k : Kin w.heap.size w, Q .normal a' k.world) l a) : (Code.region id l.toArray true).wp P Q a w :=
  wp_region_quiet (C := fun w' => ∃ k : Kin w.heap.size w, w' = k.world) hm hB ⟨⟨w.drew, (Below.refl _ _).drew⟩, rfl⟩
    (by
      have e : (fun a' : Act => ∀ k : Kin w.heap.size w, Q .normal a' k.world) = (fun a' => ∀ w', (∃ k : Kin w.heap.size w, w' = k.world) → Q .normal a' w') := by
        funext a'; exact propext ⟨fun h w' ⟨k, hk⟩ => hk ▸ h k, fun h k => h _ ⟨k, rfl⟩⟩
      rw [e] at h; simpa using h)

/-- Two calls, one behind the other. -/
theorem bth {w w1 w2 : World} (h : Below w.heap.size w w1) (k : Below w1.heap.size w1 w2) : Below w.heap.size w w2 := h.trans (k.mono h.size)

def allTo (p : Nat → Bool) (n : Nat) : Bool := (List.range n).all p
theorem allTo_succ (p : Nat → Bool) (n : Nat) : allTo p (n+1) = (allTo p n && p n) := by simp [allTo, List.range_succ]
theorem allTo_go {p : Nat → Bool} {n : Nat} (h : allTo p n = true) (hp : p n = true) : allTo p (n+1) = true := by rw [allTo_succ, h, hp]; rfl
theorem allTo_not {p : Nat → Bool} {n k : Nat} (h : k < n) (hp : p k = false) : allTo p n = false := by
  simp only [allTo, List.all_eq_false, List.mem_range]; exact ⟨k, h, by simp [hp]⟩
theorem allTo_iff {p : Nat → Bool} {n : Nat} : allTo p n = true ↔ ∀ k, k < n → p k = true := by simp [allTo]

theorem ret_bool {a b : Bool} (h : a = b) : Ending.returned (.bool a) = .returned (.bool b) := by rw [h]
theorem ret_int {k : IntKind} {a b : Int} (h : a = b) : Ending.returned (.int k a) = .returned (.int k b) := by rw [h]

/-- A slice that reads as the list xs, each element as the cells that f gives of it. -/
def Rds {T : Type} (sz : Nat) (f : T → List Value) (w : World) (A : Option Addr) (xs : List T) : Prop :=
  0 < xs.length → ∃ b off, A = some ⟨b, off, none⟩ ∧ b < w.heap.size ∧ ∀ i x, xs[i]? = some x → ∀ j u, (f x)[j]? = some u → w.cell? ⟨b, off + i * sz + j, none⟩ = some u

theorem Rds.nil {T : Type} {sz : Nat} {f : T → List Value} {w : World} {A : Option Addr} : Rds sz f w A [] := fun h => absurd h (by simp)

theorem Rds.below {T : Type} {sz : Nat} {f : T → List Value} {w w' : World} {A : Option Addr} {xs : List T} (h : Rds sz f w A xs) (hb : Below w.heap.size w w') : Rds sz f w' A xs := fun hn => by
  obtain ⟨b, off, hA, hlt, hc⟩ := h hn
  exact ⟨b, off, hA, Nat.lt_of_lt_of_le hlt hb.size, fun i x hx j u hu => (hb.cell (p := ⟨b, _, none⟩) hlt).trans (hc i x hx j u hu)⟩

/-- What a round needs of one element: its cells, in every world that is as wr was. -/
theorem Rds.at_ {T : Type} {sz : Nat} {f : T → List Value} {w wr : World} {A : Option Addr} {xs : List T} (h : Rds sz f w A xs) (hb : Below w.heap.size w wr) {k : Nat} (hk : k < xs.length) :
    ∃ b off x, A = some ⟨b, off, none⟩ ∧ b < wr.heap.size ∧ xs[k]? = some x ∧ ∀ j u, (f x)[j]? = some u → ∀ K : Kin wr.heap.size wr, K.world.cell? ⟨b, off + k * sz + j, none⟩ = some u := by
  obtain ⟨b, off, hA, hlt, hc⟩ := h (by omega)
  have hlt' := Nat.lt_of_lt_of_le hlt hb.size
  exact ⟨b, off, xs[k], hA, hlt', List.getElem?_eq_getElem hk, fun j u hu K => (K.cell (p := ⟨b, _, none⟩) hlt').trans ((hb.cell (p := ⟨b, _, none⟩) hlt).trans (hc k _ (List.getElem?_eq_getElem hk) j u hu))⟩

/-- The world itself is one of its kin. -/
def Kin.self (w : World) : Kin w.heap.size w := ⟨w, Below.refl _ _⟩

theorem bl1 (w : World) (a : Obj) : Below w.heap.size w (w.alloc a) := (Below.refl _ _).alloc (Nat.le_refl _) _
theorem bl2 (w : World) (a b : Obj) : Below w.heap.size w ((w.alloc a).alloc b) := (bl1 w a).alloc (by simp) _
theorem bl3 (w : World) (a b c : Obj) : Below w.heap.size w (((w.alloc a).alloc b).alloc c) := (bl2 w a b).alloc (by simp; omega) _
theorem bl4 (w : World) (a b c d : Obj) : Below w.heap.size w ((((w.alloc a).alloc b).alloc c).alloc d) := (bl3 w a b c).alloc (by simp; omega) _
/-- 'make([]T, n)', T of whatever width. -/
theorem run_make_rowN {P : Program} (t e : TypeId) (i : TypeInfo) (z : Value) (ht : P.underlying t = some (.slice e)) (hi : P.info? e = some i) (hz : i.zero = some z)
    (kl kc : IntKind) (n c : Nat) (hnc : n ≤ c) (hbytes : i.bytes * c ≤ 281474976710656) (h63 : c ≤ 9223372036854775807) (w : World) :
    (Instr.makeSlice t (.int kl (n : Int)) (.int kc (c : Int))).run P w = .ok (.slice (some ⟨w.heap.size, 0, none⟩) n c) (w.alloc (.cells (madeCells z.cells (c * i.size)) e)) := by
  have hb : (i.bytes : Int) * (c : Int) ≤ 281474976710656 := by
    have h : ((i.bytes * c : Nat) : Int) ≤ 281474976710656 := by omega
    rwa [Int.natCast_mul] at h
  have hr := run_make (P := P) w t e i z ht hi hz kl kc n c (by omega) (by omega) hb (by omega)
  simp only [Int.toNat_natCast] at hr
  exact hr
/-- A block that is known whole, none of its cells frozen. -/
def Blk (w : World) (g : Nat) (t : TypeId) (cs : Array Value) : Prop := w.heap[g]? = some (.cells cs t (0, 0))
section
variable {w w' : World} {g : Nat} {t : TypeId} {cs : Array Value}
theorem Blk.lt (h : Blk w g t cs) : g < w.heap.size := by
  rcases Nat.lt_or_ge g w.heap.size with hlt | hge
  · exact hlt
  · unfold Blk at h; rw [Array.getElem?_eq_none hge] at h; cases h
theorem Blk.cell (h : Blk w g t cs) (i : Nat) : w.cell? ⟨g, i, none⟩ = cs[i]? := cell_of_row w g i cs t (0, 0) h
theorem Blk.frozen (h : Blk w g t cs) (i : Nat) : w.frozen? ⟨g, i, none⟩ = false := by
  unfold Blk at h
  simp [World.frozen?, h]
theorem Blk.new (w : World) (t : TypeId) (cs : Array Value) : Blk (w.alloc (.cells cs t)) w.heap.size t cs := heap_alloc_new w _
theorem Blk.alloc (h : Blk w g t cs) (o : Obj) : Blk (w.alloc o) g t cs := (Below.heap_alloc w o g h.lt).trans h
theorem Blk.set_ (h : Blk w g t cs) (i : Nat) (u : Value) : Blk (w.setCell ⟨g, i, none⟩ u) g t (cs.setIfInBounds i u) := by
  unfold Blk at h ⊢
  simp [World.setCell, Array.getElem?_modify, h]
theorem Blk.below {B : Nat} (h : Blk w g t cs) (hb : Below B w w') (hg : g < B) : Blk w' g t cs := (hb.block g hg).trans h
end

/-- A slice of the call's own: it stands at the head of a block from B on, which holds just its elements. -/
def Own {T : Type} (B : Nat) (sz : Nat) (f : T → List Value) (t : TypeId) (w : World) (A : Option Addr) (xs : List T) : Prop :=
  ∃ g cs, A = some ⟨g, 0, none⟩ ∧ B ≤ g ∧ Blk w g t cs ∧ ∀ i x, xs[i]? = some x → ∀ j u, (f x)[j]? = some u → cs[i * sz + j]? = some u
theorem Own.rds {T : Type} {B sz : Nat} {f : T → List Value} {t : TypeId} {w : World} {A : Option Addr} {xs : List T} (h : Own B sz f t w A xs) : Rds sz f w A xs := fun _ => by
  obtain ⟨g, cs, hA, _, hb, hc⟩ := h
  exact ⟨g, 0, hA, hb.lt, fun i x hx j u hu => by rw [hb.cell, Nat.zero_add]; exact hc i x hx j u hu⟩

/-- The first k elements stand in the cells. -/
def Filled {T : Type} (sz : Nat) (f : T → List Value) (xs : List T) (k : Nat) (cs : Array Value) : Prop :=
  ∀ i x, i < k → xs[i]? = some x → ∀ j u, (f x)[j]? = some u → cs[i * sz + j]? = some u
theorem Filled.zero {T : Type} {sz : Nat} {f : T → List Value} {xs : List T} {cs : Array Value} : Filled sz f xs 0 cs := fun _ _ h => absurd h (Nat.not_lt_zero _)
theorem Blk.some_ {w : World} {g : Nat} {t : TypeId} {cs : Array Value} (h : Blk w g t cs) (i : Nat) (hi : i < cs.size) : ∃ v, w.cell? ⟨g, i, none⟩ = some v := ⟨cs[i], by rw [h.cell]; exact Array.getElem?_eq_getElem hi⟩
theorem Blk.four {w : World} {g : Nat} {t : TypeId} {cs : Array Value} (h : Blk w g t cs) (i : Nat) (hi : i + 3 < cs.size) :
    (∃ v, w.cell? ⟨g, i, none⟩ = some v) ∧ (∃ v, w.cell? ⟨g, i + 1, none⟩ = some v) ∧ (∃ v, w.cell? ⟨g, i + 2, none⟩ = some v) ∧ (∃ v, w.cell? ⟨g, i + 3, none⟩ = some v) :=
  ⟨h.some_ _ (by omega), h.some_ _ (by omega), h.some_ _ (by omega), h.some_ _ (by omega)⟩

def setMany : Array Value → Nat → List Value → Array Value
  | cs, _, [] => cs
  | cs, i, u :: us => setMany (cs.setIfInBounds i u) (i + 1) us
def setCells : World → Nat → Nat → List Value → World
  | w, _, _, [] => w
  | w, g, i, u :: us => setCells (w.setCell ⟨g, i, none⟩ u) g (i + 1) us
theorem size_setMany : ∀ (us : List Value) (cs : Array Value) (i : Nat), (setMany cs i us).size = cs.size
  | [], _, _ => rfl
  | u :: us, cs, i => by rw [setMany, size_setMany us]; simp
theorem Blk.setMany {g : Nat} {t : TypeId} : ∀ (i : Nat) (us : List Value) {w : World} {cs : Array Value}, Blk w g t cs → Blk (setCells w g i us) g t (Go.G9.setMany cs i us)
  | _, [], _, _, h => h
  | i, u :: us, _, _, h => Blk.setMany (i + 1) us (h.set_ i u)
theorem setMany_lt : ∀ (us : List Value) (cs : Array Value) (i j : Nat), j < i → (setMany cs i us)[j]? = cs[j]?
  | [], _, _, _, _ => rfl
  | u :: us, cs, i, j, h => by rw [setMany, setMany_lt us _ _ _ (by omega), Array.getElem?_setIfInBounds_ne (by omega)]
theorem setMany_ge : ∀ (us : List Value) (cs : Array Value) (i j : Nat), i + us.length ≤ j → (setMany cs i us)[j]? = cs[j]?
  | [], _, _, _, _ => rfl
  | u :: us, cs, i, j, h => by simp only [List.length_cons] at h; rw [setMany, setMany_ge us _ _ _ (by omega), Array.getElem?_setIfInBounds_ne (by omega)]
theorem setMany_in : ∀ (us : List Value) (cs : Array Value) (i j : Nat) (u : Value), i + us.length ≤ cs.size → us[j]? = some u → (setMany cs i us)[i + j]? = some u
  | [], _, _, _, _, _, h => by simp at h
  | v :: us, cs, i, 0, u, hs, h => by
    simp only [List.length_cons] at hs
    simp at h; subst h
    rw [setMany, setMany_lt us _ _ _ (by omega), Nat.add_zero, Array.getElem?_setIfInBounds_self_of_lt (by omega)]
  | v :: us, cs, i, j + 1, u, hs, h => by
    simp only [List.length_cons] at hs
    simp at h
    rw [setMany, show i + (j + 1) = (i + 1) + j from by omega]
    exact setMany_in us _ _ j u (by simp; omega) h
theorem Filled.put {T : Type} {sz : Nat} {f : T → List Value} {xs : List T} {k : Nat} {cs : Array Value} {x : T} (h : Filled sz f xs k cs) (hx : xs[k]? = some x) (hs : k * sz + (f x).length ≤ cs.size)
    (hf : ∀ y, (f y).length = sz := by intro y; rfl) : Filled sz f xs (k + 1) (Go.G9.setMany cs (k * sz) (f x)) := by
  intro i y hi hy j u hu
  have hj : j < sz := by have := hf y; have h2 := (List.getElem?_eq_some_iff.1 hu).1; omega
  by_cases he : i = k
  · subst he
    obtain rfl : x = y := Option.some.inj (hx.symm.trans hy)
    exact setMany_in _ _ _ _ _ hs hu
  · rw [setMany_lt _ _ _ _ (by
      have : i + 1 ≤ k := by omega
      have := Nat.mul_le_mul_right sz this
      rw [Nat.add_mul, Nat.one_mul] at this; omega)]
    exact h i y (by omega) hy j u hu
theorem Filled.all {T : Type} {sz : Nat} {f : T → List Value} {xs : List T} {cs : Array Value} (h : Filled sz f xs xs.length cs) : ∀ i x, xs[i]? = some x → ∀ j u, (f x)[j]? = some u → cs[i * sz + j]? = some u :=
  fun i x hx => h i x (List.getElem?_eq_some_iff.1 hx).1 hx

/-- A box just made: its cells, in every world that is alike below what comes behind it. -/
theorem boxed (w : World) (cs : Array Value) (t : TypeId) (j : Nat) (u : Value) (h : cs[j]? = some u) (K : Kin (w.alloc (.cells cs t)).heap.size (w.alloc (.cells cs t))) : K.world.cell? ⟨w.heap.size, j, none⟩ = some u :=
  (K.cell (p := ⟨w.heap.size, j, none⟩) (by simp)).trans (((Blk.new w t cs).cell j).trans h)
/-- Kin of a later world are kin of the earlier one. -/
def Kin.drop {w w1 : World} (K : Kin w1.heap.size w1) (h : Below w.heap.size w w1) : Kin w.heap.size w := ⟨K.world, bth h K.below⟩

end Go.G9
/- A region that draws its order: all but a forced tail is quiet in a class of worlds; the tail is walked in its own order. -/
namespace Go.G9
open Go.RowKit
section
variable {P : Program} {ops : Array Oper} {md : Region.Mode} {C : World → Prop}

def wpAnyQL (P : Program) (md : Region.Mode) (ops : Array Oper) (C : World → Prop) (n : Nat) (L : Array Bool → Act → Prop) : Nat → Array Bool → Act → Prop
  | 0, listed, a => L listed a
  | f + 1, listed, a =>
    Region.ready md ops listed ≠ [] ∧ ∀ i ∈ Region.ready md ops listed, i < n ∧ qOp P ops C i (wpAnyQL P md ops C n L f (listed.setIfInBounds i true)) a

theorem wpAny_of_headQ {n g : Nat} {L : Array Bool → Act → Prop} {Q' : Exit → Act → World → Prop} (hL : ∀ listed a, L listed a → ∀ w, C w → wpAny P md ops Q' g listed a w) :
    ∀ (f : Nat) (listed : Array Bool) (a : Act), wpAnyQL P md ops C n L f listed a → ∀ w, C w → wpAny P md ops Q' (f + g) listed a w
  | 0, listed, a, h => by rw [Nat.zero_add]; exact hL _ _ h
  | f + 1, listed, a, h => fun w hw => by
    rw [show f + 1 + g = (f + g) + 1 by omega]
    exact ⟨fun h0 => absurd h0 h.1, fun i hi => wpOp_of_qOp hw (fun a' w' hw' h' => wpAny_of_headQ hL f _ a' h' w' hw') (h.2 i hi).2⟩

theorem wpAnyQL_first {n i : Nat} {oi : Oper} {v : Value} {L : Array Bool → Act → Prop} (hi : ops[i]? = some oi) (hsel : ∀ (j : Nat) (o : Oper) cs b, ops[j]? = some o → o.op ≠ .select cs b)
    (hs : Region.sinkB md ops n = true) (hc : Region.chainB md ops n = true) (hn : n < ops.size) (hin : i < n)
    (hdone : ∀ listed a, L listed a → ∀ j ∈ Region.ready md ops listed, n ≤ j) :
    ∀ (f : Nat) (listed : Array Bool) (a : Act), HeadInv md ops n listed →
      (∀ j oj, ops[j]? = some oj → j ≠ i → listed.getD j true = false → (∀ e ∈ oj.after, Region.binds md e = true → e.on ≠ i) → oi.apart ops oj = true) →
      i ∈ Region.ready md ops listed → YieldsIn P ops C oi v a →
      wpAnyQL P md ops C n L f (listed.setIfInBounds i true) (a.put oi.dst v) → wpAnyQL P md ops C n L (f + 1) listed a := by
  intro f
  induction f with
  | zero =>
    intro listed a inv _ hr hy H
    have hun := (mem_ready.1 hr).1
    refine ⟨fun h => (by rw [h] at hr; cases hr), fun j hj => ?_⟩
    have hjn : j < n := by
      rcases Nat.lt_or_ge j n with h | h
      · exact h
      · exact absurd hj (tail_waits hs hc hn inv _ i rfl hin hun j h)
    refine ⟨hjn, ?_⟩
    by_cases hji : j = i
    · subst hji; exact hy.qOp hi H
    · have := hdone _ _ H j (ready_mono hj hji)
      omega
  | succ f ih =>
    intro listed a inv hfree hr hy H
    have hun := (mem_ready.1 hr).1
    refine ⟨fun h => (by rw [h] at hr; cases hr), fun j hj => ?_⟩
    have hjn : j < n := by
      rcases Nat.lt_or_ge j n with h | h
      · exact h
      · exact absurd hj (tail_waits hs hc hn inv _ i rfl hin hun j h)
    refine ⟨hjn, ?_⟩
    by_cases hji : j = i
    · subst hji; exact hy.qOp hi H
    · have h1 := (H.2 j (ready_mono hj hji)).2
      obtain ⟨hjun, oj, hoj, hall⟩ := mem_ready.1 hj
      have hnot : ∀ e ∈ oj.after, Region.binds md e = true → e.on ≠ i := fun e he hb heq => by
        have h1 := hall e he hb
        rw [heq, getD_both hun] at h1
        cases h1
      have h2 := qOp_put hoj (hfree j oj hoj hji hjun hnot) (fun cs b => hsel i oi cs b hi) (fun cs b => hsel j oj cs b hoj) hy h1
      have hfree' : ∀ k ok, ops[k]? = some ok → k ≠ i → (listed.setIfInBounds j true).getD k true = false →
          (∀ e ∈ ok.after, Region.binds md e = true → e.on ≠ i) → oi.apart ops ok = true := fun k ok hk hki hun hno => by
        refine hfree k ok hk hki ?_ hno
        by_cases hjk : j = k
        · subst hjk; exact hjun
        · rw [getD_set_ne true hjk] at hun; exact hun
      refine qOp_mono (fun a' h3 => ih (listed.setIfInBounds j true) a' (inv.set hj hjn) hfree' (ready_mono hr (Ne.symm hji)) h3.1 ?_) h2
      rw [Array.setIfInBounds_comm _ _ hji]
      exact h3.2

theorem wpAnyQL_lex {n g : Nat} {Lq : Act → Prop} (hsel : Region.noSelect ops = true) (hs : Region.sinkB md ops n = true) (hc : Region.chainB md ops n = true) (hn : n < ops.size) :
    ∀ (l : List Oper) (k : Nat) (listed : Array Bool) (a : Act), (∀ j, j < l.length → l[j]? = ops[k + j]?) → k + l.length = n → HeadInv md ops n listed →
    Region.lexHead md ops g l.length k listed = true → wpQuiet P ops C Lq l a →
    wpAnyQL P md ops C n (fun listed' a' => Region.seqB md ops g n listed' = true ∧ Lq a') l.length listed a
  | [], k, listed, a, _, hk, _, hB, h => by
    have : k = n := by simpa using hk
    subst this
    exact ⟨by simpa [Region.lexHead] using hB, h⟩
  | o :: l, k, listed, a, hl, hk, inv, hB, h => by
    have h0 : ops[k]? = some o := by simpa using (hl 0 (by simp)).symm
    simp only [List.length_cons, Region.lexHead, Bool.and_eq_true] at hB
    obtain ⟨⟨hr, hf⟩, hB'⟩ := hB
    have hkn : k < n := by simp only [List.length_cons] at hk; omega
    have hr' : k ∈ Region.ready md ops listed := by simpa using hr
    have hst : qOp P ops C k (wpQuiet P ops C Lq l) a := by unfold qOp; simp only [h0]; exact h
    obtain ⟨v, hy, hK⟩ := yieldsIn_of_qOp h0 hst
    exact wpAnyQL_first h0 (Region.noSelect_spec hsel) hs hc hn hkn (fun listed' a' hL => seqB_ready hL.1) l.length listed a inv (Region.free_spec h0 hf) hr' hy
      (wpAnyQL_lex hsel hs hc hn l (k + 1) _ _ (fun j hj => by have := hl (j + 1) (by simp; omega); simpa [Nat.add_assoc, Nat.add_comm 1 j] using this) (by simp only [List.length_cons] at hk; omega) (inv.set hr' hkn) hB' hK)

theorem wp_region_quiet_tail {id : Nat} {Q : Exit → Act → World → Prop} {a : Act} {w : World} {l : List Oper} (n : Nat) (hm : P.follows .mixedOrders = true) (hB : Region.lexTailB .any l.toArray n = true) (hC : C { w with drawn := w.drawn + 1 })
    (h : wpQuiet P l.toArray C (fun a' => ∀ w', C w' → wpList P l.toArray Q (l.drop n) a' w') (l.take n) a) : (Code.region id l.toArray true).wp P Q a w := by
  simp only [Region.lexTailB, Bool.and_eq_true, decide_eq_true_eq] at hB
  obtain ⟨⟨⟨⟨hsel, hn⟩, hs⟩, hc⟩, hlex⟩ := hB
  have hn' : n < l.length := by simpa using hn
  have htl : (l.take n).length = n := by simp; omega
  have hdl : (l.drop n).length = l.toArray.size - n := by simp
  have inv0 : HeadInv .any l.toArray n (Array.replicate l.toArray.size false) :=
    ⟨by simp, fun j oj _ hl => (by rw [getD_replicate_false] at hl; cases hl), fun t _ ht => getD_in (by simpa using ht) (getD_replicate_false _ _)⟩
  have H := wpAnyQL_lex (md := .any) (g := l.toArray.size - n) hsel hs hc hn (l.take n) 0 _ a (fun j hj => by
    have hj' : j < n := by rw [htl] at hj; exact hj
    simp [hj']) (by simpa using htl) inv0 (by rw [htl]; exact hlex) h
  refine wp_region_any hm ?_
  have := wpAny_of_headQ (Q' := Q) (g := l.toArray.size - n) (fun listed a' hL w' hw' => by
    have := wpAny_of_seq (md := .any) (Q' := Q) (l.drop n) n listed a' w' (fun j => by simp [List.getElem?_drop]) (by rw [hdl]; exact hL.1) (hL.2 w' hw')
    rwa [hdl] at this) _ _ _ H _ hC
  rw [htl, show n + (l.toArray.size - n) = l.toArray.size by omega] at this
  exact this

theorem wp_region_kin_tail {id : Nat} {Q : Exit → Act → World → Prop} {a : Act} {w : World} {l : List Oper} (n : Nat) (hm : P.follows .mixedOrders = true) (hB : Region.lexTailB .any l.toArray n = true)
    (h : wpQuiet P l.toArray (fun w' => ∃ k : Kin w.heap.size w, w' = k.world) (fun a' => ∀ k : Kin w.heap.size w, wpList P l.toArray Q (l.drop n) a' k.world) (l.take n) a) : (Code.region id l.toArray true).wp P Q a w :=
  wp_region_quiet_tail (C := fun w' => ∃ k : Kin w.heap.size w, w' = k.world) n hm hB ⟨⟨w.drew, (Below.refl _ _).drew⟩, rfl⟩
    (by
      have e : (fun a' : Act => ∀ k : Kin w.heap.size w, wpList P l.toArray Q (l.drop n) a' k.world) = (fun a' => ∀ w', (∃ k : Kin w.heap.size w, w' = k.world) → wpList P l.toArray Q (l.drop n) a' w') := by
        funext a'; exact propext ⟨fun h w' ⟨k, hk⟩ => hk ▸ h k, fun h k => h _ ⟨k, rfl⟩⟩
      rw [e] at h; exact h)
end
end Go.G9
/- Boxes that several new blocks ahead. -/
namespace Go.G9
open Go.RowKit
theorem Blk.far' {w : World} {g : Nat} {t : TypeId} {cs : Array Value} (h : Blk w g t cs) {p : Addr} (hp : g ≠ p.block) (u : Value) : Blk (w.setCell p u) g t cs := (Below.heap_setCell w p u g hp).trans h
theorem Blk.new2 (w : World) (a : Obj) (t : TypeId) (cs : Array Value) : Blk ((w.alloc a).alloc (.cells cs t)) (w.heap.size + 1) t cs := by
  have h := Blk.new (w.alloc a) t cs
  rwa [show (w.alloc a).heap.size = w.heap.size + 1 from by simp] at h
theorem Blk.new3 (w : World) (a b : Obj) (t : TypeId) (cs : Array Value) : Blk (((w.alloc a).alloc b).alloc (.cells cs t)) (w.heap.size + 1 + 1) t cs := by
  have h := Blk.new ((w.alloc a).alloc b) t cs
  rw [show ((w.alloc a).alloc b).heap.size = w.heap.size + 1 + 1 from by simp] at h
  exact h
theorem Blk.new4 (w : World) (a b c : Obj) (t : TypeId) (cs : Array Value) : Blk ((((w.alloc a).alloc b).alloc c).alloc (.cells cs t)) (w.heap.size + 1 + 1 + 1) t cs := by
  have h := Blk.new (((w.alloc a).alloc b).alloc c) t cs
  rw [show (((w.alloc a).alloc b).alloc c).heap.size = w.heap.size + 1 + 1 + 1 from by simp] at h
  exact h
end Go.G9
