/- Slices of the call's own that lie between two numbers of blocks; worlds that have turned in some of them. -/
import Derived.Test.YtbnncgahepcfnaaGreatDoorRl6
import Derived.Test.YtbnncgahepcfnaaGreatDoorRl0
import Derived.Maps.AppendAt
import Derived.Test.YtbnncgahepcfnaaGreatDoorRl3
import Derived.Test.YtbnncgahepcfnaaGreatDoorRl5
import Derived.Deep.RegionWith
import Derived.Deep.Cut
namespace Go.G9
open Go.RowKit
def Within (vs : List Value) (a b : Nat) : Prop := ∀ v ∈ vs, ∀ k, v.ownBlock = some k → a ≤ k ∧ k < b
/-- As w was, but for the blocks of vs. -/
structure GrownL (w w' : World) (vs : List Value) : Prop where
  os : w'.os = w.os
  tape : w'.tape = w.tape
  output : w'.output = w.output
  size : w.heap.size ≤ w'.heap.size
  block : ∀ i, i < w.heap.size → (∀ v ∈ vs, v.ownBlock ≠ some i) → w'.heap[i]? = w.heap[i]?
theorem grownL_one {w w' : World} {v : Value} (h : w.grownBy w' v.ownBlock) : GrownL w w' [v] :=
  ⟨h.os, h.tape, h.output, h.size, fun i hi hv => h.block i hi (fun e => hv v (List.mem_singleton.2 rfl) e.symm)⟩
theorem GrownL.trans {w w1 w2 : World} {vs us : List Value} (h : GrownL w w1 vs) (k : GrownL w1 w2 us) : GrownL w w2 (vs ++ us) :=
  ⟨k.os.trans h.os, k.tape.trans h.tape, k.output.trans h.output, Nat.le_trans h.size k.size, fun i hi hv => (k.block i (Nat.lt_of_lt_of_le hi h.size) (fun v hm => hv v (List.mem_append_right _ hm))).trans (h.block i hi (fun v hm => hv v (List.mem_append_left _ hm)))⟩
theorem GrownL.of_below {w w' : World} {vs : List Value} (h : Below w.heap.size w w') : GrownL w w' vs := ⟨h.os, h.tape, h.output, h.size, fun i hi _ => h.block i hi⟩
theorem GrownL.below {w w' : World} {us : List Value} {B c d : Nat} (h : GrownL w w' us) (hu : Within us c d) (hc : B ≤ c) (hB : B ≤ w.heap.size) : Below B w w' :=
  ⟨h.os, h.tape, h.output, h.size, fun i hi => h.block i (Nat.lt_of_lt_of_le hi hB) (fun v hv e => by have := (hu v hv i e).1; omega)⟩
theorem OwnV.keptL {T : Type} {B : Nat} {e : TypeId} {sz : Nat} {f : T → List Value} {w w' : World} {v : Value} {xs : List T} {us vs : List Value} {a b c d : Nat} (h : OwnV B e sz f w v xs) (hg : GrownL w w' us) (hv : Within vs a b) (hu : Within us c d) (hm : v ∈ vs) (hlt : b ≤ c ∨ d ≤ a) :
    OwnV B e sz f w' v xs := by
  have hl := h.lt
  refine ⟨h.1, ?_⟩
  rcases h.2 with hn | ⟨g, cap, cur, rfl, hB, hh, r⟩
  · exact .inl hn
  · have hg1 := hv _ hm g rfl
    exact .inr ⟨g, cap, cur, rfl, hB, by rw [hg.block g (hl g rfl).2 (fun u hu' e => by have := hu u hu' g e; omega)]; exact hh, r⟩
theorem OwnV.keptN {T : Type} {B : Nat} {e : TypeId} {sz : Nat} {f : T → List Value} {w w' : World} {v : Value} {xs : List T} {us : List Value} (h : OwnV B e sz f w v xs) (hg : GrownL w w' us) (hne : ∀ k, v.ownBlock = some k → ∀ u ∈ us, u.ownBlock ≠ some k) : OwnV B e sz f w' v xs := by
  have hl := h.lt
  refine ⟨h.1, ?_⟩
  rcases h.2 with hn | ⟨g, cap, cur, rfl, hB, hh, r⟩
  · exact .inl hn
  · exact .inr ⟨g, cap, cur, rfl, hB, by rw [hg.block g (hl g rfl).2 (hne g rfl)]; exact hh, r⟩
theorem Blk.keptL {w w' : World} {g : Nat} {t : TypeId} {cs : Array Value} {us : List Value} {c d : Nat} (h : Blk w g t cs) (hg : GrownL w w' us) (hu : Within us c d) (hlt : g < c ∨ d ≤ g) : Blk w' g t cs :=
  (hg.block g h.lt (fun u hu' e => by have := hu u hu' g e; omega)).trans h
/-- No two of these values own one block. -/
def Apart (vs : List Value) : Prop := vs.Pairwise fun u v => ∀ k, u.ownBlock = some k → some k ≠ v.ownBlock
theorem Apart.at {vs : List Value} (h : Apart vs) {i j : Nat} (hij : i < j) {u v : Value} (hu : vs[i]? = some u) (hv : vs[j]? = some v) : ∀ k, u.ownBlock = some k → some k ≠ v.ownBlock := by
  obtain ⟨hi, rfl⟩ := List.getElem?_eq_some_iff.1 hu
  obtain ⟨hj, rfl⟩ := List.getElem?_eq_some_iff.1 hv
  exact (List.pairwise_iff_getElem.1 h) i j hi hj hij
theorem apart2 {u v : Value} (h : ∀ k, u.ownBlock = some k → some k ≠ v.ownBlock) : Apart [u, v] :=
  .cons (fun x hx => by simp only [List.mem_singleton] at hx; subst hx; exact h) (.cons (fun _ h => by cases h) .nil)
theorem apart_of {vs : List Value} (h : ∀ (i j : Nat) (u v : Value), i < j → vs[i]? = some u → vs[j]? = some v → ∀ k, u.ownBlock = some k → some k ≠ v.ownBlock) : Apart vs :=
  List.pairwise_iff_getElem.2 fun i j hi hj hij => h i j _ _ hij (List.getElem?_eq_getElem hi) (List.getElem?_eq_getElem hj)
end Go.G9
/- append of one element, and where the new slice lies; a slice just built. -/
namespace Go.G9
open Go.RowKit
theorem wpList_app1 {P : Program} {w : World} {ops : Array Oper} {rest : List Oper} {o : Oper} {a : Act} {Q : Exit → Act → World → Prop} (hgd : o.guard = none) (s x : Operand) (t : TypeId)
    (ho : o.op = .call { callee := .builtin .append, args := #[s, x], argTypes := #[t, t] })
    (B : Nat) (e : TypeId) (i : TypeInfo) (z : Value) (sz bytes : Nat) (ht : P.underlying t = some (.slice e)) (hi : P.info? e = some i) (hz : i.zero = some z)
    (hsize : i.size = sz) (hby : i.bytes = bytes) (hzs : z.cells.size = sz) (hsz : 0 < sz) {T : Type} (f : T → List Value) (hf : ∀ y, (f y).length = sz) (hone : ∀ y u, u ∈ f y → u.oneCell' = true)
    (v : Value) (xs : List T) (hs : a.eval s = v) (hown : OwnV B e sz f w v xs) (ad : Addr) (c2 : Nat) (y : T) (hx : a.eval x = .slice (some ad) 1 c2) (hR : Rds sz f w (some ad) [y])
    (h63 : xs.length + 1 ≤ maxLen) (hbytes : (xs.length + 1) * bytes ≤ 140737488355328) (hbase : B ≤ w.heap.size)
    (h : ∀ v' w', OwnV B e sz f w' v' (xs ++ [y]) → w.grownBy w' v.ownBlock → (v'.ownBlock = v.ownBlock ∨ v'.ownBlock = some w.heap.size) → wpList P ops Q rest (a.put o.dst v') w') : wpList P ops Q (o :: rest) a w := by
  refine wpList_append_own_at w hgd s x t ho B e i z sz bytes ht hi hz hsize hby hzs hsz v xs.length (xs.flatMap f) hs hown ad 1 c2 ([y].flatMap f) hx (by rw [flat_len hf]; simp) (fun j u hu => Rds.flat hR hf j u hu)
    (fun u hu => by obtain ⟨y', _, hy⟩ := List.mem_flatMap.1 hu; exact hone y' u hy) h63 hbytes hbase (fun v' w' h1 h2 _ h4 => h v' w' ?_ h2 h4)
  unfold OwnV; rw [List.length_append, List.flatMap_append]; exact h1
/-- A slice that has just been built of its elements. -/
theorem OwnV.built {T : Type} {B sz : Nat} {f : T → List Value} (w : World) (xs : List T) (e : TypeId) (hB : B ≤ w.heap.size) (hm : xs.length ≤ maxLen) (hf : ∀ y, (f y).length = sz) :
    OwnV B e sz f (w.alloc (.cells (xs.flatMap f).toArray e)) (.slice (some ⟨w.heap.size, 0, none⟩) xs.length xs.length) xs :=
  OwnV.ofBlk (Blk.new w e _) hB (Nat.le_refl _) hm (by simp [flat_len hf]) (fun i x hx j u hu => by simpa using flat_get hf xs i x hx j u hu) hf
/-- Two slices of the call's own do not share a block. -/
def Ne2 (u v : Value) : Prop := ∀ k, u.ownBlock = some k → v.ownBlock ≠ some k
theorem Ne2.symm {u v : Value} (h : Ne2 u v) : Ne2 v u := fun k h1 h2 => h k h2 h1
theorem Ne2.step {u u' v : Value} {H : Nat} (h : Ne2 u v) (hv : ∀ k, v.ownBlock = some k → k < H) (ha : u'.ownBlock = u.ownBlock ∨ u'.ownBlock = some H) : Ne2 u' v := fun k h1 h2 => by
  rcases ha with ha | ha
  · exact h k (ha ▸ h1) h2
  · rw [ha] at h1; have := hv k h2; injection h1 with h1; omega
theorem OwnV.ne {T : Type} {B sz : Nat} {e : TypeId} {f : T → List Value} {w w' : World} {u v : Value} {xs : List T} (h : OwnV B e sz f w v xs) (hg : w.grownBy w' u.ownBlock) (hn : Ne2 u v) : OwnV B e sz f w' v xs :=
  h.kept hg (fun k h1 h2 => hn k h2.symm h1)


end Go.G9
/- Results of votes: validity, copies, comparisons. -/
namespace Go.Proofs.YtbnncgahepcfnaaGreatDoor
open Go.RowKit Go.G9
structure Res where
  motion : ByteArray
  need : Int
  yes : Int
  no : Int
  abst : Int
  ok : motion.size ≤ maxLen
def Res.cells (r : Res) : List Value := [.string r.motion, .int .i64 r.need, .int .i64 r.yes, .int .i64 r.no, .int .i64 r.abst]
def tallyB (y n a : Int) : Bool := inB y 0 1000 && (inB n 0 1000 && inB a 0 1000)
def resB (r : Res) : Bool := wordB r.motion && (inB r.need 1 3 && tallyB r.yes r.no r.abst)
def reportB (xs : List Res) : Bool := decide (xs.length ≤ 12) && !xs.any (fun r => !resB r)
theorem areVotes_is (n : Int) (v : Bool) (hv : inB n 0 1000 = v) (w : World) : Calls Tryz.prog 106 #[.int .i64 n] w fun e w' => e = .returned (.bool v) ∧ w' = w := by
  subst hv
  go_enter Tryz.func106, Tryz.ntmps106
  go_wp2_with (go_at_call 98; refine (inside_is _ _ _ _ rfl _).mono ?_; rintro e w' ⟨rfl, rfl⟩)
  go_ret
  exact ⟨rfl, rfl⟩
theorem l11Votes_is (n : Int) (v : Bool) (hv : inB n 0 1000 = v) (w : World) : Calls Tryz.prog 108 #[.int .i64 n] w fun e w' => e = .returned (.bool v) ∧ w' = w := by
  subst hv
  go_enter Tryz.func108, Tryz.ntmps108
  go_wp2_with (go_at_call 100; refine (l1In_is _ _ _ _ rfl _).mono ?_; rintro e w' ⟨rfl, rfl⟩)
  go_ret
  exact ⟨rfl, rfl⟩
theorem isNeed_is (n : Int) (v : Bool) (hv : inB n 1 3 = v) (w : World) : Calls Tryz.prog 84 #[.int .i64 n] w fun e w' => e = .returned (.bool v) ∧ w' = w := by
  subst hv
  go_enter Tryz.func84, Tryz.ntmps84
  go_wp2_with (go_at_call 98; refine (inside_is _ _ _ _ rfl _).mono ?_; rintro e w' ⟨rfl, rfl⟩)
  go_ret
  exact ⟨rfl, rfl⟩
theorem l11Need_is (n : Int) (v : Bool) (hv : inB n 1 3 = v) (w : World) : Calls Tryz.prog 90 #[.int .i64 n] w fun e w' => e = .returned (.bool v) ∧ w' = w := by
  subst hv
  go_enter Tryz.func90, Tryz.ntmps90
  go_wp2_with (go_at_call 100; refine (l1In_is _ _ _ _ rfl _).mono ?_; rintro e w' ⟨rfl, rfl⟩)
  go_ret
  exact ⟨rfl, rfl⟩
theorem isValidTally_is (y n a : Int) (v : Bool) (hv : tallyB y n a = v) (w : World) : Calls Tryz.prog 85 #[.agg #[.int .i64 y, .int .i64 n, .int .i64 a]] w fun e w' => e = .returned (.bool v) ∧ Below w.heap.size w w' := by
  subst hv
  go_enter Tryz.func85, Tryz.ntmps85
  go_wp2_with (go_at_call 106; refine (areVotes_is _ _ rfl _).mono ?_; rintro e w' ⟨rfl, rfl⟩)
  all_goals go_ret
  all_goals exact ⟨by simp [tallyB, *], bl1 _ _⟩
theorem l11Good_is (y n a : Int) (v : Bool) (hv : tallyB y n a = v) (w : World) : Calls Tryz.prog 91 #[.agg #[.int .i64 y, .int .i64 n, .int .i64 a]] w fun e w' => e = .returned (.bool v) ∧ Below w.heap.size w w' := by
  subst hv
  go_enter Tryz.func91, Tryz.ntmps91
  go_wp2_with (go_at_call 108; refine (l11Votes_is _ _ rfl _).mono ?_; rintro e w' ⟨rfl, rfl⟩)
  all_goals go_ret
  all_goals exact ⟨by simp [tallyB, *], bl1 _ _⟩
theorem isResult_is (m : ByteArray) (nd y n a : Int) (hm : m.size ≤ maxLen) (v : Bool) (hv : resB ⟨m, nd, y, n, a, hm⟩ = v) (w : World) :
  Calls Tryz.prog 40 #[.agg #[.string m, .int .i64 nd, .int .i64 y, .int .i64 n, .int .i64 a]] w fun e w' => e = .returned (.bool v) ∧ Below w.heap.size w w' := by
  subst hv
  cases h1 : wordB m
  · go_enter Tryz.func40, Tryz.ntmps40
    go_wp2_with (go_at_call 83; refine (isWord_is _ hm _ h1 _).mono ?_; rintro e w' ⟨rfl, rfl⟩)
    go_ret
    exact ⟨by simp [resB, h1], bl1 _ _⟩
  cases h2 : inB nd 1 3
  · go_enter Tryz.func40, Tryz.ntmps40
    go_wp2_with (first | (go_at_call 83; refine (isWord_is _ hm _ h1 _).mono ?_; rintro e w' ⟨rfl, rfl⟩) | (go_at_call 84; refine (isNeed_is _ _ h2 _).mono ?_; rintro e w' ⟨rfl, rfl⟩))
    go_ret
    exact ⟨by simp [resB, h1, h2], bl1 _ _⟩
  · go_enter Tryz.func40, Tryz.ntmps40
    go_wp2_with (first | (go_at_call 83; refine (isWord_is _ hm _ h1 _).mono ?_; rintro e w' ⟨rfl, rfl⟩) | (go_at_call 84; refine (isNeed_is _ _ h2 _).mono ?_; rintro e w' ⟨rfl, rfl⟩) | (go_at_call 85; refine (isValidTally_is _ _ _ _ rfl _).mono ?_; rintro e w' ⟨rfl, hb'⟩))
    go_ret
    exact ⟨by simp [resB, h1, h2], bth (bl1 _ _) hb'⟩
theorem l26One_is (m : ByteArray) (nd y n a : Int) (hm : m.size ≤ maxLen) (v : Bool) (hv : resB ⟨m, nd, y, n, a, hm⟩ = v) (w : World) :
  Calls Tryz.prog 42 #[.agg #[.string m, .int .i64 nd, .int .i64 y, .int .i64 n, .int .i64 a]] w fun e w' => e = .returned (.bool v) ∧ Below w.heap.size w w' := by
  subst hv
  cases h1 : wordB m
  · go_enter Tryz.func42, Tryz.ntmps42
    go_wp2_with (go_at_call 89; refine (l2Word_is _ hm _ h1 _).mono ?_; rintro e w' ⟨rfl, rfl⟩)
    go_ret
    exact ⟨by simp [resB, h1], bl1 _ _⟩
  cases h2 : inB nd 1 3
  · go_enter Tryz.func42, Tryz.ntmps42
    go_wp2_with (first | (go_at_call 89; refine (l2Word_is _ hm _ h1 _).mono ?_; rintro e w' ⟨rfl, rfl⟩) | (go_at_call 90; refine (l11Need_is _ _ h2 _).mono ?_; rintro e w' ⟨rfl, rfl⟩))
    go_ret
    exact ⟨by simp [resB, h1, h2], bl1 _ _⟩
  · go_enter Tryz.func42, Tryz.ntmps42
    go_wp2_with (first | (go_at_call 89; refine (l2Word_is _ hm _ h1 _).mono ?_; rintro e w' ⟨rfl, rfl⟩) | (go_at_call 90; refine (l11Need_is _ _ h2 _).mono ?_; rintro e w' ⟨rfl, rfl⟩) | (go_at_call 91; refine (l11Good_is _ _ _ _ rfl _).mono ?_; rintro e w' ⟨rfl, hb'⟩))
    go_ret
    exact ⟨by simp [resB, h1, h2], bth (bl1 _ _) hb'⟩
theorem info_Res : (Tryz.prog.info? 27).map (fun i => (i.zero, i.size, i.bytes)) = some (some (.agg #[.string ⟨#[]⟩, .int .i64 0, .int .i64 0, .int .i64 0, .int .i64 0]), 5, 48) := by kernel_rfl
end Go.Proofs.YtbnncgahepcfnaaGreatDoor
/- Decided questions: validity. -/
namespace Go.Proofs.YtbnncgahepcfnaaGreatDoor
open Go.RowKit Go.G9
structure Dec where
  id : Int
  day : Int
  need : Int
  yes : List Int
  no : List Int
  done : Bool
def sidesB (ys ns : List Int) : Bool := decide (ys.length ≤ 30) && (decide (ns.length ≤ 30) && (ascB ys 1 99 && (ascB ns 1 99 && !ys.any (hasB ns))))
def decB (d : Dec) : Bool := inB d.id 1 99 && (inB d.day 0 3650 && (inB d.need 1 3 && sidesB d.yes d.no))
end Go.Proofs.YtbnncgahepcfnaaGreatDoor
/- Decided questions: validity of a decided question, copies, comparisons. -/
namespace Go.Proofs.YtbnncgahepcfnaaGreatDoor
open Go.RowKit Go.G9
theorem Blk.far {w : World} {g : Nat} {t : TypeId} {cs : Array Value} (h : Blk w g t cs) {p : Addr} (hp : g ≠ p.block) (u : Value) : Blk (w.setCell p u) g t cs := (Below.heap_setCell w p u g hp).trans h
theorem OwnV.low {T : Type} {B : Nat} {e : TypeId} {sz : Nat} {f : T → List Value} {w : World} {v : Value} {xs : List T} (h : OwnV B e sz f w v xs) {p : Addr} (hp : p.block < B) {u : Value} : OwnV B e sz f (w.setCell p u) v xs := ownsRow_setCell_below h hp u
end Go.Proofs.YtbnncgahepcfnaaGreatDoor
/- Decided questions: adopted or not. -/
namespace Go.Proofs.YtbnncgahepcfnaaGreatDoor
open Go.RowKit Go.G9
def adoB (need y n : Int) : Bool := if need = 1 then decide (n < y) else if need = 2 then decide (0 < y + n) && decide (2 * n ≤ y) else decide (0 < y) && decide (n = 0)
theorem isAdopted_is (need y n : Int) (h0 : -10000 ≤ y) (h1 : y ≤ 10000) (h2 : -10000 ≤ n) (h3 : n ≤ 10000) (v : Bool) (hv : adoB need y n = v) (w : World) : Calls Tryz.prog 107 #[.int .i64 need, .int .i64 y, .int .i64 n] w fun e w' => e = .returned (.bool v) ∧ w' = w := by
  subst hv
  by_cases c1 : need = 1
  · subst c1
    go_enter Tryz.func107, Tryz.ntmps107
    go_wp2
    go_ret
    exact ⟨ret_bool (by simp [adoB]), rfl⟩
  by_cases c2 : need = 2
  · subst c2
    by_cases c3 : 0 < y + n
    · go_enter Tryz.func107, Tryz.ntmps107
      go_wp2
      go_ret
      exact ⟨ret_bool (by rw [Bool.eq_iff_iff]; simp [adoB] <;> omega), rfl⟩
    · go_enter Tryz.func107, Tryz.ntmps107
      go_wp2
      go_ret
      exact ⟨ret_bool (by rw [Bool.eq_iff_iff]; simp [adoB] <;> omega), rfl⟩
  · have d1 : (need == 1) = false := beq_eq_false_iff_ne.2 c1
    have d2 : (need == 2) = false := beq_eq_false_iff_ne.2 c2
    by_cases c3 : 0 < y
    · go_enter Tryz.func107, Tryz.ntmps107
      go_wp2
      go_ret
      exact ⟨ret_bool (by rw [Bool.eq_iff_iff]; simp [adoB, c1, c2] <;> omega), rfl⟩
    · go_enter Tryz.func107, Tryz.ntmps107
      go_wp2
      go_ret
      exact ⟨ret_bool (by rw [Bool.eq_iff_iff]; simp [adoB, c1, c2] <;> omega), rfl⟩
theorem l11Enough_is (need y n : Int) (h0 : -10000 ≤ y) (h1 : y ≤ 10000) (h2 : -10000 ≤ n) (h3 : n ≤ 10000) (v : Bool) (hv : adoB need y n = v) (w : World) : Calls Tryz.prog 129 #[.int .i64 need, .int .i64 y, .int .i64 n] w fun e w' => e = .returned (.bool v) ∧ w' = w := by
  subst hv
  by_cases c1 : need = 1
  · subst c1
    go_enter Tryz.func129, Tryz.ntmps129
    go_wp2
    go_ret
    exact ⟨ret_bool (by simp [adoB]), rfl⟩
  by_cases c2 : need = 2
  · subst c2
    by_cases c3 : 0 < y + n
    · go_enter Tryz.func129, Tryz.ntmps129
      go_wp2
      go_ret
      exact ⟨ret_bool (by rw [Bool.eq_iff_iff]; simp [adoB] <;> omega), rfl⟩
    · go_enter Tryz.func129, Tryz.ntmps129
      go_wp2
      go_ret
      exact ⟨ret_bool (by rw [Bool.eq_iff_iff]; simp [adoB] <;> omega), rfl⟩
  · have d1 : (need == 1) = false := beq_eq_false_iff_ne.2 c1
    have d2 : (need == 2) = false := beq_eq_false_iff_ne.2 c2
    by_cases c3 : 0 < y
    · go_enter Tryz.func129, Tryz.ntmps129
      go_wp2
      go_ret
      exact ⟨ret_bool (by rw [Bool.eq_iff_iff]; simp [adoB, c1, c2] <;> omega), rfl⟩
    · go_enter Tryz.func129, Tryz.ntmps129
      go_wp2
      go_ret
      exact ⟨ret_bool (by rw [Bool.eq_iff_iff]; simp [adoB, c1, c2] <;> omega), rfl⟩
def Dec.ado (d : Dec) : Bool := adoB d.need d.yes.length d.no.length
def wasOut (d : Dec) : Value := if decB d then .tuple #[.bool d.ado, .bool true] else .tuple #[.bool false, .bool false]
theorem decB_len {d : Dec} (h : decB d = true) : d.yes.length ≤ 30 ∧ d.no.length ≤ 30 := by
  simp [decB, sidesB] at h; omega
theorem wasOut_form (d : Dec) : ∃ a b : Bool, wasOut d = .tuple #[.bool a, .bool b] := by
  unfold wasOut; split
  · exact ⟨_, _, rfl⟩
  · exact ⟨_, _, rfl⟩
end Go.Proofs.YtbnncgahepcfnaaGreatDoor
/- Reports: valid ones, the greatest turnout, the closest result. -/
namespace Go.Proofs.YtbnncgahepcfnaaGreatDoor
open Go.RowKit Go.G9
theorem all_at {T : Type} (p : T → Bool) (xs : List T) : allTo (atB p xs) xs.length = xs.all p := by
  rw [Bool.eq_iff_iff, allTo_iff, List.all_eq_true]
  constructor
  · intro h x hx
    obtain ⟨i, hi⟩ := List.getElem?_of_mem hx
    have := h i (List.getElem?_eq_some_iff.1 hi).1
    simpa [atB, hi] using this
  · intro h i hi
    simp [atB, List.getElem?_eq_getElem hi, h _ (List.getElem_mem hi)]
theorem reportB_eq (xs : List Res) : reportB xs = (allTo (atB resB xs) xs.length && decide (xs.length ≤ 12)) := by
  rw [all_at, reportB, Bool.and_comm]; congr 1
  rw [Bool.eq_iff_iff]; simp
theorem reportB_at {xs : List Res} (h : reportB xs = true) {k : Nat} {r : Res} (hr : xs[k]? = some r) : resB r = true := by
  rw [reportB_eq, Bool.and_eq_true] at h
  have := allTo_iff.1 h.1 k (List.getElem?_eq_some_iff.1 hr).1
  simpa [atB, hr] using this
theorem reportB_len {xs : List Res} (h : reportB xs = true) : xs.length ≤ 12 := by
  rw [reportB_eq, Bool.and_eq_true] at h; simpa using h.2
theorem resB_bd {m : ByteArray} {nd y n a : Int} {hs : m.size ≤ maxLen} (h : resB ⟨m, nd, y, n, a, hs⟩ = true) : 0 ≤ y ∧ y ≤ 1000 ∧ 0 ≤ n ∧ n ≤ 1000 ∧ 0 ≤ a ∧ a ≤ 1000 ∧ 1 ≤ nd ∧ nd ≤ 3 := by
  simp [resB, tallyB, inB] at h; omega
theorem l26Good_is (A : Option Addr) (c : Nat) (xs : List Res) (hn : xs.length ≤ 1048576) (v : Bool) (hv : reportB xs = v) (w : World) (hR : Rds 5 Res.cells w A xs) :
  Calls Tryz.prog 53 #[.slice A xs.length c] w fun e w' => e = .returned (.bool v) ∧ Below w.heap.size w w' := by
  subst hv
  go_enter Tryz.func53, Tryz.ntmps53
  go_wp2
  go_loopw [3] (fun i wr => ∃ k : Nat, k ≤ xs.length ∧ i = .int .i64 k ∧ allTo (atB resB xs) k = true ∧ Below w.heap.size w wr) (fun i _ => xs.length - (intOf i).toNat)
  case atStart => exact ⟨0, Nat.zero_le _, rfl, rfl, Below.refl _ _⟩
  case round =>
    obtain ⟨k, hk, rfl, hl, hb⟩ := hrel
    have HL := Lib.hid hl; clear hl
    by_cases hlt : k < xs.length
    · obtain ⟨b, off, x, rfl, hbl, hx, hcx⟩ := hR.at_ hb hlt
      obtain ⟨m, nd, y, n, a, hs⟩ := x
      have f0 := hcx 0 _ rfl
      have f1 := hcx 1 _ rfl
      have f2 := hcx 2 _ rfl
      have f3 := hcx 3 _ rfl
      have f4 := hcx 4 _ rfl
      simp only [Nat.add_zero] at f0
      have g0 := f0 (Kin.self _)
      have g1 := f1 (Kin.self _)
      have g2 := f2 (Kin.self _)
      have g3 := f3 (Kin.self _)
      have g4 := f4 (Kin.self _)
      simp only [Kin.self] at g0
      simp only [Kin.self] at g1
      simp only [Kin.self] at g2
      simp only [Kin.self] at g3
      simp only [Kin.self] at g4
      have HX := Lib.hid hx; clear hx hcx
      cases hv : resB ⟨m, nd, y, n, a, hs⟩
      · go_wp2_with fail
        refine (l26One_is _ _ _ _ _ hs _ hv _).mono ?_
        rintro e w' ⟨rfl, hb'⟩
        go_wp2
        go_ret
        exact ⟨ret_bool (by rw [reportB_eq, allTo_not hlt (by simp [atB, HX.out, hv])]; rfl), bth hb hb'⟩
      · go_wp2_with fail
        refine (l26One_is _ _ _ _ _ hs _ hv _).mono ?_
        rintro e w' ⟨rfl, hb'⟩
        go_wp2
        go_roundw
        case rel => exact ⟨k + 1, by omega, by go_num, allTo_go HL.out (by simp [atB, HX.out, hv]), bth hb hb'⟩
        case measure => simp [intOf]; omega
    · obtain rfl : k = xs.length := by omega
      go_wp2
      go_ret
      exact ⟨ret_bool (by rw [reportB_eq, HL.out]; simp; omega), hb⟩
set_option maxHeartbeats 1000000 in
set_option maxRecDepth 100000 in
theorem indexFunc_Res (A : Option Addr) (c : Nat) (xs : List Res) (hn : xs.length ≤ 1048576) (f : FuncId) (cv : Array Value) (hcall : ∀ args W, (callFunc f args).run Tryz.prog W = .ok (.enter f args) W) (p : Res → Bool) (v : Int) (hv : idxB p xs = v) (w : World) (hR : Rds 5 Res.cells w A xs)
    (hf : ∀ x, x ∈ xs → ∀ W, Below w.heap.size w W → Calls Tryz.prog f (#[.agg #[.string x.motion, .int .i64 x.need, .int .i64 x.yes, .int .i64 x.no, .int .i64 x.abst]] ++ cv) W fun e w' => e = .returned (.bool (p x)) ∧ Below W.heap.size W w') :
  Calls Tryz.prog 97 #[.slice A xs.length c, .func (.func f) #[] cv] w fun e w' => e = .returned (.int .i64 v) ∧ Below w.heap.size w w' := by
  subst hv
  have HF := Lib.hid hf; clear hf
  go_enter Tryz.func97, Tryz.ntmps97
  go_wp2
  go_loopw [8] (fun i wr => ∃ k : Nat, k ≤ xs.length ∧ i = .int .i64 k ∧ allTo (fun i => !atB p xs i) k = true ∧ Below w.heap.size w wr) (fun i _ => xs.length - (intOf i).toNat)
  case atStart => exact ⟨0, Nat.zero_le _, rfl, rfl, Below.refl _ _⟩
  case round =>
    obtain ⟨k, hk, rfl, hl, hb⟩ := hrel
    have HL := Lib.hid hl; clear hl
    by_cases hlt : k < xs.length
    · obtain ⟨b, off, x, rfl, hbl, hx, hcx⟩ := hR.at_ hb hlt
      have HF' := Lib.hid (HF.out x (List.mem_of_getElem? hx))
      obtain ⟨m, nd, y, n, a, hs⟩ := x
      have f0 := hcx 0 _ rfl
      have f1 := hcx 1 _ rfl
      have f2 := hcx 2 _ rfl
      have f3 := hcx 3 _ rfl
      have f4 := hcx 4 _ rfl
      simp only [Nat.add_zero] at f0
      have g0 := f0 (Kin.self _)
      have g1 := f1 (Kin.self _)
      have g2 := f2 (Kin.self _)
      have g3 := f3 (Kin.self _)
      have g4 := f4 (Kin.self _)
      simp only [Kin.self] at g0
      simp only [Kin.self] at g1
      simp only [Kin.self] at g2
      simp only [Kin.self] at g3
      simp only [Kin.self] at g4
      have HX := Lib.hid hx; clear hx hcx
      go_wp2_with fail
      refine (HF'.out _ hb).mono ?_
      rintro e w' ⟨rfl, hb'⟩
      cases hp : p ⟨m, nd, y, n, a, hs⟩
      · go_wp2
        go_roundw
        case rel => exact ⟨k + 1, by omega, by go_num, allTo_go HL.out (by simp [atB, HX.out, hp]), bth hb hb'⟩
        case measure => simp [intOf]; omega
      · go_wp2
        go_ret
        exact ⟨ret_int (idxB_found hlt HL.out (by simp [atB, HX.out, hp])).symm, bth hb hb'⟩
    · obtain rfl : k = xs.length := by omega
      go_wp2
      go_ret
      exact ⟨ret_int (idxB_none HL.out).symm, hb⟩
theorem containsFunc_Res (A : Option Addr) (c : Nat) (xs : List Res) (hn : xs.length ≤ 1048576) (f : FuncId) (cv : Array Value) (hcall : ∀ args W, (callFunc f args).run Tryz.prog W = .ok (.enter f args) W) (p : Res → Bool) (v : Bool) (hv : xs.any p = v) (w : World) (hR : Rds 5 Res.cells w A xs)
    (hf : ∀ x, x ∈ xs → ∀ W, Below w.heap.size w W → Calls Tryz.prog f (#[.agg #[.string x.motion, .int .i64 x.need, .int .i64 x.yes, .int .i64 x.no, .int .i64 x.abst]] ++ cv) W fun e w' => e = .returned (.bool (p x)) ∧ Below W.heap.size W w') :
  Calls Tryz.prog 54 #[.slice A xs.length c, .func (.func f) #[] cv] w fun e w' => e = .returned (.bool v) ∧ Below w.heap.size w w' := by
  subst hv
  have HF := Lib.hid hf; clear hf
  have hg := idxB_ge p xs
  have HG := Lib.hid hg; clear hg
  go_enter Tryz.func54, Tryz.ntmps54
  go_wp2_with fail
  refine (indexFunc_Res A c xs hn f cv hcall p _ rfl _ hR HF.out).mono ?_
  rintro e w' ⟨rfl, hb⟩
  go_wp2
  go_ret
  exact ⟨ret_bool HG.out, hb⟩
theorem isReportF_is (m : ByteArray) (nd y n a : Int) (hm : m.size ≤ maxLen) (v : Bool) (hv : (!resB ⟨m, nd, y, n, a, hm⟩) = v) (w : World) :
  Calls Tryz.prog 55 #[.agg #[.string m, .int .i64 nd, .int .i64 y, .int .i64 n, .int .i64 a]] w fun e w' => e = .returned (.bool v) ∧ Below w.heap.size w w' := by
  subst hv
  go_enter Tryz.func55, Tryz.ntmps55
  go_wp2_with fail
  refine (isResult_is _ _ _ _ _ hm _ rfl _).mono ?_
  rintro e w' ⟨rfl, hb⟩
  go_wp2
  go_ret
  exact ⟨rfl, bth (bl1 _ _) hb⟩
theorem isReport_is (A : Option Addr) (c : Nat) (xs : List Res) (hn : xs.length ≤ 1048576) (v : Bool) (hv : reportB xs = v) (w : World) (hR : Rds 5 Res.cells w A xs) :
  Calls Tryz.prog 15 #[.slice A xs.length c] w fun e w' => e = .returned (.bool v) ∧ Below w.heap.size w w' := by
  subst hv
  by_cases hl : xs.length ≤ 12
  · go_enter Tryz.func15, Tryz.ntmps15
    go_wp2_with fail
    refine (containsFunc_Res A c xs hn _ #[] (run_enter Tryz.func55 (by kernel_rfl) (by kernel_rfl)) (fun r => !resB r) _ rfl _ hR (fun x _ W _ => isReportF_is _ _ _ _ _ x.ok _ rfl W)).mono ?_
    rintro e w' ⟨rfl, hb⟩
    go_wp2
    go_ret
    exact ⟨ret_bool (by rw [reportB]; simp [hl]), hb⟩
  · go_enter Tryz.func15, Tryz.ntmps15
    go_wp2
    go_ret
    exact ⟨ret_bool (by rw [reportB]; simp [hl]), Below.refl _ _⟩
def absI (n : Int) : Int := if n < 0 then -n else n
def Res.own (r : Res) : Int := r.yes + r.no + r.abst
def Res.gap (r : Res) : Int := absI (r.yes - r.no)
def gtr (xs : List Res) : Nat → Int × Int
  | 0 => (0, -1)
  | k + 1 => match xs[k]? with | some r => if (gtr xs k).2 < r.own then ((k : Int), r.own) else gtr xs k | none => gtr xs k
def gtOut (xs : List Res) : Value := if reportB xs && !xs.isEmpty then .tuple #[.int .i64 (gtr xs xs.length).1, .int .i64 (gtr xs xs.length).2, .bool true] else .tuple #[.int .i64 0, .int .i64 0, .bool false]
def cls (xs : List Res) : Nat → Nat
  | 0 => 0
  | k + 1 => match xs[k]?, xs[cls xs k]? with | some r, some q => if r.gap < q.gap then k else cls xs k | _, _ => cls xs k
theorem cls_le (xs : List Res) : ∀ k, cls xs k ≤ k ∧ (0 < k → cls xs k < k)
  | 0 => ⟨Nat.le_refl _, fun h => absurd h (Nat.lt_irrefl _)⟩
  | k + 1 => by
    have := (cls_le xs k).1
    refine ⟨?_, fun _ => ?_⟩
    all_goals
      unfold cls
      split
      · split <;> omega
      · omega
def clsOut (xs : List Res) : Value := if reportB xs && !xs.isEmpty then .tuple #[.int .i64 (cls xs xs.length), .bool true] else .tuple #[.int .i64 0, .bool false]
end Go.Proofs.YtbnncgahepcfnaaGreatDoor
/- Marks in slices of results. -/
namespace Go.Proofs.YtbnncgahepcfnaaGreatDoor
open Go.RowKit Go.G9
end Go.Proofs.YtbnncgahepcfnaaGreatDoor
/- Reports: which outcomes failed by need alone. -/
namespace Go.Proofs.YtbnncgahepcfnaaGreatDoor
open Go.RowKit Go.G9
def Res.ado (r : Res) : Bool := adoB r.need r.yes r.no
def obnP (r : Res) : Bool := !r.ado && decide (r.no < r.yes)
def obn (xs : List Res) : Nat → List Int
  | 0 => []
  | k + 1 => match xs[k]? with | some r => if obnP r then obn xs k ++ [(k : Int)] else obn xs k | none => obn xs k
theorem obn_len (xs : List Res) : ∀ k, (obn xs k).length ≤ k
  | 0 => Nat.le_refl _
  | k + 1 => by
    have := obn_len xs k
    unfold obn
    split
    · split <;> simp <;> omega
    · omega
def obnL (xs : List Res) : List Int := if reportB xs then obn xs xs.length else []
theorem adopted_is (m : ByteArray) (nd y n a : Int) (h : 0 ≤ y ∧ y ≤ 1000 ∧ 0 ≤ n ∧ n ≤ 1000) (v : Bool) (hv : adoB nd y n = v) (w : World) :
  Calls Tryz.prog 88 #[.agg #[.string m, .int .i64 nd, .int .i64 y, .int .i64 n, .int .i64 a]] w fun e w' => e = .returned (.bool v) ∧ Below w.heap.size w w' := by
  go_enter Tryz.func88, Tryz.ntmps88
  go_wp2_with (go_at_call 107; refine (isAdopted_is _ _ _ (by omega) (by omega) (by omega) (by omega) _ hv _).mono ?_; rintro e w' ⟨rfl, rfl⟩)
  go_ret
  exact ⟨rfl, bl1 _ _⟩
theorem l11Adopted_is (nd y n a : Int) (h : 0 ≤ y ∧ y ≤ 1000 ∧ 0 ≤ n ∧ n ≤ 1000) (v : Bool) (hv : adoB nd y n = v) (w : World) :
  Calls Tryz.prog 109 #[.int .i64 nd, .agg #[.int .i64 y, .int .i64 n, .int .i64 a]] w fun e w' => e = .returned (.bool v) ∧ Below w.heap.size w w' := by
  go_enter Tryz.func109, Tryz.ntmps109
  go_wp2_with (go_at_call 129; refine (l11Enough_is _ _ _ (by omega) (by omega) (by omega) (by omega) _ hv _).mono ?_; rintro e w' ⟨rfl, rfl⟩)
  go_ret
  exact ⟨rfl, bl1 _ _⟩
theorem l26Adopted_is (m : ByteArray) (nd y n a : Int) (h : 0 ≤ y ∧ y ≤ 1000 ∧ 0 ≤ n ∧ n ≤ 1000) (v : Bool) (hv : adoB nd y n = v) (w : World) :
  Calls Tryz.prog 93 #[.agg #[.string m, .int .i64 nd, .int .i64 y, .int .i64 n, .int .i64 a]] w fun e w' => e = .returned (.bool v) ∧ Below w.heap.size w w' := by
  go_enter Tryz.func93, Tryz.ntmps93
  go_wp2_with (go_at_call 109; refine (l11Adopted_is nd y n a h _ hv _).mono ?_; rintro e w' ⟨rfl, hb'⟩)
  go_ret
  exact ⟨rfl, bth (bl1 _ _) hb'⟩
end Go.Proofs.YtbnncgahepcfnaaGreatDoor
