/- Results of votes: validity, copies, comparisons. -/
import Derived.Test.YtbnncgahepcfnaaGreatDoorNo3
import Derived.Test.YtbnncgahepcfnaaGreatDoorNo6
import Derived.Test.YtbnncgahepcfnaaGreatDoorNo7
import Derived.Deep.RegionWith
import Derived.Deep.Cut
import Derived.Lib.SlicesCompact
import Derived.Test.YtbnncgahepcfnaaGreatDoorNo4
import Derived.Lib.OwnBridge
namespace Go.Proofs.YtbnncgahepcfnaaGreatDoor
open Go.RowKit Go.G9
structure Res where
  motion : ByteArray
  need : Int
  yes : Int
  no : Int
  abst : Int
  ok : motion.size ≤ maxLen
def Res.cells (r : Res) : List Value := [.string r.motion, .int .i64 r.need, .int .i64 r.yes, .int .i64 r.no, .int .i64 r.abst]
def tallyB (y n a : Int) : Bool := inB y 0 1000 && (inB n 0 1000 && inB a 0 1000)
def resB (r : Res) : Bool := wordB r.motion && (inB r.need 1 3 && tallyB r.yes r.no r.abst)
def reportB (xs : List Res) : Bool := decide (xs.length ≤ 12) && !xs.any (fun r => !resB r)
theorem areVotes_is (n : Int) (v : Bool) (hv : inB n 0 1000 = v) (w : World) : Calls Tryz.prog 106 #[.int .i64 n] w fun e w' => e = .returned (.bool v) ∧ w' = w := by
  subst hv
  go_enter Tryz.func106, Tryz.ntmps106
  go_wp2_with (go_at_call 98; refine (inside_is _ _ _ _ rfl _).mono ?_; rintro e w' ⟨rfl, rfl⟩)
  go_ret
  exact ⟨rfl, rfl⟩
theorem l11Votes_is (n : Int) (v : Bool) (hv : inB n 0 1000 = v) (w : World) : Calls Tryz.prog 108 #[.int .i64 n] w fun e w' => e = .returned (.bool v) ∧ w' = w := by
  subst hv
  go_enter Tryz.func108, Tryz.ntmps108
  go_wp2_with (go_at_call 100; refine (l1In_is _ _ _ _ rfl _).mono ?_; rintro e w' ⟨rfl, rfl⟩)
  go_ret
  exact ⟨rfl, rfl⟩
theorem isNeed_is (n : Int) (v : Bool) (hv : inB n 1 3 = v) (w : World) : Calls Tryz.prog 84 #[.int .i64 n] w fun e w' => e = .returned (.bool v) ∧ w' = w := by
  subst hv
  go_enter Tryz.func84, Tryz.ntmps84
  go_wp2_with (go_at_call 98; refine (inside_is _ _ _ _ rfl _).mono ?_; rintro e w' ⟨rfl, rfl⟩)
  go_ret
  exact ⟨rfl, rfl⟩
theorem l11Need_is (n : Int) (v : Bool) (hv : inB n 1 3 = v) (w : World) : Calls Tryz.prog 90 #[.int .i64 n] w fun e w' => e = .returned (.bool v) ∧ w' = w := by
  subst hv
  go_enter Tryz.func90, Tryz.ntmps90
  go_wp2_with (go_at_call 100; refine (l1In_is _ _ _ _ rfl _).mono ?_; rintro e w' ⟨rfl, rfl⟩)
  go_ret
  exact ⟨rfl, rfl⟩
theorem isValidTally_is (y n a : Int) (v : Bool) (hv : tallyB y n a = v) (w : World) : Calls Tryz.prog 85 #[.agg #[.int .i64 y, .int .i64 n, .int .i64 a]] w fun e w' => e = .returned (.bool v) ∧ Below w.heap.size w w' := by
  subst hv
  go_enter Tryz.func85, Tryz.ntmps85
  go_wp2_with (go_at_call 106; refine (areVotes_is _ _ rfl _).mono ?_; rintro e w' ⟨rfl, rfl⟩)
  all_goals go_ret
  all_goals exact ⟨by simp [tallyB, *], bl1 _ _⟩
theorem l11Good_is (y n a : Int) (v : Bool) (hv : tallyB y n a = v) (w : World) : Calls Tryz.prog 91 #[.agg #[.int .i64 y, .int .i64 n, .int .i64 a]] w fun e w' => e = .returned (.bool v) ∧ Below w.heap.size w w' := by
  subst hv
  go_enter Tryz.func91, Tryz.ntmps91
  go_wp2_with (go_at_call 108; refine (l11Votes_is _ _ rfl _).mono ?_; rintro e w' ⟨rfl, rfl⟩)
  all_goals go_ret
  all_goals exact ⟨by simp [tallyB, *], bl1 _ _⟩
theorem isResult_is (m : ByteArray) (nd y n a : Int) (hm : m.size ≤ maxLen) (v : Bool) (hv : resB ⟨m, nd, y, n, a, hm⟩ = v) (w : World) :
  Calls Tryz.prog 40 #[.agg #[.string m, .int .i64 nd, .int .i64 y, .int .i64 n, .int .i64 a]] w fun e w' => e = .returned (.bool v) ∧ Below w.heap.size w w' := by
  subst hv
  cases h1 : wordB m
  · go_enter Tryz.func40, Tryz.ntmps40
    go_wp2_with (go_at_call 83; refine (isWord_is _ hm _ h1 _).mono ?_; rintro e w' ⟨rfl, rfl⟩)
    go_ret
    exact ⟨by simp [resB, h1], bl1 _ _⟩
  cases h2 : inB nd 1 3
  · go_enter Tryz.func40, Tryz.ntmps40
    go_wp2_with (first | (go_at_call 83; refine (isWord_is _ hm _ h1 _).mono ?_; rintro e w' ⟨rfl, rfl⟩) | (go_at_call 84; refine (isNeed_is _ _ h2 _).mono ?_; rintro e w' ⟨rfl, rfl⟩))
    go_ret
    exact ⟨by simp [resB, h1, h2], bl1 _ _⟩
  · go_enter Tryz.func40, Tryz.ntmps40
    go_wp2_with (first | (go_at_call 83; refine (isWord_is _ hm _ h1 _).mono ?_; rintro e w' ⟨rfl, rfl⟩) | (go_at_call 84; refine (isNeed_is _ _ h2 _).mono ?_; rintro e w' ⟨rfl, rfl⟩) | (go_at_call 85; refine (isValidTally_is _ _ _ _ rfl _).mono ?_; rintro e w' ⟨rfl, hb'⟩))
    go_ret
    exact ⟨by simp [resB, h1, h2], bth (bl1 _ _) hb'⟩
theorem l26One_is (m : ByteArray) (nd y n a : Int) (hm : m.size ≤ maxLen) (v : Bool) (hv : resB ⟨m, nd, y, n, a, hm⟩ = v) (w : World) :
  Calls Tryz.prog 42 #[.agg #[.string m, .int .i64 nd, .int .i64 y, .int .i64 n, .int .i64 a]] w fun e w' => e = .returned (.bool v) ∧ Below w.heap.size w w' := by
  subst hv
  cases h1 : wordB m
  · go_enter Tryz.func42, Tryz.ntmps42
    go_wp2_with (go_at_call 89; refine (l2Word_is _ hm _ h1 _).mono ?_; rintro e w' ⟨rfl, rfl⟩)
    go_ret
    exact ⟨by simp [resB, h1], bl1 _ _⟩
  cases h2 : inB nd 1 3
  · go_enter Tryz.func42, Tryz.ntmps42
    go_wp2_with (first | (go_at_call 89; refine (l2Word_is _ hm _ h1 _).mono ?_; rintro e w' ⟨rfl, rfl⟩) | (go_at_call 90; refine (l11Need_is _ _ h2 _).mono ?_; rintro e w' ⟨rfl, rfl⟩))
    go_ret
    exact ⟨by simp [resB, h1, h2], bl1 _ _⟩
  · go_enter Tryz.func42, Tryz.ntmps42
    go_wp2_with (first | (go_at_call 89; refine (l2Word_is _ hm _ h1 _).mono ?_; rintro e w' ⟨rfl, rfl⟩) | (go_at_call 90; refine (l11Need_is _ _ h2 _).mono ?_; rintro e w' ⟨rfl, rfl⟩) | (go_at_call 91; refine (l11Good_is _ _ _ _ rfl _).mono ?_; rintro e w' ⟨rfl, hb'⟩))
    go_ret
    exact ⟨by simp [resB, h1, h2], bth (bl1 _ _) hb'⟩
theorem info_Res : (Tryz.prog.info? 27).map (fun i => (i.zero, i.size, i.bytes)) = some (some (.agg #[.string ⟨#[]⟩, .int .i64 0, .int .i64 0, .int .i64 0, .int .i64 0]), 5, 48) := by kernel_rfl
end Go.Proofs.YtbnncgahepcfnaaGreatDoor
/- Decided questions: validity. -/
namespace Go.Proofs.YtbnncgahepcfnaaGreatDoor
open Go.RowKit Go.G9
structure Dec where
  id : Int
  day : Int
  need : Int
  yes : List Int
  no : List Int
  done : Bool
def sidesB (ys ns : List Int) : Bool := decide (ys.length ≤ 30) && (decide (ns.length ≤ 30) && (ascB ys 1 99 && (ascB ns 1 99 && !ys.any (hasB ns))))
def decB (d : Dec) : Bool := inB d.id 1 99 && (inB d.day 0 3650 && (inB d.need 1 3 && sidesB d.yes d.no))
end Go.Proofs.YtbnncgahepcfnaaGreatDoor
/- Decided questions: validity of a decided question, copies, comparisons. -/
namespace Go.Proofs.YtbnncgahepcfnaaGreatDoor
open Go.RowKit Go.G9
theorem Blk.far {w : World} {g : Nat} {t : TypeId} {cs : Array Value} (h : Blk w g t cs) {p : Addr} (hp : g ≠ p.block) (u : Value) : Blk (w.setCell p u) g t cs := (Below.heap_setCell w p u g hp).trans h
theorem OwnV.low {T : Type} {B : Nat} {e : TypeId} {sz : Nat} {f : T → List Value} {w : World} {v : Value} {xs : List T} (h : OwnV B e sz f w v xs) {p : Addr} (hp : p.block < B) {u : Value} : OwnV B e sz f (w.setCell p u) v xs := ownsRow_setCell_below h hp u
end Go.Proofs.YtbnncgahepcfnaaGreatDoor
/- Decided questions: adopted or not. -/
namespace Go.Proofs.YtbnncgahepcfnaaGreatDoor
open Go.RowKit Go.G9
def adoB (need y n : Int) : Bool := if need = 1 then decide (n < y) else if need = 2 then decide (0 < y + n) && decide (2 * n ≤ y) else decide (0 < y) && decide (n = 0)
theorem isAdopted_is (need y n : Int) (h0 : -10000 ≤ y) (h1 : y ≤ 10000) (h2 : -10000 ≤ n) (h3 : n ≤ 10000) (v : Bool) (hv : adoB need y n = v) (w : World) : Calls Tryz.prog 107 #[.int .i64 need, .int .i64 y, .int .i64 n] w fun e w' => e = .returned (.bool v) ∧ w' = w := by
  subst hv
  by_cases c1 : need = 1
  · subst c1
    go_enter Tryz.func107, Tryz.ntmps107
    go_wp2
    go_ret
    exact ⟨ret_bool (by simp [adoB]), rfl⟩
  by_cases c2 : need = 2
  · subst c2
    by_cases c3 : 0 < y + n
    · go_enter Tryz.func107, Tryz.ntmps107
      go_wp2
      go_ret
      exact ⟨ret_bool (by rw [Bool.eq_iff_iff]; simp [adoB] <;> omega), rfl⟩
    · go_enter Tryz.func107, Tryz.ntmps107
      go_wp2
      go_ret
      exact ⟨ret_bool (by rw [Bool.eq_iff_iff]; simp [adoB] <;> omega), rfl⟩
  · have d1 : (need == 1) = false := beq_eq_false_iff_ne.2 c1
    have d2 : (need == 2) = false := beq_eq_false_iff_ne.2 c2
    by_cases c3 : 0 < y
    · go_enter Tryz.func107, Tryz.ntmps107
      go_wp2
      go_ret
      exact ⟨ret_bool (by rw [Bool.eq_iff_iff]; simp [adoB, c1, c2] <;> omega), rfl⟩
    · go_enter Tryz.func107, Tryz.ntmps107
      go_wp2
      go_ret
      exact ⟨ret_bool (by rw [Bool.eq_iff_iff]; simp [adoB, c1, c2] <;> omega), rfl⟩
theorem l11Enough_is (need y n : Int) (h0 : -10000 ≤ y) (h1 : y ≤ 10000) (h2 : -10000 ≤ n) (h3 : n ≤ 10000) (v : Bool) (hv : adoB need y n = v) (w : World) : Calls Tryz.prog 129 #[.int .i64 need, .int .i64 y, .int .i64 n] w fun e w' => e = .returned (.bool v) ∧ w' = w := by
  subst hv
  by_cases c1 : need = 1
  · subst c1
    go_enter Tryz.func129, Tryz.ntmps129
    go_wp2
    go_ret
    exact ⟨ret_bool (by simp [adoB]), rfl⟩
  by_cases c2 : need = 2
  · subst c2
    by_cases c3 : 0 < y + n
    · go_enter Tryz.func129, Tryz.ntmps129
      go_wp2
      go_ret
      exact ⟨ret_bool (by rw [Bool.eq_iff_iff]; simp [adoB] <;> omega), rfl⟩
    · go_enter Tryz.func129, Tryz.ntmps129
      go_wp2
      go_ret
      exact ⟨ret_bool (by rw [Bool.eq_iff_iff]; simp [adoB] <;> omega), rfl⟩
  · have d1 : (need == 1) = false := beq_eq_false_iff_ne.2 c1
    have d2 : (need == 2) = false := beq_eq_false_iff_ne.2 c2
    by_cases c3 : 0 < y
    · go_enter Tryz.func129, Tryz.ntmps129
      go_wp2
      go_ret
      exact ⟨ret_bool (by rw [Bool.eq_iff_iff]; simp [adoB, c1, c2] <;> omega), rfl⟩
    · go_enter Tryz.func129, Tryz.ntmps129
      go_wp2
      go_ret
      exact ⟨ret_bool (by rw [Bool.eq_iff_iff]; simp [adoB, c1, c2] <;> omega), rfl⟩
def Dec.ado (d : Dec) : Bool := adoB d.need d.yes.length d.no.length
def wasOut (d : Dec) : Value := if decB d then .tuple #[.bool d.ado, .bool true] else .tuple #[.bool false, .bool false]
theorem decB_len {d : Dec} (h : decB d = true) : d.yes.length ≤ 30 ∧ d.no.length ≤ 30 := by
  simp [decB, sidesB] at h; omega
theorem wasOut_form (d : Dec) : ∃ a b : Bool, wasOut d = .tuple #[.bool a, .bool b] := by
  unfold wasOut; split
  · exact ⟨_, _, rfl⟩
  · exact ⟨_, _, rfl⟩
end Go.Proofs.YtbnncgahepcfnaaGreatDoor
/- Decided questions: who changed sides. -/
namespace Go.Proofs.YtbnncgahepcfnaaGreatDoor
open Go.RowKit Go.G9
def mems (p : Int → Bool) : Nat → List Int
  | 0 => []
  | k + 1 => mems p k ++ (if p ((k : Int) + 1) then [(k : Int) + 1] else [])
theorem mems_len (p : Int → Bool) : ∀ k, (mems p k).length ≤ k
  | 0 => Nat.le_refl _
  | k + 1 => by have := mems_len p k; unfold mems; split <;> simp <;> omega
def cmP (d : Dec) (ys ns : List Int) (m : Int) : Bool := (hasB d.yes m && hasB ns m) || (hasB d.no m && hasB ys m)
def cmOk (d : Dec) (ys ns : List Int) : Bool := decB d && sidesB ys ns
def cmL (d : Dec) (ys ns : List Int) : List Int := if cmOk d ys ns then mems (cmP d ys ns) 99 else []
end Go.Proofs.YtbnncgahepcfnaaGreatDoor
/- Absent members: the plain law. -/
namespace Go.G9
theorem sorted_ext {T : Type} {lt : T → T → Prop} (irr : ∀ a, ¬ lt a a) (tr : ∀ a b c, lt a b → lt b c → lt a c) : ∀ {xs ys : List T}, xs.Pairwise lt → ys.Pairwise lt → (∀ x, x ∈ xs ↔ x ∈ ys) → xs = ys
  | [], [], _, _, _ => rfl
  | [], y :: ys, _, _, h => absurd ((h y).2 (by simp)) (by simp)
  | x :: xs, [], _, _, h => absurd ((h x).1 (by simp)) (by simp)
  | x :: xs, y :: ys, hx, hy, h => by
    obtain ⟨hx1, hx2⟩ := List.pairwise_cons.1 hx
    obtain ⟨hy1, hy2⟩ := List.pairwise_cons.1 hy
    have e : x = y := by
      rcases List.mem_cons.1 ((h x).1 (by simp)) with e | e
      · exact e
      · rcases List.mem_cons.1 ((h y).2 (by simp)) with e' | e'
        · exact e'.symm
        · exact absurd (tr _ _ _ (hy1 _ e) (hx1 _ e')) (irr _)
    subst e
    rw [sorted_ext irr tr hx2 hy2]
    intro z
    constructor
    · intro hz
      rcases List.mem_cons.1 ((h z).1 (List.mem_cons_of_mem _ hz)) with rfl | e
      · exact absurd (hx1 _ hz) (irr _)
      · exact e
    · intro hz
      rcases List.mem_cons.1 ((h z).2 (List.mem_cons_of_mem _ hz)) with rfl | e
      · exact absurd (hy1 _ hz) (irr _)
      · exact e
end Go.G9
namespace Go.Proofs.YtbnncgahepcfnaaGreatDoor
open Go.RowKit Go.G9
theorem asc_at {xs : List Int} {lo hi : Int} (h : ascB xs lo hi = true) (k : Nat) (hk : k < xs.length) : lo ≤ xs[k] ∧ xs[k] ≤ hi ∧ (∀ j (hj : k = j + 1), xs[j]'(by omega) < xs[k]) := by
  have h0 := allTo_iff.1 h k hk
  cases k with
  | zero =>
    simp only [ascStep, List.getElem?_eq_getElem hk] at h0
    have h1 := inB_iff.1 h0
    exact ⟨h1.1, h1.2, fun j hj => by omega⟩
  | succ j =>
    have hj : j < xs.length := by omega
    simp only [ascStep, List.getElem?_eq_getElem hk, List.getElem?_eq_getElem hj, Bool.and_eq_true, decide_eq_true_eq] at h0
    have h1 := inB_iff.1 h0.1
    exact ⟨h1.1, h1.2, fun i hi => by cases hi; exact h0.2⟩
theorem asc_pw {xs : List Int} {lo hi : Int} (h : ascB xs lo hi = true) : xs.Pairwise (· < ·) := by
  rw [List.pairwise_iff_getElem]
  intro i j hi hj hij
  induction j with
  | zero => omega
  | succ j ih =>
    have h1 := (asc_at h (j + 1) hj).2.2 j rfl
    by_cases e : i = j
    · subst e; exact h1
    · have := ih (by omega) (by omega); omega
theorem asc_mem {xs : List Int} {lo hi : Int} (h : ascB xs lo hi = true) : ∀ x ∈ xs, lo ≤ x ∧ x ≤ hi := by
  intro x hx
  obtain ⟨k, hk, rfl⟩ := List.mem_iff_getElem.1 hx
  have := asc_at h k hk
  exact ⟨this.1, this.2.1⟩
theorem hasB_mem {xs : List Int} {n : Int} : hasB xs n = true ↔ n ∈ xs := by
  unfold hasB
  rw [List.any_eq_true]
  constructor
  · rintro ⟨x, hx, h⟩; simp at h; subst h; exact hx
  · intro h; exact ⟨n, h, by simp⟩
theorem hasB_nmem {xs : List Int} {n : Int} : hasB xs n = false ↔ n ∉ xs := by rw [← Bool.not_eq_true, hasB_mem]
theorem sidesB_facts {ys ns : List Int} (h : sidesB ys ns = true) : ys.Pairwise (· < ·) ∧ ns.Pairwise (· < ·) ∧ (∀ x ∈ ys, 1 ≤ x ∧ x ≤ 99) ∧ (∀ x ∈ ns, 1 ≤ x ∧ x ≤ 99) ∧ ∀ x ∈ ys, x ∉ ns := by
  simp only [sidesB, Bool.and_eq_true, decide_eq_true_eq, Bool.not_eq_true', List.any_eq_false] at h
  obtain ⟨_, _, h1, h2, h3⟩ := h
  exact ⟨asc_pw h1, asc_pw h2, asc_mem h1, asc_mem h2, fun x hx hm => h3 x hx (hasB_mem.2 hm)⟩
theorem mems_mem (p : Int → Bool) : ∀ (k : Nat) (x : Int), x ∈ mems p k ↔ p x = true ∧ 1 ≤ x ∧ x ≤ (k : Int)
  | 0, x => by simp [mems]; omega
  | k + 1, x => by
    rw [mems, List.mem_append, mems_mem p k x]
    by_cases hp : p ((k : Int) + 1) = true
    · rw [if_pos hp]; simp only [List.mem_singleton]
      constructor
      · rintro (⟨a, b, c⟩ | rfl)
        · exact ⟨a, b, by omega⟩
        · exact ⟨hp, by omega, by omega⟩
      · rintro ⟨a, b, c⟩
        by_cases e : x = (k : Int) + 1
        · exact .inr e
        · exact .inl ⟨a, b, by omega⟩
    · rw [if_neg hp]; simp only [List.not_mem_nil, or_false]
      constructor
      · rintro ⟨a, b, c⟩; exact ⟨a, b, by omega⟩
      · rintro ⟨a, b, c⟩
        refine ⟨a, b, ?_⟩
        by_cases e : x = (k : Int) + 1
        · subst e; exact absurd a hp
        · omega
theorem mems_pw (p : Int → Bool) : ∀ k, (mems p k).Pairwise (· < ·)
  | 0 => by simp [mems]
  | k + 1 => by
    rw [mems, List.pairwise_append]
    refine ⟨mems_pw p k, by split <;> simp, fun a ha b hb => ?_⟩
    have := (mems_mem p k a).1 ha
    split at hb
    · simp at hb; omega
    · simp at hb
def abP (d : Dec) (ys ns : List Int) (m : Int) : Bool := (hasB ys m || hasB ns m) && (!hasB d.yes m && !hasB d.no m)
def abL (d : Dec) (ys ns : List Int) : List Int := if cmOk d ys ns then mems (abP d ys ns) 99 else []
theorem abL_len (d : Dec) (ys ns : List Int) : (abL d ys ns).length ≤ 99 := by
  unfold abL; split
  · exact mems_len _ _
  · simp
theorem ab_sort (d : Dec) {ys ns : List Int} (h : sidesB ys ns = true) : ((ys ++ ns).mergeSort fun x y => decide (x ≤ y)).filter (fun x => !(hasB d.yes x || hasB d.no x)) = mems (abP d ys ns) 99 := by
  obtain ⟨h1, h2, h3, h4, h5⟩ := sidesB_facts h
  have hp : ((ys ++ ns).mergeSort fun x y => decide (x ≤ y)).Perm (ys ++ ns) := List.mergeSort_perm _ _
  have hs : ((ys ++ ns).mergeSort fun x y => decide (x ≤ y)).Pairwise (fun a b => decide (a ≤ b) = true) := List.pairwise_mergeSort (fun a b c h1 h2 => by simp at h1 h2 ⊢; omega) (fun a b => by simp; omega) _
  have hd : (ys ++ ns).Pairwise (· ≠ ·) := List.pairwise_append.2 ⟨h1.imp (fun h => by omega), h2.imp (fun h => by omega), fun a ha b hb e => h5 a ha (e ▸ hb)⟩
  have hd' : ((ys ++ ns).mergeSort fun x y => decide (x ≤ y)).Pairwise (· ≠ ·) := hp.symm.pairwise hd (fun h => h.symm)
  have hlt : ((ys ++ ns).mergeSort fun x y => decide (x ≤ y)).Pairwise (· < ·) := (hs.and hd').imp fun h => by
    have a := h.1; have b := h.2; simp at a; omega
  refine sorted_ext (lt := (· < ·)) (fun a => by omega) (fun a b c => by omega) (hlt.filter _) (mems_pw _ _) fun x => ?_
  rw [mems_mem, List.mem_filter, hp.mem_iff, List.mem_append]
  unfold abP
  simp only [Bool.and_eq_true, Bool.or_eq_true, Bool.not_eq_true', Bool.or_eq_false_iff, hasB_mem, hasB_nmem]
  constructor
  · rintro ⟨hm, ha, hb⟩
    have : 1 ≤ x ∧ x ≤ 99 := by rcases hm with hm | hm; exact h3 x hm; exact h4 x hm
    exact ⟨⟨hm, ha, hb⟩, this.1, by simpa using this.2⟩
  · rintro ⟨⟨hm, ha, hb⟩, _⟩
    exact ⟨hm, ha, hb⟩
/-- Who changed sides voted twice; who was absent did not vote before. -/
theorem cm_fact {d : Dec} {ys ns : List Int} (h : cmOk d ys ns = true) {x : Int} (hx : x ∈ cmL d ys ns) : hasB d.yes x = hasB ns x ∧ hasB d.no x = hasB ys x ∧ hasB (abL d ys ns) x = false := by
  unfold cmOk at h
  rw [Bool.and_eq_true] at h
  have g1 : sidesB d.yes d.no = true := by have := h.1; unfold decB at this; simp only [Bool.and_eq_true] at this; exact this.2.2.2
  have f1 := (sidesB_facts g1).2.2.2.2
  have f2 := (sidesB_facts h.2).2.2.2.2
  unfold cmL at hx
  rw [if_pos (by unfold cmOk; rw [h.1, h.2]; rfl), mems_mem] at hx
  have hc := hx.1
  unfold cmP at hc
  simp only [Bool.or_eq_true, Bool.and_eq_true] at hc
  have hab : hasB (abL d ys ns) x = false := by
    rw [hasB_nmem]
    unfold abL
    rw [if_pos (by unfold cmOk; rw [h.1, h.2]; rfl), mems_mem]
    rintro ⟨hm, _⟩
    unfold abP at hm
    simp only [Bool.and_eq_true, Bool.not_eq_true'] at hm
    rcases hc with ⟨a, _⟩ | ⟨a, _⟩
    · rw [hm.2.1] at a; cases a
    · rw [hm.2.2] at a; cases a
  rcases hc with ⟨a, b⟩ | ⟨a, b⟩
  · refine ⟨by rw [a, b], ?_, hab⟩
    rw [hasB_nmem.2 (f1 x (hasB_mem.1 a)), hasB_nmem.2 (fun hm => f2 x hm (hasB_mem.1 b))]
  · refine ⟨?_, by rw [a, b], hab⟩
    rw [hasB_nmem.2 (fun hm => f1 x hm (hasB_mem.1 a)), hasB_nmem.2 (f2 x (hasB_mem.1 b))]
theorem ab_fact {d : Dec} {ys ns : List Int} {x : Int} (hx : x ∈ abL d ys ns) : hasB d.yes x = false ∧ hasB d.no x = false := by
  unfold abL at hx
  split at hx
  · rw [mems_mem] at hx
    have hm := hx.1
    unfold abP at hm
    simp only [Bool.and_eq_true, Bool.not_eq_true'] at hm
    exact hm.2
  · simp at hx
end Go.Proofs.YtbnncgahepcfnaaGreatDoor
/- Ripe topics: the plain law (sorted lists of strings, insertion, compaction). -/
namespace Go.G9
abbrev S8 := List UInt8
theorem s8_irr (a : S8) : ¬ a < a := List.lt_irrefl a
theorem s8_tr (a b c : S8) (h : a < b) (k : b < c) : a < c := List.lt_trans h k
theorem s8_tri (a b : S8) (h : ¬ a < b) (k : a ≠ b) : b < a := by
  have h1 : b ≤ a := List.not_lt.1 h
  rcases List.le_iff_lt_or_eq.1 h1 with h2 | h2
  · exact h2
  · exact absurd h2.symm k
/-- A string put in its place. -/
def insT (s : S8) : List S8 → List S8
  | [] => [s]
  | y :: ys => if y < s then y :: insT s ys else if y = s then y :: ys else s :: y :: ys
theorem insT_mem (s : S8) : ∀ (out : List S8) (x : S8), x ∈ insT s out ↔ x = s ∨ x ∈ out
  | [], x => by simp [insT]
  | y :: ys, x => by
    unfold insT
    split
    · rw [List.mem_cons, insT_mem s ys, List.mem_cons]
      constructor
      · rintro (h | h | h)
        · exact .inr (.inl h)
        · exact .inl h
        · exact .inr (.inr h)
      · rintro (h | h | h)
        · exact .inr (.inl h)
        · exact .inl h
        · exact .inr (.inr h)
    · split
      · rename_i h; subst h; simp
      · simp
theorem insT_pw (s : S8) : ∀ out : List S8, out.Pairwise (· < ·) → (insT s out).Pairwise (· < ·)
  | [], _ => by simp [insT]
  | y :: ys, h => by
    obtain ⟨h1, h2⟩ := List.pairwise_cons.1 h
    unfold insT
    split
    · rename_i hy
      refine List.pairwise_cons.2 ⟨fun x hx => ?_, insT_pw s ys h2⟩
      rcases (insT_mem s ys x).1 hx with rfl | hx
      · exact hy
      · exact h1 x hx
    · split
      · exact h
      · rename_i hy hn
        have hs := s8_tri y s hy hn
        refine List.pairwise_cons.2 ⟨fun x hx => ?_, h⟩
        rcases List.mem_cons.1 hx with rfl | hx
        · exact hs
        · exact s8_tr _ _ _ hs (h1 x hx)
theorem insT_at (s : S8) : ∀ (out : List S8) (k : Nat), k ≤ out.length → (∀ j x, j < k → out[j]? = some x → x < s) → insT s out = out.take k ++ insT s (out.drop k)
  | out, 0, _, _ => by simp
  | [], k + 1, h, _ => by simp at h
  | y :: ys, k + 1, h, hj => by
    have hy := hj 0 y (by omega) rfl
    rw [insT, if_pos hy, insT_at s ys k (by simpa using h) (fun j x hjk hx => hj (j + 1) x (by omega) hx)]
    rfl
theorem insT_end {s : S8} {out : List S8} (h : ∀ j x, j < out.length → out[j]? = some x → x < s) : insT s out = out ++ [s] := by
  rw [insT_at s out out.length (Nat.le_refl _) h]
  simp [insT]
theorem insT_same {s : S8} {out : List S8} {k : Nat} (h : ∀ j x, j < k → out[j]? = some x → x < s) (hk : out[k]? = some s) : insT s out = out := by
  obtain ⟨h1, h2⟩ := List.getElem?_eq_some_iff.1 hk
  rw [insT_at s out k (by omega) h, List.drop_eq_getElem_cons h1, h2, insT, if_neg (s8_irr s), if_pos rfl]
  conv => rhs; rw [← List.take_append_drop k out, List.drop_eq_getElem_cons h1, h2]
theorem insT_mid {s y : S8} {out : List S8} {k : Nat} (h : ∀ j x, j < k → out[j]? = some x → x < s) (hk : out[k]? = some y) (h1 : ¬ y < s) (h2 : y ≠ s) : insT s out = out.take k ++ s :: out.drop k := by
  obtain ⟨h3, h4⟩ := List.getElem?_eq_some_iff.1 hk
  rw [insT_at s out k (by omega) h, List.drop_eq_getElem_cons h3, h4, insT, if_neg h1, if_neg h2]
theorem insT_len (s : S8) (out : List S8) : (insT s out).length ≤ out.length + 1 := by
  induction out with
  | nil => simp [insT]
  | cons y ys ih =>
    unfold insT
    split
    · simp; omega
    · split <;> simp
theorem comp_inv (d : Array S8) (hs : ∀ i j, i ≤ j → j < d.size → d[i]! ≤ d[j]!) : ∀ m, m ≤ d.size → (Lib.compactUpTo d m).Pairwise (· < ·) ∧ ∀ x, x ∈ Lib.compactUpTo d m ↔ ∃ j, j < m ∧ d[j]! = x
  | 0, _ => by simp [Lib.compactUpTo]
  | m + 1, hm => by
    obtain ⟨h1, h2⟩ := comp_inv d hs m (by omega)
    rw [Lib.compactUpTo_succ]
    by_cases hk : Lib.keeps d m = true
    · rw [if_pos hk]
      refine ⟨List.pairwise_append.2 ⟨h1, by simp, fun a ha b hb => ?_⟩, fun x => ?_⟩
      · simp at hb; subst hb
        obtain ⟨j, hj, rfl⟩ := (h2 a).1 ha
        have hne : d[m]! ≠ d[m - 1]! := by
          unfold Lib.keeps at hk
          simp only [decide_eq_true_eq] at hk
          rcases hk with h | h
          · omega
          · exact h
        have a1 := hs j (m - 1) (by omega) (by omega)
        have a2 := hs (m - 1) m (by omega) (by omega)
        have a3 : d[m - 1]! < d[m]! := by
          rcases List.le_iff_lt_or_eq.1 a2 with h | h
          · exact h
          · exact absurd h.symm hne
        rcases List.le_iff_lt_or_eq.1 a1 with h | h
        · exact s8_tr _ _ _ h a3
        · rw [h]; exact a3
      · rw [List.mem_append, h2 x]
        constructor
        · rintro (⟨j, hj, e⟩ | e)
          · exact ⟨j, by omega, e⟩
          · simp at e; exact ⟨m, by omega, e.symm⟩
        · rintro ⟨j, hj, e⟩
          by_cases hjm : j = m
          · subst hjm; right; simp [e]
          · left; exact ⟨j, by omega, e⟩
    · rw [if_neg hk, List.append_nil]
      refine ⟨h1, fun x => ?_⟩
      rw [h2 x]
      constructor
      · rintro ⟨j, hj, e⟩; exact ⟨j, by omega, e⟩
      · rintro ⟨j, hj, e⟩
        by_cases hjm : j = m
        · subst hjm
          unfold Lib.keeps at hk
          simp only [decide_eq_true_eq, not_or, ne_eq, Decidable.not_not] at hk
          exact ⟨j - 1, by omega, by rw [← hk.2]; exact e⟩
        · exact ⟨j, by omega, e⟩
/-- Sorted and compacted is the rising list of the same members. -/
theorem comp_sort {ts out : List S8} (ho : out.Pairwise (· < ·)) (hm : ∀ x, x ∈ out ↔ x ∈ ts) : Lib.compact (ts.mergeSort fun x y => decide (x ≤ y)) = out := by
  have hp : (ts.mergeSort fun x y => decide (x ≤ y)).Perm ts := List.mergeSort_perm _ _
  have hs : (ts.mergeSort fun x y => decide (x ≤ y)).Pairwise (fun a b => decide (a ≤ b) = true) := List.pairwise_mergeSort (fun a b c h1 h2 => by
    simp only [decide_eq_true_eq] at h1 h2 ⊢; exact List.le_trans h1 h2) (fun a b => by
    simp only [Bool.or_eq_true, decide_eq_true_eq]; exact List.le_total a b) _
  generalize (ts.mergeSort fun x y => decide (x ≤ y)) = zs at hp hs ⊢
  have hs' : ∀ i j, i ≤ j → j < zs.toArray.size → zs.toArray[i]! ≤ zs.toArray[j]! := fun i j hij hj => by
    rw [List.size_toArray] at hj
    rw [getElem!_pos zs.toArray i (by simp; omega), getElem!_pos zs.toArray j (by simpa using hj)]
    simp only [List.getElem_toArray]
    by_cases e : i = j
    · subst e; exact List.le_refl _
    · have := List.pairwise_iff_getElem.1 hs i j (by omega) hj (by omega)
      simpa using this
  have h := comp_inv zs.toArray hs' zs.length (by simp)
  refine sorted_ext (lt := (· < ·)) s8_irr s8_tr h.1 ho fun x => ?_
  rw [hm x, ← hp.mem_iff]
  show x ∈ Lib.compactUpTo zs.toArray zs.length ↔ _
  rw [h.2 x, List.mem_iff_getElem]
  constructor
  · rintro ⟨j, hj, e⟩
    rw [getElem!_pos zs.toArray j (by simpa using hj)] at e
    exact ⟨j, hj, by simpa using e⟩
  · rintro ⟨j, hj, e⟩
    exact ⟨j, hj, by rw [getElem!_pos zs.toArray j (by simpa using hj)]; simpa using e⟩
end Go.G9
/- Sorting and compaction over slices of the call's own. -/
namespace Go.G9
open Go.RowKit Go.Sort Go.Proofs
theorem flat_one {T : Type} (enc : T → Value) (xs : List T) : xs.flatMap (fun x => [enc x]) = xs.map enc := by induction xs <;> simp_all
theorem own_put {T : Type} [Inhabited T] {enc : T → Value} {B : Nat} {e : TypeId} {w : World} {g cap q k : Nat} {zs ys : List T} {os : Array Obj} (h : OwnV B e 1 (fun x => [enc x]) w (.slice (some ⟨g, 0, none⟩) zs.length cap) zs) (hy : ys.length = zs.length) (hk : k ≤ zs.length) :
    OwnV B e 1 (fun x => [enc x]) (grow (putRow enc (Sort.ahead w q) g 0 ys.toArray) os) (.slice (some ⟨g, 0, none⟩) k cap) (ys.take k) ∧ w.grownBy (grow (putRow enc (Sort.ahead w q) g 0 ys.toArray) os) (some g) := by
  have hg : w.grownBy (grow (putRow enc (Sort.ahead w q) g 0 ys.toArray) os) (some g) := by
    refine ⟨rfl, rfl, rfl, by simp, fun k hk hne => ?_⟩
    rw [heap_grow_old _ _ (by simpa using hk)]
    have : g ≠ k := fun e => hne (by rw [e])
    simp [putRow, mapBlock, Sort.ahead, Array.getElem?_modify, this]
  have h1 : w.ownsRow B e 1 (.slice (some ⟨g, 0, none⟩) zs.length cap) zs.length (zs.map enc) := by rw [← flat_one]; exact h
  have h2 := Lib.ownsRow_putRow (q := q) h1 hy hk
  refine ⟨?_, hg⟩
  unfold OwnV
  rw [flat_one, List.length_take, Nat.min_eq_left (by omega)]
  obtain ⟨hl, hc⟩ := h2
  refine ⟨hl, ?_⟩
  rcases hc with ⟨e0, _⟩ | ⟨g', cap', cur, e0, hB, hh, r⟩
  · cases e0
  · refine .inr ⟨g', cap', cur, e0, hB, ?_, r⟩
    rw [heap_grow_old _ _ (Array.getElem?_eq_some_iff.1 hh).1]; exact hh
theorem own_holds {T : Type} [Inhabited T] {enc : T → Value} {B : Nat} {e : TypeId} {w : World} {g cap : Nat} {zs : List T} (h : OwnV B e 1 (fun x => [enc x]) w (.slice (some ⟨g, 0, none⟩) zs.length cap) zs) :
    Holds enc w g 0 zs.toArray ∧ g < w.heap.size ∧ zs.length ≤ cap ∧ cap ≤ maxLen := by
  have h1 : w.ownsRow B e 1 (.slice (some ⟨g, 0, none⟩) zs.length cap) zs.length (zs.map enc) := by rw [← flat_one]; exact h
  obtain ⟨g', cap', e1, h2, h3, h4, h5, h6, h7⟩ := Lib.holds_of_ownsRow h1 (by intro e; cases e)
  injection e1 with e2 _ e4
  injection e2 with e2
  injection e2 with e2
  subst e2; subst e4
  exact ⟨h7, h3, h4, h5⟩
def sC (l : List UInt8) : List Value := [.string ⟨l.toArray⟩]
theorem sC_len (y : List UInt8) : (sC y).length = 1 := rfl
theorem sC_one (y : List UInt8) (u : Value) (h : u ∈ sC y) : u.oneCell' = true := by simp [sC] at h; subst h; rfl
theorem compact_len (ls : List (List UInt8)) : (Lib.compact ls).length ≤ ls.length := by
  unfold Lib.compact Lib.compactUpTo
  rw [List.length_map]
  exact Nat.le_trans (List.length_filter_le _ _) (by simp)
end Go.G9
namespace Go.Proofs.YtbnncgahepcfnaaGreatDoor
open Go.RowKit Go.G9 Go.Sort
theorem sortS_is (B g cap : Nat) (ls : List (List UInt8)) (hn : ls.length ≤ 1048576) (w : World) (hO : OwnV B 9 1 sC w (.slice (some ⟨g, 0, none⟩) ls.length cap) ls) :
  Calls Tryz.prog 73 #[.slice (some ⟨g, 0, none⟩) ls.length cap] w fun e w' => e = .returned (.tuple #[]) ∧ OwnV B 9 1 sC w' (.slice (some ⟨g, 0, none⟩) ls.length cap) (ls.mergeSort fun x y => decide (x ≤ y)) ∧ w.grownBy w' (some g) := by
  have hO' : OwnV B 9 1 (fun x => [encStr x]) w (.slice (some ⟨g, 0, none⟩) ls.length cap) ls := hO
  obtain ⟨h1, h2, h3, h4⟩ := own_holds hO'
  refine (Tryz.slices_Sort_string g 0 cap ls w h1 h2 (by omega)).mono ?_
  rintro e w' ⟨rfl, n, os, rfl⟩
  have hl : (ls.mergeSort fun x y => decide (x ≤ y)).length = ls.length := List.length_mergeSort _
  have h5 := own_put (q := n) (os := os) hO' hl (Nat.le_refl _)
  rw [List.take_of_length_le (by omega)] at h5
  exact ⟨rfl, h5⟩
theorem compactS_is (B g cap : Nat) (ls : List (List UInt8)) (hn : ls.length ≤ 1048576) (w : World) (hO : OwnV B 9 1 sC w (.slice (some ⟨g, 0, none⟩) ls.length cap) ls) :
  Calls Tryz.prog 74 #[.slice (some ⟨g, 0, none⟩) ls.length cap] w fun e w' => e = .returned (.slice (some ⟨g, 0, none⟩) (Lib.compact ls).length cap) ∧ OwnV B 9 1 sC w' (.slice (some ⟨g, 0, none⟩) (Lib.compact ls).length cap) (Lib.compact ls) ∧ w.grownBy w' (some g) := by
  have hO' : OwnV B 9 1 (fun x => [encStr x]) w (.slice (some ⟨g, 0, none⟩) ls.length cap) ls := hO
  obtain ⟨h1, h2, h3, h4⟩ := own_holds hO'
  refine (Tryz.slices_Compact_string g 0 cap ls w h1 (by omega) h3).mono ?_
  rintro e w' ⟨rfl, q, rfl⟩
  have hle := compact_len ls
  have h5 := own_put (q := q) (os := #[]) (ys := Lib.compact ls ++ List.replicate (ls.length - (Lib.compact ls).length) []) hO' (by simp; omega) hle
  rw [List.take_left' rfl, grow_empty] at h5
  exact ⟨rfl, h5⟩
end Go.Proofs.YtbnncgahepcfnaaGreatDoor
