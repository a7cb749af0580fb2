/- Texts of the proof: walks of the functions, and what they compute. -/
import Derived.Test.YtjimibkgocieoaaGreatRb1
import Derived.Test.YtjimibkgocieoaaGreatRb0
set_option maxHeartbeats 16000000
set_option maxRecDepth 100000
namespace Go.G9
open Go.RowKit
section
variable {P : Program} {ops : Array Oper} {md : Region.Mode} {C : World → Prop} {Q : Act → World → Prop}

def edgeB (md : Region.Mode) (ops : Array Oper) (y x : Nat) : Bool := match ops[y]? with | some o => o.after.any (fun e => Region.binds md e && e.on == x) | none => false
def apB (ops : Array Oper) (x y : Nat) : Bool := match ops[x]?, ops[y]? with | some a, some b => a.apart ops b | _, _ => false
def reachB (md : Region.Mode) (ops : Array Oper) : Nat → Nat → Nat → Bool
 | 0, y, x => edgeB md ops y x
 | n + 1, y, x => edgeB md ops y x || (List.range ops.size).any fun m => edgeB md ops y m && reachB md ops n m x
def pureK (k : Nat) : Bool := k == 4 || k == 6
def clsK (k : Nat) : Bool := k == 0 || k == 2
def overB (x y : Nat) : Bool := (clsK x && y != 5) || pureK x || (x == 1 && (y == 0 || y == 1 || y == 6))
def pairB (md : Region.Mode) (ops : Array Oper) (x y : Nat × Nat) : Bool :=
 !(edgeB md ops x.1 y.1) && !(x.1 == y.1) && !(x.2 == 5 && clsK y.2) && ((overB x.2 y.2 && apB ops x.1 y.1) || reachB md ops 3 y.1 x.1)
def pairsB (md : Region.Mode) (ops : Array Oper) : List (Nat × Nat) → Bool
 | [] => true
 | x :: r => r.all (pairB md ops x) && pairsB md ops r
theorem pairsB_pw : ∀ {r : List (Nat × Nat)}, pairsB md ops r = true → r.Pairwise fun x y => pairB md ops x y = true
 | [], _ => .nil
 | x :: r, h => by
  simp only [pairsB, Bool.and_eq_true, List.all_eq_true] at h
  exact .cons (fun y hy => h.1 y hy) (pairsB_pw h.2)
def wfB (md : Region.Mode) (ops : Array Oper) : Bool := (List.range ops.size).all fun i => match ops[i]? with | some o => o.after.all (fun e => !(Region.binds md e) || (decide (e.on < ops.size) && !(e.on == i))) | none => true

theorem edgeB_iff {x y : Nat} : edgeB md ops y x = true ↔ ∃ o, ops[y]? = some o ∧ ∃ e ∈ o.after, Region.binds md e = true ∧ e.on = x := by
 unfold edgeB
 cases h : ops[y]? with
 | none => simp
 | some o =>
  simp only [← Array.any_toList, List.any_eq_true]
  simp
theorem apB_iff {x y : Nat} : apB ops x y = true ↔ ∃ a b, ops[x]? = some a ∧ ops[y]? = some b ∧ a.apart ops b = true := by
 unfold apB
 cases h : ops[x]? with
 | none => simp
 | some a => cases h2 : ops[y]? with
  | none => simp
  | some b => simp

structure Fit (md : Region.Mode) (ops : Array Oper) (r : List (Nat × Nat)) (listed : Array Bool) : Prop where
 wf : wfB md ops = true
 size : listed.size = ops.size
 mem : ∀ i, i < ops.size → (listed.getD i true = false ↔ ∃ k, (i, k) ∈ r)
 lt : ∀ x ∈ r, x.1 < ops.size
 pw : r.Pairwise fun x y => pairB md ops x y = true
 cl : ∀ x y, edgeB md ops y x = true → listed.getD x true = false → listed.getD y true = false

theorem Fit.not_ready {r : List (Nat × Nat)} {listed : Array Bool} (_ : Fit md ops r listed) {j x : Nat} (he : edgeB md ops j x = true) (hx : listed.getD x true = false) (hj : j ∈ Region.ready md ops listed) : False := by
 obtain ⟨_, o, ho, h2⟩ := mem_ready.1 hj
 obtain ⟨o', ho', e, hm, hb, hon⟩ := edgeB_iff.1 he
 have : o = o' := Option.some.inj (ho.symm.trans ho')
 subst this
 have h3 := h2 e hm hb
 rw [hon] at h3
 rw [getD_both hx] at h3; cases h3
theorem Fit.reach {r : List (Nat × Nat)} {listed : Array Bool} (h : Fit md ops r listed) {x : Nat} (hx : listed.getD x true = false) : ∀ (n y : Nat), reachB md ops n y x = true → listed.getD y true = false
 | 0, y, he => h.cl x y he hx
 | n + 1, y, he => by
  simp only [reachB, Bool.or_eq_true, List.any_eq_true, Bool.and_eq_true] at he
  rcases he with he | ⟨m, _, h1, h2⟩
  ·exact h.cl x y he hx
  ·exact h.cl m y h1 (h.reach hx n m h2)
theorem Fit.not_reach {r : List (Nat × Nat)} {listed : Array Bool} (h : Fit md ops r listed) {j x : Nat} (hx : listed.getD x true = false) (hj : j ∈ Region.ready md ops listed) : ∀ n, reachB md ops n j x = false := by
 intro n
 cases hr : reachB md ops n j x with
 | false => rfl
 | true =>
  exfalso
  cases n with
  | zero => exact h.not_ready hr hx hj
  | succ n =>
   simp only [reachB, Bool.or_eq_true, List.any_eq_true, Bool.and_eq_true] at hr
   rcases hr with he | ⟨m, _, h1, h2⟩
   ·exact h.not_ready he hx hj
   ·exact h.not_ready h1 (h.reach hx n m h2) hj

theorem Fit.step {p s : List (Nat × Nat)} {j k : Nat} {listed : Array Bool} (h : Fit md ops (p ++ (j, k) :: s) listed) (hjr : j ∈ Region.ready md ops listed) : Fit md ops (p ++ s) (listed.setIfInBounds j true) := by
 have hsub : (p ++ s).Sublist (p ++ (j, k) :: s) := List.Sublist.append_left (List.sublist_cons_self _ _) p
 refine ⟨h.wf, by simpa using h.size, fun i hi => ?_, fun x hx => h.lt x (hsub.subset hx), h.pw.sublist hsub, fun x y he hx => ?_⟩
 case refine_2 =>
  have hx' : listed.getD x true = false := by
   by_cases hjx : j = x
   ·subst hjx
    exfalso
    by_cases hl : j < listed.size
    ·simp [Array.getD_eq_getD_getElem?, Array.getElem?_setIfInBounds_self_of_lt hl] at hx
    ·simp [Array.getD_eq_getD_getElem?, hl] at hx
   ·simpa [Array.getD_eq_getD_getElem?, Array.getElem?_setIfInBounds_ne hjx] using hx
  by_cases hjy : j = y
  ·subst hjy
   exact (h.not_ready he hx' hjr).elim
  ·have := h.cl x y he hx'
   simpa [Array.getD_eq_getD_getElem?, Array.getElem?_setIfInBounds_ne hjy] using this
 by_cases hij : j = i
 ·subst hij
  have hj : j < listed.size := by rw [h.size]; exact hi
  have h1 : (listed.setIfInBounds j true).getD j true = true := by simp [Array.getD_eq_getD_getElem?, Array.getElem?_setIfInBounds_self_of_lt hj]
  rw [h1]
  refine ⟨fun h2 => (by cases h2), fun ⟨k', hk⟩ => ?_⟩
  exfalso
  rcases List.mem_append.1 hk with hk | hk
  ·have := (List.pairwise_append.1 h.pw).2.2 _ hk (j, k) (by simp)
   simp [pairB] at this
  ·have := (List.pairwise_cons.1 (List.pairwise_append.1 h.pw).2.1).1 _ hk
   simp [pairB] at this
 ·have h1 : (listed.setIfInBounds j true).getD i true = listed.getD i true := by simp [Array.getD_eq_getD_getElem?, Array.getElem?_setIfInBounds_ne hij]
  rw [h1, h.mem i hi]
  constructor
  ·rintro ⟨k', hk⟩
   refine ⟨k', ?_⟩
   rcases List.mem_append.1 hk with hk | hk
   ·exact List.mem_append_left _ hk
   ·rcases List.mem_cons.1 hk with hk | hk
    ·exact absurd (congrArg Prod.fst hk).symm hij
    ·exact List.mem_append_right _ hk
  ·rintro ⟨k', hk⟩
   exact ⟨k', hsub.subset hk⟩

theorem getD_false {listed : Array Bool} {i : Nat} (hi : i < listed.size) (h : ¬ listed.getD i true = false) : listed.getD i false = true := by
 simp only [Array.getD_eq_getD_getElem?, Array.getElem?_eq_getElem hi, Option.getD_some] at h ⊢
 cases hh : listed[i] with
 | true => rfl
 | false => exact absurd hh h
theorem Fit.head {x : Nat × Nat} {s : List (Nat × Nat)} {listed : Array Bool} (h : Fit md ops (x :: s) listed) : x.1 ∈ Region.ready md ops listed := by
 have hx := h.lt x (by simp)
 refine mem_ready.2 ⟨(h.mem _ hx).2 ⟨x.2, by simp⟩, ops[x.1], Array.getElem?_eq_getElem hx, fun e he hb => ?_⟩
 have hwf := h.wf
 unfold wfB at hwf
 rw [List.all_eq_true] at hwf
 have h1 := hwf x.1 (List.mem_range.2 hx)
 simp only [Array.getElem?_eq_getElem hx, Array.all_eq_true_iff_forall_mem] at h1
 have h2 := h1 e he
 simp only [hb, Bool.not_true, Bool.false_or, Bool.and_eq_true, decide_eq_true_eq, Bool.not_eq_true', beq_eq_false_iff_ne] at h2
 refine getD_false (by rw [h.size]; exact h2.1) fun hf => ?_
 obtain ⟨k, hk⟩ := (h.mem _ h2.1).1 hf
 rcases List.mem_cons.1 hk with hk | hk
 ·exact h2.2 (congrArg Prod.fst hk)
 ·have := (List.pairwise_cons.1 h.pw).1 _ hk
  simp only [pairB, Bool.and_eq_true, Bool.not_eq_true'] at this
  have h3 : edgeB md ops x.1 e.on = true := edgeB_iff.2 ⟨_, Array.getElem?_eq_getElem hx, e, he, hb, rfl⟩
  rw [this.1.1.1] at h3; cases h3
theorem Fit.ready {r : List (Nat × Nat)} {j : Nat} {listed : Array Bool} (h : Fit md ops r listed) (hj : j ∈ Region.ready md ops listed) :
  ∃ p k s, r = p ++ (j, k) :: s ∧ (∀ x ∈ p, overB x.2 k = true ∧ apB ops x.1 j = true) ∧ (k = 5 → ∀ x ∈ s, clsK x.2 = false) := by
 obtain ⟨h1, o, ho, h2⟩ := mem_ready.1 hj
 have hlt : j < ops.size := (Array.getElem?_eq_some_iff.1 ho).1
 obtain ⟨k, hk⟩ := (h.mem j hlt).1 h1
 obtain ⟨p, s, hr⟩ := List.append_of_mem hk
 refine ⟨p, k, s, hr, fun x hx => ?_, fun hk5 x hx => ?_⟩
 case refine_2 =>
  subst hr hk5
  have hp := (List.pairwise_cons.1 (List.pairwise_append.1 h.pw).2.1).1 x hx
  simp only [pairB, Bool.and_eq_true, Bool.not_eq_true'] at hp
  simpa using hp.1.2
 subst hr
 have hp := (List.pairwise_append.1 h.pw).2.2 x hx (j, k) (by simp); have hx4 := (h.mem x.1 (h.lt x (List.mem_append_left _ hx))).2 ⟨x.2, List.mem_append_left _ hx⟩; have hne := h.not_reach hx4 hj 3
 simp only [pairB, hne, Bool.or_false, Bool.and_eq_true] at hp
 exact hp.2

def clsOf (C : World → Prop) (k : Nat) : World → Prop := fun w => pureK k = true ∨ C w
def RW2 (P : Program) (ops : Array Oper) (C : World → Prop) (Q : Act → World → Prop) : List (Nat × Nat) → Act → World → Prop
 | [], a, w => Q a w
 | (i, k) :: r, a, w => if k = 3 then wpOp P ops (Nrm Q) i (fun a' w' => C w' ∧ RW2 P ops C Q r a' w') a w
  else if k = 5 then wpOp P ops (Nrm Q) i (fun a' w' => RW2 P ops C Q r a' w') a w
  else ∃ oi v, ops[i]? = some oi ∧ YieldsC P ops (clsOf C k) oi v a ∧ RW2 P ops C Q r (a.put oi.dst v) w

theorem sel_ne (hsel : Region.noSelect ops = true) {i : Nat} {o : Oper} (h : ops[i]? = some o) : ∀ cs b, o.op ≠ .select cs b := fun cs b => Region.noSelect_spec hsel i o cs b h

theorem zb111 {p : Prop} (h : p := by
 refine ⟨oi, vi, hoi, hyi.of_same (execOp_put oi (sel_ne hsel hoi) a oj.dst v h3) (wanted_put oi a oj.dst v h3), ?_⟩
 rw [← Act.put_comm a vi v h2]
 exact hs) : p := h
theorem RW2_still (hsel : Region.noSelect ops = true) {j kj : Nat} {s : List (Nat × Nat)} (hkj : kj ≠ 3 ∧ kj ≠ 5) : ∀ (p : List (Nat × Nat)) (a : Act) (w : World), (∀ x ∈ p, (x.2 ≠ 3 ∧ x.2 ≠ 5) ∧ apB ops x.1 j = true) → RW2 P ops C Q (p ++ (j, kj) :: s) a w →
  ∃ oj v, ops[j]? = some oj ∧ YieldsC P ops (clsOf C kj) oj v a ∧ RW2 P ops C Q (p ++ s) (a.put oj.dst v) w
 | [], a, w, _, h => by
  simp only [List.nil_append, RW2, if_neg hkj.1, if_neg hkj.2] at h
  exact h
 | (i, k) :: p, a, w, hp, h => by
  have hi := hp (i, k) (by simp)
  simp only [List.cons_append, RW2, if_neg hi.1.1, if_neg hi.1.2] at h
  obtain ⟨oi, vi, hoi, hyi, hr⟩ := h
  obtain ⟨oj, v, hoj, hyj, hs⟩ := RW2_still hsel hkj p _ w (fun x hx => hp x (by simp [hx])) hr
  obtain ⟨a1, b1, e1, e2, hap⟩ := apB_iff.1 hi.2
  obtain rfl := Option.some.inj (hoi.symm.trans e1)
  obtain rfl := Option.some.inj (hoj.symm.trans e2)
  obtain ⟨h1, h2, h3⟩ := Oper.apart_spec hap
  refine ⟨oj, v, hoj, hyj.of_same (execOp_put oj (sel_ne hsel hoj) a oi.dst vi h1).symm (wanted_put oj a oi.dst vi h1).symm, ?_⟩
  simp only [List.cons_append, RW2, if_neg hi.1.1, if_neg hi.1.2]
  exact zb111

theorem RW2_eff (hsel : Region.noSelect ops = true) {j : Nat} {oj : Oper} (hoj : ops[j]? = some oj) {s : List (Nat × Nat)} : ∀ (p : List (Nat × Nat)) (a : Act) (w : World), (∀ x ∈ p, (x.2 ≠ 3 ∧ x.2 ≠ 5) ∧ apB ops x.1 j = true) → RW2 P ops C Q (p ++ (j, 3) :: s) a w →
  wpOp P ops (Nrm Q) j (fun a' w' => C w' ∧ RW2 P ops C Q (p ++ s) a' w') a w
 | [], a, w, _, h => by
  simp only [List.nil_append, RW2, if_true] at h
  exact h
 | (i, k) :: p, a, w, hp, h => by
  have hi := hp (i, k) (by simp)
  simp only [List.cons_append, RW2, if_neg hi.1.1, if_neg hi.1.2] at h
  obtain ⟨oi, vi, hoi, hyi, hr⟩ := h
  have ih := RW2_eff hsel hoj p _ w (fun x hx => hp x (by simp [hx])) hr
  obtain ⟨a1, b1, e1, e2, hap⟩ := apB_iff.1 hi.2
  obtain rfl := Option.some.inj (hoi.symm.trans e1)
  obtain rfl := Option.some.inj (hoj.symm.trans e2)
  refine wpOp_mono (fun a' w' h' => ⟨h'.2.1, ?_⟩) (wpOp_put hoj hap (sel_ne hsel hoi) (sel_ne hsel hoj) hyi ih)
  simp only [List.cons_append, RW2, if_neg hi.1.1, if_neg hi.1.2]
  exact ⟨oi, vi, hoi, h'.1, h'.2.2⟩
theorem RW2_eff5 (hsel : Region.noSelect ops = true) {j : Nat} {oj : Oper} (hoj : ops[j]? = some oj) {s : List (Nat × Nat)} : ∀ (p : List (Nat × Nat)) (a : Act) (w : World), (∀ x ∈ p, (x.2 ≠ 3 ∧ x.2 ≠ 5) ∧ apB ops x.1 j = true) → RW2 P ops C Q (p ++ (j, 5) :: s) a w →
  wpOp P ops (Nrm Q) j (fun a' w' => RW2 P ops C Q (p ++ s) a' w') a w
 | [], a, w, _, h => by
  simp only [List.nil_append, RW2] at h
  exact h
 | (i, k) :: p, a, w, hp, h => by
  have hi := hp (i, k) (by simp)
  simp only [List.cons_append, RW2, if_neg hi.1.1, if_neg hi.1.2] at h
  obtain ⟨oi, vi, hoi, hyi, hr⟩ := h
  have ih := RW2_eff5 hsel hoj p _ w (fun x hx => hp x (by simp [hx])) hr
  obtain ⟨a1, b1, e1, e2, hap⟩ := apB_iff.1 hi.2
  obtain rfl := Option.some.inj (hoi.symm.trans e1)
  obtain rfl := Option.some.inj (hoj.symm.trans e2)
  refine wpOp_mono (fun a' w' h' => ?_) (wpOp_put hoj hap (sel_ne hsel hoi) (sel_ne hsel hoj) hyi ih)
  simp only [List.cons_append, RW2, if_neg hi.1.1, if_neg hi.1.2]
  exact ⟨oi, vi, hoi, h'.1, h'.2⟩

theorem over_ne {x k : Nat} (h : overB x k = true) : x ≠ 3 ∧ x ≠ 5 := by
 constructor
 ·rintro rfl; simp [overB, clsK, pureK] at h
 ·rintro rfl; simp [overB, clsK, pureK] at h
theorem over_5 {x : Nat} (h : overB x 5 = true) : clsK x = false := by
 cases hc : clsK x with
 | false => rfl
 | true =>
  simp only [clsK, Bool.or_eq_true, beq_iff_eq] at hc
  rcases hc with rfl | rfl <;> simp [overB, clsK, pureK] at h
theorem wpAny_of_RW2 (hsel : Region.noSelect ops = true) : ∀ (n : Nat) (r : List (Nat × Nat)) (listed : Array Bool) (a : Act) (w : World), r.length = n → (∀ x ∈ r, x.2 ≠ 1 ∧ x.2 ≤ 6) → Fit md ops r listed → ((∀ x ∈ r, clsK x.2 = false) ∨ C w) → RW2 P ops C Q r a w → wpAny P md ops (Nrm Q) n listed a w
 | 0, r, listed, a, w, hn, _, hf, hC, h => by
  obtain rfl := List.length_eq_zero_iff.1 hn
  refine ⟨List.eq_nil_iff_forall_not_mem.2 fun j hj => ?_, rfl, h⟩
  obtain ⟨p, k, s, hr, _⟩ := hf.ready hj
  simp at hr
 | n + 1, r, listed, a, w, hn, h1, hf, hC, h => by
  refine ⟨fun h0 => ?_, fun j hj => ?_⟩
  ·cases r with
   | nil => simp at hn
   | cons x s => have := hf.head; rw [h0] at this; cases this
  ·obtain ⟨p, k, s, rfl, hp, hk5⟩ := hf.ready hj
   have hp' : ∀ x ∈ p, (x.2 ≠ 3 ∧ x.2 ≠ 5) ∧ apB ops x.1 j = true := fun x hx => ⟨over_ne (hp x hx).1, (hp x hx).2⟩
   have hlen : (p ++ s).length = n := by simp at hn ⊢; omega
   have hsub : (p ++ s).Sublist (p ++ (j, k) :: s) := List.Sublist.append_left (List.sublist_cons_self _ _) p
   have h1' : ∀ x ∈ p ++ s, x.2 ≠ 1 ∧ x.2 ≤ 6 := fun x hx => h1 x (hsub.subset hx)
   have hlt := hf.lt (j, k) (by simp)
   by_cases hk : k = 3
   ·subst hk
    exact wpOp_mono (fun a' w' h' => wpAny_of_RW2 hsel n _ _ _ _ hlen h1' (hf.step hj) (.inr h'.1) h'.2) (RW2_eff hsel (Array.getElem?_eq_getElem hlt) p a w hp' h)
   ·by_cases hk2 : k = 5
    ·subst hk2
     have hno : ∀ x ∈ p ++ s, clsK x.2 = false := fun x hx => by
      rcases List.mem_append.1 hx with hx | hx
      ·exact over_5 (hp x hx).1
      ·exact hk5 rfl x hx
     exact wpOp_mono (fun a' w' h' => wpAny_of_RW2 hsel n _ _ _ _ hlen h1' (hf.step hj) (.inl hno) h') (RW2_eff5 hsel (Array.getElem?_eq_getElem hlt) p a w hp' h)
    ·obtain ⟨oj, v, hoj, hy, hs⟩ := RW2_still hsel ⟨hk, hk2⟩ p a w hp' h
     have hcw : clsOf C k w := by
      have hkk := h1 (j, k) (by simp)
      simp only at hkk
      unfold clsOf
      rcases hC with hC | hC
      ·have h3 := hC (j, k) (by simp)
       left
       simp only [clsK, Bool.or_eq_false_iff, beq_eq_false_iff_ne] at h3
       have : k = 4 ∨ k = 6 := by omega
       rcases this with rfl | rfl <;> rfl
      ·exact .inr hC
     refine hy.wpOp hoj hcw (wpAny_of_RW2 hsel n _ _ _ _ hlen h1' (hf.step hj) ?_ hs)
     rcases hC with hC | hC
     ·exact .inl fun x hx => hC x (hsub.subset hx)
     ·exact .inr hC

theorem put_inj {a b : Act} {d : Option Tmp} {u v : Value} (hs : b.tmps.size = a.tmps.size) (h : b.put d u = b.put d v) : a.put d u = a.put d v := by
 cases d with
 | none => rfl
 | some d =>
  simp only [Act.put] at h ⊢
  have h1 : b.tmps.setIfInBounds d u = b.tmps.setIfInBounds d v := by injection h
  by_cases hd : d < b.tmps.size
  ·have h2 : u = v := by
    have h3 := congrArg (fun t : Array Value => t[d]?) h1
    simp only [Array.getElem?_setIfInBounds_self_of_lt hd] at h3
    exact Option.some.inj h3
   rw [h2]
  ·have hle : a.tmps.size ≤ d := hs ▸ Nat.le_of_not_lt hd
   have h3 : ∀ x, a.tmps.setIfInBounds d x = a.tmps := fun x => Array.setIfInBounds_eq_of_size_le hle
   rw [h3, h3]
theorem put_size (a : Act) (d : Option Tmp) (v : Value) : (a.put d v).tmps.size = a.tmps.size := by
 cases d <;> simp [Act.put]
theorem put_defs (a : Act) (d : Option Tmp) (v : Value) : (a.put d v).defers = a.defers := by
 cases d <;> rfl
def Gives (P : Program) (ops : Array Oper) (Q : Act → World → Prop) (e : Nat) (oe : Oper) (K : Value → World → Prop) (a : Act) (W : World) : Prop :=
 ∀ L : Act → World → Prop, (∀ v W', K v W' → L (a.put oe.dst v) W') → wpOp P ops (Nrm Q) e L a W

theorem gives_same {e : Nat} {oe : Oper} {K : Value → World → Prop} {a b : Act} {W : World} (he : ops[e]? = some oe) (hr : execOp a.eval oe = execOp b.eval oe)
  (hw : Region.wanted oe (yielded ops a.tmps) = Region.wanted oe (yielded ops b.tmps)) (hs : b.tmps.size = a.tmps.size) (h : Gives P ops Q e oe K b W) : Gives P ops Q e oe K a W := by
 intro L hL
 have H := h (fun b' W' => (∀ u, b' = b.put oe.dst u → L (a.put oe.dst u) W') ∧ ∃ u, b' = b.put oe.dst u) (fun v W' hv => ⟨fun u hu => by rw [← put_inj hs hu]; exact hL v W' hv, v, rfl⟩)
 unfold wpOp at H ⊢
 simp only [he] at H ⊢
 rw [← hw] at H
 split
 ·rename_i hwt
  simp only [hwt, if_true] at H
  rcases H with H | H
  ·refine .inl ?_
   unfold Oper.wp at H ⊢
   rw [← hr] at H
   generalize (execOp a.eval oe).run P W = r at *
   cases r with
   | ok n w' =>
    cases n <;> simp only [Oper.upon] at H ⊢
    case value u => exact H.1 u rfl
    case skip => exact H.1 undef rfl
    case defer d =>
     obtain ⟨u, hu⟩ := H.2
     have h1 := congrArg Act.defers hu
     rw [put_defs, put_defs] at h1
     have h2 := congrArg List.length h1
     simp at h2
    case enter f args =>
     refine H.mono fun e w'' hh => ?_
     cases e with
     | returned u => exact hh.1 u rfl
     | panicked c => exact absurd hh.1 (by intro h; cases h)
     | outgrown => exact absurd hh Nrm_out
    case row row args => exact H.mono fun u w'' hh => hh.1 u rfl
   | halt x w' => cases x <;> simp only [Oper.upon] at H ⊢ <;> exact absurd H.1 (by intro h; cases h)
  ·exact absurd H.2 Nrm_out
 ·rename_i hwt
  simp only [hwt] at H
  exact H.1 undef rfl

structure MkSpec (α : Type) where
 par : Nat → List Nat
 val : Nat → α → Value
 post : Nat → (Nat → α) → α → World → World → Prop
variable {α : Type} [Inhabited α]
def rst (ps : List Nat) (σ : Nat → α) : Nat → α := fun m => if ps.contains m then σ m else default
theorem rst_congr {ps : List Nat} {σ τ : Nat → α} (h : ∀ m ∈ ps, σ m = τ m) : rst ps σ = rst ps τ := by
 funext m
 unfold rst
 split
 ·rename_i hm; exact h m (List.contains_iff_mem.1 hm)
 ·rfl
def MFact (S : MkSpec α) (σ : Nat → α) (m : Nat) (W : World) : Prop := ∃ V0 V, Below V0.heap.size V0 V ∧ S.post m (rst (S.par m) σ) (σ m) V0 V ∧ Below V.heap.size V W
def MOb (P : Program) (ops : Array Oper) (C : World → Prop) (Q : Act → World → Prop) (S : MkSpec α) (σ : Nat → α) (e : Nat) (oe : Oper) (a : Act) : Prop :=
 ∀ W, C W → (∀ m ∈ S.par e, MFact S σ m W) → Gives P ops Q e oe (fun v W' => ∃ p, v = S.val e p ∧ Below W.heap.size W W' ∧ S.post e (rst (S.par e) σ) p W W') a W
def RW1 (P : Program) (ops : Array Oper) (C : World → Prop) (Q : Act → World → Prop) (S : MkSpec α) (σ : Nat → α) (F : Act → Prop) : List (Nat × Nat) → Act → Prop
 | [], a => F a
 | (i, k) :: r, a => if k = 1 then ∃ oi, ops[i]? = some oi ∧ MOb P ops C Q S σ i oi a ∧ RW1 P ops C Q S σ F r (a.put oi.dst (S.val i (σ i)))
  else ∃ oi v, ops[i]? = some oi ∧ YieldsC P ops (clsOf C k) oi v a ∧ RW1 P ops C Q S σ F r (a.put oi.dst v)

theorem MOb.of_same {S : MkSpec α} {σ : Nat → α} {e : Nat} {oe : Oper} {a b : Act} (he : ops[e]? = some oe) (hr : execOp a.eval oe = execOp b.eval oe)
  (hw : Region.wanted oe (yielded ops a.tmps) = Region.wanted oe (yielded ops b.tmps)) (hs : b.tmps.size = a.tmps.size) (h : MOb P ops C Q S σ e oe b) : MOb P ops C Q S σ e oe a :=
 fun W hC hp => gives_same he hr hw hs (h W hC hp)

theorem RW1_still (hsel : Region.noSelect ops = true) {S : MkSpec α} {σ : Nat → α} {F : Act → Prop} {j kj : Nat} {s : List (Nat × Nat)} (hkj : kj ≠ 1) : ∀ (p : List (Nat × Nat)) (a : Act), (∀ x ∈ p, apB ops x.1 j = true) → RW1 P ops C Q S σ F (p ++ (j, kj) :: s) a →
  ∃ oj v, ops[j]? = some oj ∧ YieldsC P ops (clsOf C kj) oj v a ∧ RW1 P ops C Q S σ F (p ++ s) (a.put oj.dst v)
 | [], a, _, h => by
  simp only [List.nil_append, RW1, if_neg hkj] at h
  exact h
 | (i, k) :: p, a, hp, h => by
  have hi := hp (i, k) (by simp)
  obtain ⟨a1, b1, e1, e2, hap⟩ := apB_iff.1 hi
  obtain ⟨h1, h2, h3⟩ := Oper.apart_spec hap
  by_cases hk : k = 1
  ·subst hk
   simp only [List.cons_append, RW1, if_true] at h
   obtain ⟨oi, hoi, hmi, hr⟩ := h
   obtain ⟨oj, v, hoj, hyj, hs⟩ := RW1_still hsel hkj p _ (fun x hx => hp x (by simp [hx])) hr
   obtain rfl := Option.some.inj (hoi.symm.trans e1)
   obtain rfl := Option.some.inj (hoj.symm.trans e2)
   refine ⟨oj, v, hoj, hyj.of_same (execOp_put oj (sel_ne hsel hoj) a oi.dst _ h1).symm (wanted_put oj a oi.dst _ h1).symm, ?_⟩
   simp only [List.cons_append, RW1, if_true]
   refine ⟨oi, hoi, hmi.of_same hoi (execOp_put oi (sel_ne hsel hoi) a oj.dst v h3) (wanted_put oi a oj.dst v h3) (put_size _ _ _).symm, ?_⟩
   rw [← Act.put_comm a _ v h2]
   exact hs
  ·simp only [List.cons_append, RW1, if_neg hk] at h
   obtain ⟨oi, vi, hoi, hyi, hr⟩ := h
   obtain ⟨oj, v, hoj, hyj, hs⟩ := RW1_still hsel hkj p _ (fun x hx => hp x (by simp [hx])) hr
   obtain rfl := Option.some.inj (hoi.symm.trans e1)
   obtain rfl := Option.some.inj (hoj.symm.trans e2)
   refine ⟨oj, v, hoj, hyj.of_same (execOp_put oj (sel_ne hsel hoj) a oi.dst vi h1).symm (wanted_put oj a oi.dst vi h1).symm, ?_⟩
   simp only [List.cons_append, RW1, if_neg hk]
   exact zb111

theorem RW1_mk (hsel : Region.noSelect ops = true) {S : MkSpec α} {σ : Nat → α} {F : Act → Prop} {j : Nat} {s : List (Nat × Nat)} : ∀ (p : List (Nat × Nat)) (a : Act), (∀ x ∈ p, apB ops x.1 j = true) → RW1 P ops C Q S σ F (p ++ (j, 1) :: s) a →
  ∃ oj, ops[j]? = some oj ∧ MOb P ops C Q S σ j oj a ∧ RW1 P ops C Q S σ F (p ++ s) (a.put oj.dst (S.val j (σ j)))
 | [], a, _, h => by
  simp only [List.nil_append, RW1, if_true] at h
  exact h
 | (i, k) :: p, a, hp, h => by
  have hi := hp (i, k) (by simp)
  obtain ⟨a1, b1, e1, e2, hap⟩ := apB_iff.1 hi
  obtain ⟨h1, h2, h3⟩ := Oper.apart_spec hap
  by_cases hk : k = 1
  ·subst hk
   simp only [List.cons_append, RW1, if_true] at h
   obtain ⟨oi, hoi, hmi, hr⟩ := h
   obtain ⟨oj, hoj, hmj, hs⟩ := RW1_mk hsel p _ (fun x hx => hp x (by simp [hx])) hr
   obtain rfl := Option.some.inj (hoi.symm.trans e1)
   obtain rfl := Option.some.inj (hoj.symm.trans e2)
   refine ⟨oj, hoj, hmj.of_same hoj (execOp_put oj (sel_ne hsel hoj) a oi.dst _ h1).symm (wanted_put oj a oi.dst _ h1).symm (put_size _ _ _), ?_⟩
   simp only [List.cons_append, RW1, if_true]
   refine ⟨oi, hoi, hmi.of_same hoi (execOp_put oi (sel_ne hsel hoi) a oj.dst _ h3) (wanted_put oi a oj.dst _ h3) (put_size _ _ _).symm, ?_⟩
   rw [← Act.put_comm a _ _ h2]
   exact hs
  ·simp only [List.cons_append, RW1, if_neg hk] at h
   obtain ⟨oi, vi, hoi, hyi, hr⟩ := h
   obtain ⟨oj, hoj, hmj, hs⟩ := RW1_mk hsel p _ (fun x hx => hp x (by simp [hx])) hr
   obtain rfl := Option.some.inj (hoi.symm.trans e1)
   obtain rfl := Option.some.inj (hoj.symm.trans e2)
   refine ⟨oj, hoj, hmj.of_same hoj (execOp_put oj (sel_ne hsel hoj) a oi.dst vi h1).symm (wanted_put oj a oi.dst vi h1).symm (put_size _ _ _), ?_⟩
   simp only [List.cons_append, RW1, if_neg hk]
   refine ⟨oi, vi, hoi, hyi.of_same (execOp_put oi (sel_ne hsel hoi) a oj.dst _ h3) (wanted_put oi a oj.dst _ h3), ?_⟩
   rw [← Act.put_comm a vi _ h2]
   exact hs

theorem YieldsC.uniq {o : Oper} {v v' : Value} {a : Act} {W : World} (hC : C W) (h : YieldsC P ops C o v a) (h' : YieldsC P ops C o v' a) : v = v' := by
 rcases h with ⟨hw, h⟩ | ⟨hw, h⟩ <;> rcases h' with ⟨hw', h'⟩ | ⟨hw', h'⟩
 ·rcases h W hC with h1 | ⟨h1, rfl⟩ <;> rcases h' W hC with h2 | ⟨h2, rfl⟩
  ·rw [h1] at h2; injection h2 with h3 _; injection h3
  ·rw [h1] at h2; injection h2 with h3 _; cases h3
  ·rw [h1] at h2; injection h2 with h3 _; cases h3
  ·rfl
 ·rw [hw] at hw'; cases hw'
 ·rw [hw] at hw'; cases hw'
 ·rw [h, h']

structure Made (S : MkSpec α) (w0 : World) (ms : List Nat) (σ : Nat → α) (V0 V : Nat → World) (W : World) : Prop where
 from0 : ∀ m ∈ ms, Below w0.heap.size w0 (V0 m)
 grow : ∀ m ∈ ms, Below (V0 m).heap.size (V0 m) (V m)
 post : ∀ m ∈ ms, S.post m (rst (S.par m) σ) (σ m) (V0 m) (V m)
 later : ∀ m ∈ ms, Below (V m).heap.size (V m) W
 apart : ∀ m ∈ ms, ∀ n ∈ ms, m ≠ n → (V m).heap.size ≤ (V0 n).heap.size ∨ (V n).heap.size ≤ (V0 m).heap.size

theorem Made.whole {S : MkSpec α} {w0 : World} {ms : List Nat} {σ : Nat → α} {V0 V : Nat → World} {W : World} (h : Made S w0 ms σ V0 V W) (m : Nat) (hm : m ∈ ms) : Below w0.heap.size w0 W := bth (bth (h.from0 m hm) (h.grow m hm)) (h.later m hm)
theorem _root_.Go.RowKit.Below.undrew {w W : World} (h : Below w.drew.heap.size w.drew W) : Below w.heap.size w W := ⟨h.os, h.tape, h.output, h.size, h.block⟩
theorem RW2_of_RW1 {S : MkSpec α} {σ : Nat → α} {F : Act → Prop} {r2 : List (Nat × Nat)} {W : World} (hF : ∀ a, F a → RW2 P ops C Q r2 a W) : ∀ (r : List (Nat × Nat)) (a : Act), (∀ x ∈ r, x.2 = 0 ∨ x.2 = 6) → RW1 P ops C Q S σ F r a → RW2 P ops C Q (r ++ r2) a W
 | [], a, _, h => hF a h
 | (i, k) :: r, a, h0, h => by
  have hk : k = 0 ∨ k = 6 := h0 (i, k) (by simp)
  have n1 : k ≠ 1 := by omega
  have n3 : k ≠ 3 := by omega
  have n5 : k ≠ 5 := by omega
  simp only [RW1, if_neg n1] at h
  simp only [List.cons_append, RW2, if_neg n3, if_neg n5]
  obtain ⟨oi, v, hoi, hy, hr⟩ := h
  exact ⟨oi, v, hoi, hy, RW2_of_RW1 hF r _ (fun x hx => h0 x (by simp [hx])) hr⟩

variable {S : MkSpec α} {w0 : World} {r2 : List (Nat × Nat)} {ms : List Nat}
def FinS (P : Program) (ops : Array Oper) (C : World → Prop) (Q : Act → World → Prop) (S : MkSpec α) (w0 : World) (r2 : List (Nat × Nat)) (ms : List Nat) (σ : Nat → α) (a : Act) : Prop :=
 ∀ V0 V W, Made S w0 ms σ V0 V W → C W → RW2 P ops C Q r2 a W

theorem zb136 {p : Prop} (h : p := by
 have := hk2 _ hj2
 simp only at this h3
 rcases this with rfl | rfl | rfl | rfl <;> simp [overB, clsK, pureK] at h3) : p := h
theorem wpAny_of_RW1 (hsel : Region.noSelect ops = true) (hst : ∀ W W', C W → Below W.heap.size W W' → C W')
  (hpar : ∀ e ∈ ms, ∀ m ∈ S.par e, m ∈ ms ∧ edgeB md ops e m = true) (hk2 : ∀ x ∈ r2, x.2 = 2 ∨ x.2 = 3 ∨ x.2 = 4 ∨ x.2 = 5) :
  ∀ (n : Nat) (r : List (Nat × Nat)) (listed : Array Bool) (a : Act) (W : World) (τ : Nat → α) (V0 V : Nat → World), r.length = n → (∀ x ∈ r, x.2 = 0 ∨ x.2 = 6 ∨ (x.2 = 1 ∧ x.1 ∈ ms)) → Fit md ops (r ++ r2) listed →
   (∀ m ∈ ms, ∀ k, (m, k) ∈ r ++ r2 → (m, k) ∈ r ∧ k = 1) →
   C W → Below w0.heap.size w0 W → Made S w0 (ms.filter fun m => decide ((m, 1) ∉ r)) τ V0 V W → (∀ m ∈ ms, (m, 1) ∉ r → ∀ k ∈ S.par m, (k, 1) ∉ r) →
   (∀ σ : Nat → α, (∀ m ∈ ms, (m, 1) ∉ r → σ m = τ m) → RW1 P ops C Q S σ (FinS P ops C Q S w0 r2 ms σ) r a) → wpAny P md ops (Nrm Q) (n + r2.length) listed a W := by
 intro n
 induction n with
 | zero =>
  intro r listed a W τ V0 V hn _ hf _ hC _ hM _ hR
  obtain rfl := List.length_eq_zero_iff.1 hn
  have h1 := hR τ (fun _ _ _ => rfl)
  have hms : (ms.filter fun m => decide ((m, 1) ∉ ([] : List (Nat × Nat)))) = ms := by simp
  rw [hms] at hM
  rw [Nat.zero_add]
  exact wpAny_of_RW2 hsel _ r2 listed a W rfl (fun x hx => by have := hk2 x hx; omega) hf (.inr hC) (h1 V0 V W hM hC)
 | succ n ih =>
  intro r listed a W τ V0 V hn hkr hf hmr hC hW hM hpd hR
  by_cases hmk : ∃ m, (m, 1) ∈ r
  ·obtain ⟨m0, hm0⟩ := hmk
   rw [show n + 1 + r2.length = (n + r2.length) + 1 by omega]
   refine ⟨fun h0 => ?_, fun j hj => ?_⟩
   ·cases r with
    | nil => simp at hn
    | cons x s => have := hf.head; rw [h0] at this; cases this
   ·obtain ⟨p, k, s, hr, hp, _⟩ := hf.ready hj
    -- j stands in r
    have hin : ∃ p' s', r = p' ++ (j, k) :: s' ∧ p = p' ∧ s = s' ++ r2 := by
     rcases List.append_eq_append_iff.1 hr with ⟨q, hq1, hq2⟩ | ⟨q, hq1, hq2⟩
     ·exfalso
      -- p = r ++ q : the maker m0 is ahead of j
      have h3 := hp (m0, 1) (by rw [hq1]; exact List.mem_append_left _ hm0)
      have hj2 : (j, k) ∈ r2 := by rw [hq2]; simp
      exact zb136
     ·cases q with
      | nil =>
       exfalso
       simp at hq1 hq2
       have h3 := hp (m0, 1) (by rw [← hq1]; exact hm0)
       have hj2 : (j, k) ∈ r2 := by rw [← hq2]; simp
       exact zb136
      | cons y q =>
       simp only [List.cons_append, List.cons.injEq] at hq2
       obtain ⟨rfl, hq2⟩ := hq2
       exact ⟨p, q, hq1, rfl, hq2⟩
    obtain ⟨p', s', rfl, rfl, rfl⟩ := hin
    have hap : ∀ x ∈ p, apB ops x.1 j = true := fun x hx => (hp x hx).2
    have hfs : Fit md ops ((p ++ s') ++ r2) (listed.setIfInBounds j true) := by
     have := hf
     rw [List.append_assoc, List.cons_append] at this
     have := this.step hj
     rwa [← List.append_assoc] at this
    have hlen : (p ++ s').length = n := by simp at hn ⊢; omega
    have hsub : (p ++ s').Sublist (p ++ (j, k) :: s') := List.Sublist.append_left (List.sublist_cons_self _ _) p
    have hkr' : ∀ x ∈ p ++ s', x.2 = 0 ∨ x.2 = 6 ∨ (x.2 = 1 ∧ x.1 ∈ ms) := fun x hx => hkr x (hsub.subset hx)
    have hjm := hkr (j, k) (by simp)
    obtain ⟨hju, oj', hoj', hedge⟩ := mem_ready.1 hj
    have hmr' : ∀ m ∈ ms, ∀ k', (m, k') ∈ (p ++ s') ++ r2 → (m, k') ∈ p ++ s' ∧ k' = 1 := by
     intro m hm k' hin
     have h1 : (m, k') ∈ (p ++ (j, k) :: s') ++ r2 := by
      rcases List.mem_append.1 hin with h | h
      ·exact List.mem_append_left _ (hsub.subset h)
      ·exact List.mem_append_right _ h
     have h2 := hmr m hm k' h1
     refine ⟨?_, h2.2⟩
     rcases List.mem_append.1 hin with h | h
     ·exact h
     ·exfalso
      have h3 := hk2 _ h; have h4 := h2.2
      simp at h3; omega
    by_cases hk1 : k ≠ 1
    ·have hnj : ∀ m, (m, 1) ∉ p ++ s' ↔ (m, 1) ∉ p ++ (j, k) :: s' := fun m => by simp [Ne.symm hk1]
     obtain ⟨oj, v, hoj, hy, _⟩ := RW1_still hsel hk1 p a hap (hR τ (fun _ _ _ => rfl))
     have hcw : clsOf C k W := .inr hC
     refine hy.wpOp hoj hcw (ih (p ++ s') _ _ W τ V0 V hlen hkr' hfs hmr' hC hW ?_ ?_ ?_)
     ·have : (ms.filter fun m => decide ((m, 1) ∉ p ++ s')) = ms.filter fun m => decide ((m, 1) ∉ p ++ (j, k) :: s') := by
       congr 1; funext m; exact decide_eq_decide.2 (hnj m)
      rw [this]; exact hM
     ·intro m hm hmn k' hk'
      rw [hnj] at hmn ⊢
      exact hpd m hm hmn k' hk'
     ·intro σ hσ
      obtain ⟨oj2, v2, hoj2, hy2, hr2⟩ := RW1_still hsel hk1 p a hap (hR σ (fun m hm hmn => hσ m hm ((hnj m).2 hmn)))
      obtain rfl := Option.some.inj (hoj.symm.trans hoj2)
      obtain rfl := hy.uniq hcw hy2
      exact hr2
    ·obtain rfl : k = 1 := Classical.byContradiction hk1
     have hjms : j ∈ ms := by
      rcases hjm with h | h | h
      ·cases h
      ·cases h
      ·exact h.2
     have hdone : ∀ k' ∈ S.par j, (k', 1) ∉ p ++ (j, 1) :: s' := by
      intro k' hk' hin
      have he := (hpar j hjms k' hk').2
      obtain ⟨o2, ho2, e, hem, heb, heon⟩ := edgeB_iff.1 he
      obtain rfl := Option.some.inj (hoj'.symm.trans ho2)
      have h1 := hedge e hem heb; have hlt := hf.lt (k', 1) (List.mem_append_left _ hin); have h2 := (hf.mem k' hlt).2 ⟨1, List.mem_append_left _ hin⟩
      rw [heon, getD_both h2] at h1; cases h1
     have hnd : (j, 1) ∉ p ++ s' := by
      intro hin
      have hpw := hf.pw
      rw [List.append_assoc, List.cons_append] at hpw
      rcases List.mem_append.1 hin with h | h
      ·have := (List.pairwise_append.1 hpw).2.2 _ h (j, 1) (by simp)
       simp [pairB] at this
      ·have := (List.pairwise_cons.1 (List.pairwise_append.1 hpw).2.1).1 (j, 1) (List.mem_append_left _ h)
       simp [pairB] at this
     have hnj : ∀ m, (m, 1) ∉ p ++ s' ↔ (m, 1) ∉ p ++ (j, 1) :: s' ∨ m = j := by
      intro m
      by_cases hmj : m = j
      ·subst hmj; simp [hnd]
      ·simp [hmj]
     have hparms : ∀ k' ∈ S.par j, k' ∈ ms := fun k' hk' => (hpar j hjms k' hk').1
     obtain ⟨oj, hoj, hob, _⟩ := RW1_mk hsel p a hap (hR τ (fun _ _ _ => rfl))
     have hmem : ∀ m, m ∈ ms → (m, 1) ∉ p ++ (j, 1) :: s' → m ∈ ms.filter fun m => decide ((m, 1) ∉ p ++ (j, 1) :: s') := fun m h1 h2 => List.mem_filter.2 ⟨h1, by simpa using h2⟩
     refine hob W hC (fun m hm => ?_) _ ?_
     ·have hin := hmem m (hparms m hm) (hdone m hm)
      exact ⟨V0 m, V m, hM.grow m hin, hM.post m hin, hM.later m hin⟩
     ·rintro v W' ⟨q, rfl, hg, hpost⟩
      have hup : ∀ m, (m, 1) ∉ p ++ (j, 1) :: s' → m ≠ j := fun m h1 h2 => h1 (by subst h2; simp)
      have hparup : ∀ m ∈ ms, (m, 1) ∉ p ++ (j, 1) :: s' → rst (S.par m) (fun i => if i = j then q else τ i) = rst (S.par m) τ := fun m hm hmn =>
       rst_congr fun k' hk' => by rw [if_neg (hup k' (hpd m hm hmn k' hk'))]
      have hparj : rst (S.par j) (fun i => if i = j then q else τ i) = rst (S.par j) τ := rst_congr fun k' hk' => by rw [if_neg (hup k' (hdone k' hk'))]
      have hold : ∀ m, m ∈ (ms.filter fun m => decide ((m, 1) ∉ p ++ s')) → m ≠ j → m ∈ ms.filter fun m => decide ((m, 1) ∉ p ++ (j, 1) :: s') := fun m hm hne => by
       obtain ⟨h1, h2⟩ := List.mem_filter.1 hm
       have h3 := (hnj m).1 (of_decide_eq_true h2)
       exact hmem m h1 (h3.resolve_right hne)
      refine ih (p ++ s') _ _ W' (fun i => if i = j then q else τ i) (fun i => if i = j then W else V0 i) (fun i => if i = j then W' else V i) hlen hkr' hfs hmr' (hst W W' hC hg) (hW.trans (hg.mono hW.size)) ?_ ?_ ?_
      ·refine ⟨fun m hm => ?_, fun m hm => ?_, fun m hm => ?_, fun m hm => ?_, fun m hm m' hm' hne => ?_⟩
       ·by_cases hmj : m = j
        ·rw [if_pos hmj]; exact hW
        ·rw [if_neg hmj]; exact hM.from0 m (hold m hm hmj)
       ·by_cases hmj : m = j
        ·rw [if_pos hmj, if_pos hmj]; exact hg
        ·rw [if_neg hmj, if_neg hmj]; exact hM.grow m (hold m hm hmj)
       ·by_cases hmj : m = j
        ·subst hmj
         rw [hparj]
         simp only [if_true]; exact hpost
        ·have h1 := hold m hm hmj
         have h2 := List.mem_filter.1 h1
         rw [hparup m h2.1 (of_decide_eq_true h2.2)]
         simp only [if_neg hmj]
         exact hM.post m h1
       ·by_cases hmj : m = j
        ·rw [if_pos hmj]; exact Below.refl _ _
        ·rw [if_neg hmj]; have h1 := hM.later m (hold m hm hmj); exact h1.trans (hg.mono h1.size)
       ·by_cases hmj : m = j
        ·subst hmj
         have hn : m' ≠ m := fun h => hne h.symm
         have h1 := hM.later m' (hold m' hm' hn)
         simp only [if_true, if_neg hn]
         exact .inr h1.size
        ·by_cases hmj' : m' = j
         ·subst hmj'
          have h1 := hM.later m (hold m hm hmj)
          simp only [if_true, if_neg hmj]
          exact .inl h1.size
         ·simp only [if_neg hmj, if_neg hmj']
          exact hM.apart m (hold m hm hmj) m' (hold m' hm' hmj') hne
      ·intro m hm hmn k' hk'
       rcases (hnj m).1 hmn with h1 | h1
       ·exact (hnj k').2 (.inl (hpd m hm h1 k' hk'))
       ·subst h1; exact (hnj k').2 (.inl (hdone k' hk'))
      ·intro σ hσ
       have hσj : σ j = q := by have := hσ j hjms hnd; simpa using this
       obtain ⟨oj2, hoj2, _, hr2⟩ := RW1_mk hsel p a hap (hR σ (fun m hm hmn => by
        have := hσ m hm ((hnj m).2 (.inl hmn))
        rw [this, if_neg (hup m hmn)]))
       obtain rfl := Option.some.inj (hoj.symm.trans hoj2)
       rw [hσj] at hr2
       exact hr2
  ·have h0 : ∀ x ∈ r, x.2 = 0 ∨ x.2 = 6 := fun x hx => by
    rcases hkr x hx with h | h | ⟨h, _⟩
    ·exact .inl h
    ·exact .inr h
    ·exact absurd ⟨x.1, by rw [← h]; exact hx⟩ hmk
   have hms : (ms.filter fun m => decide ((m, 1) ∉ r)) = ms := by
    rw [List.filter_eq_self]
    intro m _
    exact decide_eq_true fun h => hmk ⟨m, h⟩
   rw [hms] at hM
   have h1 := hR τ (fun _ _ _ => rfl); have h2 : RW2 P ops C Q (r ++ r2) a W := RW2_of_RW1 (fun a' hF => hF V0 V W hM hC) r a h0 h1
   have hl : (r ++ r2).length = n + 1 + r2.length := by simp [hn]
   rw [← hl]
   refine wpAny_of_RW2 hsel _ (r ++ r2) listed a W rfl (fun x hx => ?_) hf (.inr hC) h2
   rcases List.mem_append.1 hx with h | h
   ·have := h0 x h; omega
   ·have := hk2 x h; omega

def mkOrd (k0 k1 : Nat) : List (List Nat × Nat) → List Nat → List (Nat × Nat)
 | [], s => s.map (·, k0)
 | (s, e) :: r, s' => s.map (·, k0) ++ (e, k1) :: mkOrd k0 k1 r s'
def cls (C : World → Prop) : World → Prop := fun w' => ∃ k : Hld C, w' = k.world
def mkB (md : Region.Mode) (ops : Array Oper) (par : Nat → List Nat) (r1 : List (List Nat × Nat)) (s1 : List Nat) (r2 : List (List Nat × Nat)) (s2 : List Nat) : Bool :=
 let o1 := mkOrd 0 1 r1 s1; let o2 := mkOrd 2 3 r2 s2; let ms := r1.map (·.2)
 Region.noSelect ops && wfB md ops && pairsB md ops (o1 ++ o2) && (o1 ++ o2).all (fun x => decide (x.1 < ops.size)) && (List.range ops.size).all (fun i => (o1 ++ o2).any fun x => x.1 == i) &&
  (o1 ++ o2).all (fun x => x.2 == 1 || x.2 == 3 || stillAt ops x.1) && ms.all (fun e => (par e).all fun m => ms.contains m && edgeB md ops e m) && (o1 ++ o2).all (fun x => !(ms.contains x.1) || x.2 == 1) &&
  decide (o1.length + o2.length = ops.size)
def dstAt (l : List Oper) (e : Nat) : Option Tmp := match l[e]? with | some o => o.dst | none => none
def wpMk1 (P : Program) (l : List Oper) (C : World → Prop) (S : MkSpec α) (σ : Nat → α) (F : Act → Prop) : List (List Nat × Nat) → List Nat → Act → Prop
 | [], s, a => wpQuiet P l.toArray C F (pickOps l s) a
 | (s, e) :: r, s', a => wpQuiet P l.toArray C (fun a' =>
   (∀ W, C W → (∀ m ∈ S.par e, MFact S σ m W) → wpList P l.toArray (Nrm fun a'' W' => ∃ p, a'' = a'.put (dstAt l e) (S.val e p) ∧ Below W.heap.size W W' ∧ S.post e (rst (S.par e) σ) p W W') (pickOps l [e]) a' W) ∧
   wpMk1 P l C S σ F r s' (a'.put (dstAt l e) (S.val e (σ e)))) (pickOps l s) a

theorem YieldsC.clsOf {o : Oper} {v : Value} {a : Act} {k : Nat} (hk : pureK k = false) (h : YieldsC P ops C o v a) : YieldsC P ops (clsOf C k) o v a := by
 have e : Go.G9.clsOf C k = C := by
  funext w; unfold Go.G9.clsOf; rw [hk]; exact propext ⟨fun h => h.resolve_left (by decide), .inr⟩
 rw [e]; exact h
theorem quiet_stills {l : List Oper} {X : Act → Prop} {R : List (Nat × Nat) → Act → Prop} {kk : Nat} {r : List (Nat × Nat)}
  (hR : ∀ (i : Nat) (r : List (Nat × Nat)) (a : Act), (∃ oi v, l.toArray[i]? = some oi ∧ YieldsC P l.toArray C oi v a ∧ R r (a.put oi.dst v)) → R ((i, kk) :: r) a) (hX : ∀ a, X a → R r a) :
  ∀ (s : List Nat) (a : Act), (∀ i ∈ s, i < l.length ∧ stillAt l.toArray i = true) → wpQuiet P l.toArray C X (pickOps l s) a → R (s.map (·, kk) ++ r) a
 | [], a, _, h => hX a h
 | i :: s, a, hs, h => by
  have hi := hs i (by simp)
  have hp : pickOps l (i :: s) = l[i]'hi.1 :: pickOps l s := by simp [pickOps, hi.1]
  rw [hp] at h
  have h1 : l.toArray[i]? = some (l[i]'hi.1) := by simp [hi.1]
  have h' : qOp P l.toArray C i (wpQuiet P l.toArray C X (pickOps l s)) a := by
   unfold qOp; simp only [h1]; exact h
  obtain ⟨v, hy, hK⟩ := yieldsIn_of_qOp h1 h'
  have hk : stillKind (l[i]'hi.1).op = true := by have := hi.2; simpa [stillAt, h1] using this
  exact hR i _ a ⟨_, v, h1, YieldsIn.toC hk hy, quiet_stills hR hX s _ (fun j hj => hs j (by simp [hj])) hK⟩

theorem RW2_of_mix {l : List Oper} : ∀ (r : List (List Nat × Nat)) (s' : List Nat) (a : Act) (w : World), (∀ x ∈ mkOrd 2 3 r s', x.1 < l.length ∧ (x.2 = 3 ∨ stillAt l.toArray x.1 = true)) → wpMix P l C Q r s' a w → RW2 P l.toArray C Q (mkOrd 2 3 r s') a w
 | [], s', a, w, hl, h => by
  have := quiet_stills (P := P) (C := C) (l := l) (R := fun r a => RW2 P l.toArray C Q r a w) (kk := 2) (r := []) (fun i r a h => by
   obtain ⟨oi, v, h1, h2, h3⟩ := h
   simp only [RW2]; rw [if_neg (by decide), if_neg (by decide)]; exact ⟨oi, v, h1, h2.clsOf rfl, h3⟩) (fun a h => h) s' a (fun i hi => by
   have := hl (i, 2) (by simp [mkOrd, hi]); exact ⟨this.1, this.2.resolve_left (by simp)⟩) h
  simpa [mkOrd] using this
 | (s, e) :: r, s', a, w, hl, h => by
  refine quiet_stills (P := P) (C := C) (l := l) (R := fun r a => RW2 P l.toArray C Q r a w) (kk := 2) (fun i r a h => by
   obtain ⟨oi, v, h1, h2, h3⟩ := h
   simp only [RW2]; rw [if_neg (by decide), if_neg (by decide)]; exact ⟨oi, v, h1, h2.clsOf rfl, h3⟩) (fun a' h' => ?_) s a (fun i hi => by
   have := hl (i, 2) (by simp [mkOrd, hi]); exact ⟨this.1, this.2.resolve_left (by simp)⟩) h
  have he : e < l.length := (hl (e, 3) (by simp [mkOrd])).1
  have hp : pickOps l [e] = [l[e]] := by simp [pickOps, he]
  rw [hp] at h'
  simp only [RW2, if_true]
  unfold wpOp
  have h1 : l.toArray[e]? = some l[e] := by simp [he]
  simp only [h1]
  unfold wpList at h'
  have hrest : ∀ a'' w'', wpList P l.toArray (Nrm fun a'' w'' => C w'' ∧ wpMix P l C Q r s' a'' w'') [] a'' w'' → C w'' ∧ RW2 P l.toArray C Q (mkOrd 2 3 r s') a'' w'' := fun a'' w'' h2 =>
   ⟨h2.2.1, RW2_of_mix r s' a'' w'' (fun x hx => hl x (by simp [mkOrd, hx])) h2.2.2⟩
  exact zb99

theorem RW1_of_mk {l : List Oper} {S : MkSpec α} {σ : Nat → α} {F F' : Act → Prop} (hF : ∀ a, F a → F' a) : ∀ (r : List (List Nat × Nat)) (s' : List Nat) (a : Act), (∀ x ∈ mkOrd 0 1 r s', x.1 < l.length ∧ (x.2 = 1 ∨ stillAt l.toArray x.1 = true)) → wpMk1 P l C S σ F r s' a → RW1 P l.toArray C Q S σ F' (mkOrd 0 1 r s') a
 | [], s', a, hl, h => by
  have := quiet_stills (P := P) (C := C) (l := l) (R := fun r a => RW1 P l.toArray C Q S σ F' r a) (kk := 0) (r := []) (fun i r a h => by
   obtain ⟨oi, v, h1, h2, h3⟩ := h
   simp only [RW1]; rw [if_neg (by decide)]; exact ⟨oi, v, h1, h2.clsOf rfl, h3⟩) (fun a h => hF a h) s' a (fun i hi => by
   have := hl (i, 0) (by simp [mkOrd, hi]); exact ⟨this.1, this.2.resolve_left (by simp)⟩) h
  simpa [mkOrd] using this
 | (s, e) :: r, s', a, hl, h => by
  refine quiet_stills (P := P) (C := C) (l := l) (R := fun r a => RW1 P l.toArray C Q S σ F' r a) (kk := 0) (fun i r a h => by
   obtain ⟨oi, v, h1, h2, h3⟩ := h
   simp only [RW1]; rw [if_neg (by decide)]; exact ⟨oi, v, h1, h2.clsOf rfl, h3⟩) (fun a' h' => ?_) s a (fun i hi => by
   have := hl (i, 0) (by simp [mkOrd, hi]); exact ⟨this.1, this.2.resolve_left (by simp)⟩) h
  have he : e < l.length := (hl (e, 1) (by simp [mkOrd])).1
  have hp : pickOps l [e] = [l[e]] := by simp [pickOps, he]
  have hd : dstAt l e = (l[e]).dst := by unfold dstAt; simp [he]
  rw [hp, hd] at h'
  simp only [RW1, if_true]
  have h1 : l.toArray[e]? = some l[e] := by simp [he]
  refine ⟨l[e], h1, fun W hC hpar L hL => ?_, RW1_of_mk hF r s' _ (fun x hx => hl x (by simp [mkOrd, hx])) h'.2⟩
  have h2 := h'.1 W hC hpar
  unfold wpList at h2
  unfold wpOp
  simp only [h1]
  have hrest : ∀ a'' w'', wpList P l.toArray (Nrm fun a'' W' => ∃ p, a'' = a'.put (l[e]).dst (S.val e p) ∧ Below W.heap.size W W' ∧ S.post e (rst (S.par e) σ) p W W') [] a'' w'' → L a'' w'' := fun a'' w'' h3 => by
   obtain ⟨_, p, rfl, hb, hq⟩ := h3
   exact hL _ _ ⟨p, rfl, hb, hq⟩
  split
  ·rename_i hw
   simp only [hw, if_true] at h2
   exact h2.elim (fun h3 => .inl (Oper.wp_nrm hrest h3)) (fun h3 => absurd h3.2 Nrm_out)
  ·rename_i hw
   simp only [hw] at h2
   exact hrest _ _ h2

theorem mkOrd_snd {k0 k1 : Nat} : ∀ (r : List (List Nat × Nat)) (s' : List Nat), ∀ x ∈ mkOrd k0 k1 r s', x.2 = k0 ∨ (x.2 = k1 ∧ x.1 ∈ r.map (·.2))
 | [], s', x, hx => by
  simp [mkOrd] at hx
  obtain ⟨_, _, rfl⟩ := hx
  exact .inl rfl
 | (s, e) :: r, s', x, hx => by
  simp only [mkOrd, List.mem_append, List.mem_cons, List.mem_map] at hx
  rcases hx with ⟨_, _, rfl⟩ | rfl | hx
  ·exact .inl rfl
  ·exact .inr ⟨rfl, by simp⟩
  ·rcases mkOrd_snd r s' x hx with h | ⟨h, h2⟩
   ·exact .inl h
   ·exact .inr ⟨h, by simp only [List.map_cons, List.mem_cons]; exact .inr h2⟩
theorem mkOrd_mem {k0 k1 : Nat} : ∀ (r : List (List Nat × Nat)) (s' : List Nat), ∀ m ∈ r.map (·.2), (m, k1) ∈ mkOrd k0 k1 r s'
 | [], _, m, hm => by simp at hm
 | (s, e) :: r, s', m, hm => by
  simp only [List.map_cons, List.mem_cons] at hm
  simp only [mkOrd, List.mem_append, List.mem_cons]
  rcases hm with rfl | hm
  ·exact .inr (.inl rfl)
  ·exact .inr (.inr (mkOrd_mem r s' m hm))

theorem wpMk1_cons {l : List Oper} {S : MkSpec α} {σ : Nat → α} {F : Act → Prop} {s s' : List Nat} {e : Nat} {r : List (List Nat × Nat)} {a : Act} (D : Option Tmp) (hD : dstAt l e = D) (v : Value) (hv : S.val e (σ e) = v)
  (h : ∀ K : Act → Prop, (∀ a', wpMk1 P l (fun w' => ∃ k : Hld C, w' = k.world) S σ F r s' (a'.put D v) → K a') → wpQuiet P l.toArray (fun w' => ∃ k : Hld C, w' = k.world) (fun a' =>
   (∀ k : Hld C, (∀ m ∈ S.par e, MFact S σ m k.world) → wpList P l.toArray (Nrm fun a'' W' => ∃ p, a'' = a'.put D (S.val e p) ∧ Below k.world.heap.size k.world W' ∧ S.post e (rst (S.par e) σ) p k.world W') (pickOps l [e]) a' k.world) ∧ K a') (pickOps l s) a) :
  wpMk1 P l (fun w' => ∃ k : Hld C, w' = k.world) S σ F ((s, e) :: r) s' a := by
 subst hD hv
 have H := h _ (fun _ h => h); have e1 : (fun a' : Act => (∀ W, (∃ k : Hld C, W = k.world) → (∀ m ∈ S.par e, MFact S σ m W) → wpList P l.toArray (Nrm fun a'' W' => ∃ p, a'' = a'.put (dstAt l e) (S.val e p) ∧ Below W.heap.size W W' ∧ S.post e (rst (S.par e) σ) p W W') (pickOps l [e]) a' W) ∧ wpMk1 P l (fun w' => ∃ k : Hld C, w' = k.world) S σ F r s' (a'.put (dstAt l e) (S.val e (σ e))))
   = fun a' => (∀ k : Hld C, (∀ m ∈ S.par e, MFact S σ m k.world) → wpList P l.toArray (Nrm fun a'' W' => ∃ p, a'' = a'.put (dstAt l e) (S.val e p) ∧ Below k.world.heap.size k.world W' ∧ S.post e (rst (S.par e) σ) p k.world W') (pickOps l [e]) a' k.world) ∧ wpMk1 P l (fun w' => ∃ k : Hld C, w' = k.world) S σ F r s' (a'.put (dstAt l e) (S.val e (σ e))) := by
  funext a'
  exact propext ⟨fun ⟨h1, h2⟩ => ⟨fun k => h1 _ ⟨k, rfl⟩, h2⟩, fun ⟨h1, h2⟩ => ⟨fun W ⟨k, hk⟩ => hk ▸ h1 k, h2⟩⟩
 unfold wpMk1
 rw [e1]
 exact H
theorem wpMk1_last {l : List Oper} {S : MkSpec α} {σ : Nat → α} {F : Act → Prop} {s' : List Nat} {a : Act} (h : wpQuiet P l.toArray C F (pickOps l s') a) : wpMk1 P l C S σ F [] s' a := h
theorem Nrm_mk {Y : Act → World → Prop} {a : Act} {w : World} (h : Y a w) : Nrm Y .normal a w := ⟨rfl, h⟩
theorem zb89 {p : Prop} (h : p := by
 have h1 := b4 x (List.mem_append_left _ hx); have h2 := b6 x (List.mem_append_left _ hx)
 refine ⟨by simpa using h1, ?_⟩
 rcases mkOrd_snd r1 s1 x hx with h3 | ⟨h3, _⟩
 ·right; simpa [h3] using h2
 ·exact .inl h3) : p := h
theorem zb26 {p : Prop} (h : p := by
 refine ⟨b2, by simp, fun i hi => ?_, fun x hx => b4 x hx, pairsB_pw b3, fun x y he _ => by
  obtain ⟨o, ho, _⟩ := edgeB_iff.1 he
  have hy := (Array.getElem?_eq_some_iff.1 ho).1
  have hy' : y < l.length := by simpa using hy
  simp [Array.getD_eq_getD_getElem?, hy']⟩
 have h1 := b5 i (List.mem_range.2 hi)
 rw [List.any_eq_true] at h1
 obtain ⟨x, hx, hxi⟩ := h1
 refine ⟨fun _ => ⟨x.2, ?_⟩, fun _ => ?_⟩
 ·have : x.1 = i := by simpa using hxi
  rw [← this]; exact hx
 ·have : i < l.length := by simpa using hi
  simp [Array.getD_eq_getD_getElem?, this]) : p := h
theorem zb101 {p : Prop} (h : p := by
 rw [b9] at H
 have HH : (Code.region id l.toArray true).wp P (Nrm fun a' w' => Q .normal a' w') a w := wp_region_any hm H
 exact Code.wp_mono (fun e a w h => by obtain ⟨rfl, h⟩ := h; exact h) HH) : p := h
theorem wp_region_mk {id : Nat} {Q : Exit → Act → World → Prop} {a : Act} {w : World} {l : List Oper} (S : MkSpec α) (C : World → Prop) (r1 : List (List Nat × Nat)) (s1 : List Nat) (r2 : List (List Nat × Nat)) (s2 : List Nat) (hm : P.follows .mixedOrders = true)
  (hB : mkB .any l.toArray S.par r1 s1 r2 s2 = true) (hC : C w.drew) (hst : ∀ W W', C W → Below W.heap.size W W' → C W')
  (h : ∀ σ : Nat → α, wpMk1 P l (fun w' => ∃ k : Hld C, w' = k.world) S σ (fun a' => ∀ V0 V W, Made S w.drew (r1.map (·.2)) σ V0 V W → C W → wpMix P l (fun w' => ∃ k : Hld C, w' = k.world) (fun a' w' => Q .normal a' w') r2 s2 a' W) r1 s1 a) : (Code.region id l.toArray true).wp P Q a w := by
 simp only [mkB, Bool.and_eq_true, List.all_eq_true, decide_eq_true_eq] at hB
 obtain ⟨⟨⟨⟨⟨⟨⟨⟨b1, b2⟩, b3⟩, b4⟩, b5⟩, b6⟩, b7⟩, b8⟩, b9⟩ := hB
 have hst' : ∀ W W', cls C W → Below W.heap.size W W' → cls C W' := fun W W' ⟨k, hk⟩ hb => ⟨⟨W', hst W W' (hk ▸ k.holds) hb⟩, rfl⟩
 have hk1 : ∀ x ∈ mkOrd 0 1 r1 s1, x.1 < l.length ∧ (x.2 = 1 ∨ stillAt l.toArray x.1 = true) := fun x hx => by
  exact zb89
 have hk2 : ∀ x ∈ mkOrd 2 3 r2 s2, x.1 < l.length ∧ (x.2 = 3 ∨ stillAt l.toArray x.1 = true) := fun x hx => by
  have h1 := b4 x (List.mem_append_right _ hx); have h2 := b6 x (List.mem_append_right _ hx)
  refine ⟨by simpa using h1, ?_⟩
  rcases mkOrd_snd r2 s2 x hx with h3 | ⟨h3, _⟩
  ·right; simpa [h3] using h2
  ·exact .inl h3
 have hms : ∀ m ∈ r1.map (·.2), ∀ k, (m, k) ∈ mkOrd 0 1 r1 s1 ++ mkOrd 2 3 r2 s2 → (m, k) ∈ mkOrd 0 1 r1 s1 ∧ k = 1 := by
  intro m hm k hk
  have h1 := b8 _ hk; have hc : (r1.map (·.2)).contains m = true := List.contains_iff_mem.2 hm
  simp only [hc, Bool.not_true, Bool.false_or, beq_iff_eq] at h1
  refine ⟨?_, h1⟩
  rcases List.mem_append.1 hk with h2 | h2
  ·exact h2
  ·exfalso
   rcases mkOrd_snd r2 s2 _ h2 with h3 | ⟨h3, _⟩ <;> simp at h3 <;> omega
 have hfit : Fit .any l.toArray (mkOrd 0 1 r1 s1 ++ mkOrd 2 3 r2 s2) (Array.replicate l.toArray.size false) := by
  exact zb26
 have H := wpAny_of_RW1 (P := P) (md := .any) (ops := l.toArray) (C := cls C) (Q := fun a' w' => Q .normal a' w') (S := S) (w0 := w.drew) (r2 := mkOrd 2 3 r2 s2) (ms := r1.map (·.2)) b1 hst'
  (fun e he m hm => by
   have h1 := b7 e he m hm
   exact ⟨List.contains_iff_mem.1 h1.1, h1.2⟩)
  (fun x hx => by
   rcases mkOrd_snd r2 s2 x hx with h | ⟨h, _⟩
   ·exact .inl h
   ·exact .inr (.inl h))
  _ (mkOrd 0 1 r1 s1) _ a w.drew (fun _ => default) (fun _ => w) (fun _ => w) rfl (fun x hx => (mkOrd_snd r1 s1 x hx).imp_right .inr) hfit hms ⟨⟨_, hC⟩, rfl⟩ (Below.refl _ _)
  (by
   have : ((r1.map (·.2)).filter fun m => decide ((m, 1) ∉ mkOrd 0 1 r1 s1)) = [] := by
    rw [List.filter_eq_nil_iff]
    intro m hm
    simp [mkOrd_mem r1 s1 m hm]
   rw [this]
   exact ⟨fun m h => (by cases h), fun m h => (by cases h), fun m h => (by cases h), fun m h => (by cases h), fun m h => (by cases h)⟩)
  (fun m hm hn => absurd (mkOrd_mem r1 s1 m hm) hn)
  (fun σ _ => RW1_of_mk (fun a' hF V0 V W hM ⟨k, hCW⟩ => RW2_of_mix r2 s2 a' W hk2 (hF V0 V W hM (by rw [hCW]; exact k.holds))) r1 s1 a hk1 (h σ))
 exact zb101
theorem YieldsC.mono {o : Oper} {v : Value} {a : Act} {C1 C2 : World → Prop} (hs : ∀ w, C2 w → C1 w) (h : YieldsC P ops C1 o v a) : YieldsC P ops C2 o v a := by
 rcases h with ⟨h1, h2⟩ | h
 ·exact .inl ⟨h1, fun w hw => h2 w (hs w hw)⟩
 ·exact .inr h
def anyW : World → Prop := fun w' => ∃ k : Hld (fun _ => True), w' = k.world
def mxOrd : List (List Nat × List Nat × Nat × Bool) → List Nat → List Nat → List (Nat × Nat)
 | [], s, p => s.map (·, 2) ++ p.map (·, 4)
 | (s, p, e, d) :: r, s', p' => s.map (·, 2) ++ (p.map (·, 4) ++ (e, if d = true then 5 else 3) :: mxOrd r s' p')
def Keeps (d : Bool) (C : World → Prop) (w : World) : Prop := d = false → C w
def wpMx (P : Program) (l : List Oper) (C : World → Prop) (Q : Act → World → Prop) : List (List Nat × List Nat × Nat × Bool) → List Nat → List Nat → Act → World → Prop
 | [], s, p, a, w => wpQuiet P l.toArray C (fun a' => wpQuiet P l.toArray anyW (fun a'' => Q a'' w) (pickOps l p) a') (pickOps l s) a
 | (s, p, e, d) :: r, s', p', a, w => wpQuiet P l.toArray C (fun a' => wpQuiet P l.toArray anyW (fun a'' => wpList P l.toArray (Nrm fun a'' w'' => Keeps d C w'' ∧ wpMx P l C Q r s' p' a'' w'') (pickOps l [e]) a'' w) (pickOps l p) a') (pickOps l s) a
theorem RW2_of_mx {l : List Oper} : ∀ (r : List (List Nat × List Nat × Nat × Bool)) (s' p' : List Nat) (a : Act) (w : World), (∀ x ∈ mxOrd r s' p', x.1 < l.length ∧ (x.2 = 3 ∨ x.2 = 5 ∨ stillAt l.toArray x.1 = true)) → wpMx P l C Q r s' p' a w → RW2 P l.toArray C Q (mxOrd r s' p') a w
 | [], s', p', a, w, hl, h => by
  refine quiet_stills (P := P) (C := C) (l := l) (R := fun r a => RW2 P l.toArray C Q r a w) (kk := 2) (fun i r a h => by
   obtain ⟨oi, v, h1, h2, h3⟩ := h
   simp only [RW2]; rw [if_neg (by decide), if_neg (by decide)]; exact ⟨oi, v, h1, h2.clsOf rfl, h3⟩) (fun a' h' => ?_) s' a (fun i hi => by
   have := hl (i, 2) (by simp [mxOrd, hi]); exact ⟨this.1, (this.2.resolve_left (by simp)).resolve_left (by simp)⟩) h
  have := quiet_stills (P := P) (C := anyW) (l := l) (R := fun r a => RW2 P l.toArray C Q r a w) (kk := 4) (r := []) (fun i r a h => by
   obtain ⟨oi, v, h1, h2, h3⟩ := h
   simp only [RW2]; rw [if_neg (by decide), if_neg (by decide)]; exact ⟨oi, v, h1, h2.mono (fun w _ => ⟨⟨w, trivial⟩, rfl⟩), h3⟩) (fun a h => h) p' a' (fun i hi => by
   have := hl (i, 4) (by simp [mxOrd, hi]); exact ⟨this.1, (this.2.resolve_left (by simp)).resolve_left (by simp)⟩) h'
  simpa using this
 | (s, p, e, d) :: r, s', p', a, w, hl, h => by
  refine quiet_stills (P := P) (C := C) (l := l) (R := fun r a => RW2 P l.toArray C Q r a w) (kk := 2) (fun i r a h => by
   obtain ⟨oi, v, h1, h2, h3⟩ := h
   simp only [RW2]; rw [if_neg (by decide), if_neg (by decide)]; exact ⟨oi, v, h1, h2.clsOf rfl, h3⟩) (fun a' h' => ?_) s a (fun i hi => by
   have := hl (i, 2) (by simp [mxOrd, hi]); exact ⟨this.1, (this.2.resolve_left (by simp)).resolve_left (by simp)⟩) h
  refine quiet_stills (P := P) (C := anyW) (l := l) (R := fun r a => RW2 P l.toArray C Q r a w) (kk := 4) (fun i r a h => by
   obtain ⟨oi, v, h1, h2, h3⟩ := h
   simp only [RW2]; rw [if_neg (by decide), if_neg (by decide)]; exact ⟨oi, v, h1, h2.mono (fun w _ => ⟨⟨w, trivial⟩, rfl⟩), h3⟩) (fun a' h' => ?_) p a' (fun i hi => by
   have := hl (i, 4) (by simp [mxOrd, hi]); exact ⟨this.1, (this.2.resolve_left (by simp)).resolve_left (by simp)⟩) h'
  have he : e < l.length := (hl (e, if d = true then 5 else 3) (by simp [mxOrd])).1
  have hp : pickOps l [e] = [l[e]] := by simp [pickOps, he]
  rw [hp] at h'
  have h1 : l.toArray[e]? = some l[e] := by simp [he]
  have hrec : ∀ a'' w'', wpMx P l C Q r s' p' a'' w'' → RW2 P l.toArray C Q (mxOrd r s' p') a'' w'' := fun a'' w'' h2 => RW2_of_mx r s' p' a'' w'' (fun x hx => hl x (by simp [mxOrd, hx])) h2
  unfold wpList at h'
  cases d with
  | false =>
   simp only [RW2, Bool.false_eq_true, if_false, if_true]
   unfold wpOp
   simp only [h1]
   have hrest : ∀ a'' w'', wpList P l.toArray (Nrm fun a'' w'' => Keeps false C w'' ∧ wpMx P l C Q r s' p' a'' w'') [] a'' w'' → C w'' ∧ RW2 P l.toArray C Q (mxOrd r s' p') a'' w'' := fun a'' w'' h2 =>
    ⟨h2.2.1 rfl, hrec _ _ h2.2.2⟩
   exact zb99
  | true =>
   simp only [RW2, if_true]
   rw [if_neg (by decide)]
   unfold wpOp
   simp only [h1]
   have hrest : ∀ a'' w'', wpList P l.toArray (Nrm fun a'' w'' => Keeps true C w'' ∧ wpMx P l C Q r s' p' a'' w'') [] a'' w'' → RW2 P l.toArray C Q (mxOrd r s' p') a'' w'' := fun a'' w'' h2 =>
    hrec _ _ h2.2.2
   exact zb99
theorem mxOrd_snd : ∀ (r : List (List Nat × List Nat × Nat × Bool)) (s' p' : List Nat), ∀ x ∈ mxOrd r s' p', x.2 ≠ 1 ∧ x.2 ≤ 6
 | [], s', p', x, hx => by
  simp [mxOrd] at hx
  rcases hx with ⟨_, _, rfl⟩ | ⟨_, _, rfl⟩ <;> simp
 | (s, p, e, d) :: r, s', p', x, hx => by
  simp only [mxOrd, List.mem_append, List.mem_cons, List.mem_map] at hx
  rcases hx with ⟨_, _, rfl⟩ | ⟨_, _, rfl⟩ | rfl | hx
  ·simp
  ·simp
  ·cases d <;> simp
  ·exact mxOrd_snd r s' p' x hx
def mxB (md : Region.Mode) (ops : Array Oper) (r : List (List Nat × List Nat × Nat × Bool)) (s p : List Nat) : Bool :=
 let o := mxOrd r s p
 Region.noSelect ops && wfB md ops && pairsB md ops o && o.all (fun x => decide (x.1 < ops.size)) && (List.range ops.size).all (fun i => o.any fun x => x.1 == i) &&
  o.all (fun x => x.2 == 3 || x.2 == 5 || stillAt ops x.1) && decide (o.length = ops.size)
theorem wp_region_mx {id : Nat} {Q : Exit → Act → World → Prop} {a : Act} {w : World} {l : List Oper} (C : World → Prop) (r : List (List Nat × List Nat × Nat × Bool)) (s p : List Nat) (hm : P.follows .mixedOrders = true)
  (hB : mxB .any l.toArray r s p = true) (hC : C w.drew)
  (h : wpMx P l (fun w' => ∃ k : Hld C, w' = k.world) (fun a' w' => Q .normal a' w') r s p a w.drew) : (Code.region id l.toArray true).wp P Q a w := by
 simp only [mxB, Bool.and_eq_true, List.all_eq_true, decide_eq_true_eq] at hB
 obtain ⟨⟨⟨⟨⟨⟨b1, b2⟩, b3⟩, b4⟩, b5⟩, b6⟩, b9⟩ := hB
 have hfit : Fit .any l.toArray (mxOrd r s p) (Array.replicate l.toArray.size false) := by
  exact zb26
 have hk : ∀ x ∈ mxOrd r s p, x.1 < l.length ∧ (x.2 = 3 ∨ x.2 = 5 ∨ stillAt l.toArray x.1 = true) := fun x hx => by
  have h1 := b4 x hx; have h2 := b6 x hx
  refine ⟨by simpa using h1, ?_⟩
  simpa [or_assoc] using h2
 have H := wpAny_of_RW2 (P := P) (md := .any) (ops := l.toArray) (C := fun w' => ∃ k : Hld C, w' = k.world) (Q := fun a' w' => Q .normal a' w') b1 _ (mxOrd r s p) _ a w.drew rfl (mxOrd_snd r s p) hfit (.inr ⟨⟨_, hC⟩, rfl⟩) (RW2_of_mx r s p a w.drew hk h)
 exact zb101
theorem wpMx_cons {l : List Oper} {s p s' p' : List Nat} {e : Nat} {d : Bool} {r : List (List Nat × List Nat × Nat × Bool)} {a : Act} {w : World}
  (h : ∀ K : Act → World → Prop, (∀ a w, wpMx P l C Q r s' p' a w → K a w) → wpQuiet P l.toArray C (fun a' => wpQuiet P l.toArray (fun w' => ∃ k : Hld (fun _ => True), w' = k.world) (fun a'' => wpList P l.toArray (Nrm fun a'' w'' => Keeps d C w'' ∧ K a'' w'') (pickOps l [e]) a'' w) (pickOps l p) a') (pickOps l s) a) : wpMx P l C Q ((s, p, e, d) :: r) s' p' a w :=
 h _ (fun _ _ h => h)
theorem wpMx_last {l : List Oper} {s' p' : List Nat} {a : Act} {w : World} (h : wpQuiet P l.toArray C (fun a' => wpQuiet P l.toArray (fun w' => ∃ k : Hld (fun _ => True), w' = k.world) (fun a'' => Q a'' w) (pickOps l p') a') (pickOps l s') a) : wpMx P l C Q [] s' p' a w := h
theorem Nrm_keep {C : World → Prop} {K : Act → World → Prop} {a : Act} {w : World} (hC : C w) (h : K a w) : Nrm (fun a'' w'' => Keeps false (fun w' => ∃ k : Hld C, w' = k.world) w'' ∧ K a'' w'') .normal a w := ⟨rfl, fun _ => ⟨⟨w, hC⟩, rfl⟩, h⟩
theorem Nrm_drop {X : World → Prop} {K : Act → World → Prop} {a : Act} {w : World} (h : K a w) : Nrm (fun a'' w'' => Keeps true X w'' ∧ K a'' w'') .normal a w := ⟨rfl, fun h => (by cases h), h⟩
end
end Go.G9
