/- Texts of the proof: walks of the functions, and what they compute. -/
import Derived.Test.YtjimibkgocieoaaGreatRb0
set_option maxHeartbeats 16000000
set_option maxRecDepth 100000
namespace Go.G9
open Go.RowKit
section
variable {P : Program} {ops : Array Oper} {md : Region.Mode} {C : World → Prop} {Q : Act → World → Prop}

def stillKind : Op → Bool
 | .move _ | .assign _ | .pick _ _ _ | .load _ _ | .binOp _ _ _ _ _ | .unOp _ _ _ | .convert _ _ _ | .fieldAddr _ _ _ | .field _ _ _ | .indexAddr _ _ _ | .extract _ _ | .slice _ _ _ _ _ | .build _ _ | .index _ _ _ | .nilCheck _ => true
 | .call { callee := .builtin .len, args := _, argTypes := _ } => true
 | .call { callee := .builtin .cap, args := _, argTypes := _ } => true
 | _ => false

theorem andThen_value {s : Result Value} {f : FuncId} {args : Array Value} {w' : World} : (s.andThen fun x w => (.ok (.value x) w : Result Next)) ≠ .ok (.enter f args) w' := by
 cases s <;> simp [Result.andThen]

theorem bind_noenter {α : Type} {x : Sem α} {k : α → Sem Next} {w : World} {f : FuncId} {args : Array Value} {w' : World} (h : ∀ a w1, (k a).run P w1 ≠ .ok (.enter f args) w') : (x >>= k).run P w ≠ .ok (.enter f args) w' := by
 simp only [Sem.run_bind]
 cases x.run P w with
 | ok a w1 => exact h a w1
 | halt e w1 => intro h2; simp [Result.andThen] at h2
theorem nilCheck_run {o : Oper} {x : Operand} (ho : o.op = .nilCheck x) (ρ : Operand → Value) (w : World) (f : FuncId) (args : Array Value) (w' : World) : (execOp ρ o).run P w ≠ .ok (.enter f args) w' := by
 unfold execOp
 simp only [ho]
 have hp : ∀ (v : Value) (w1 : World), (pure (Next.value v) : Sem Next).run P w1 ≠ .ok (.enter f args) w' := fun v w1 h => by simp only [Sem.run_pure] at h; injection h with h _; cases h
 have hn : ∀ w1, (runtimePanic .nilDeref : Sem Next).run P w1 ≠ .ok (.enter f args) w' := fun w1 h => by unfold runtimePanic at h; simp at h
 split
 ·exact hn _
 ·exact hn _
 ·exact hn _
 ·split
  ·exact hn _
  ·refine bind_noenter fun a w1 => bind_noenter fun b w2 => ?_
   split
   ·intro h; simp at h
   ·exact hp _ _
  ·exact hp _ _
 ·exact hp _ _
theorem stillKind_run {o : Oper} (h : stillKind o.op = true) (ρ : Operand → Value) (w : World) (f : FuncId) (args : Array Value) (w' : World) : (execOp ρ o).run P w ≠ .ok (.enter f args) w' := by
 cases ho : o.op
 case nilCheck x => exact nilCheck_run ho ρ w f args w'
 case call c =>
  rw [ho] at h
  unfold execOp
  simp only [ho]
  obtain ⟨cl, as_, at_⟩ := c
  cases cl with
  | builtin b =>
   cases b <;> first | (simp [stillKind] at h; done) | skip
   all_goals simp only [resolve, invoke, builtin, Sem.run_bind, Sem.run_pure, Result.andThen_ok]
   all_goals exact andThen_value
  | value f => simp [stillKind] at h
  | invoke r n => simp [stillKind] at h
 all_goals unfold execOp
 all_goals rw [ho] at h
 all_goals first | (simp [stillKind] at h; done) | skip
 all_goals simp only [ho, Sem.run_bind, Sem.run_pure]
 all_goals first | exact andThen_value | (intro h2; cases h2; done) | skip
 all_goals (intro h2; revert h2; generalize Sem.run P _ w = s; cases s <;> simp [Result.andThen])

def Nrm (Q : Act → World → Prop) : Exit → Act → World → Prop := fun e a w => e = .normal ∧ Q a w
theorem Nrm_out : ¬ LetsOut (Nrm Q) := fun ⟨_, _, h⟩ => by have := h.1; cases this

def YieldsC (P : Program) (ops : Array Oper) (C : World → Prop) (o : Oper) (v : Value) (a : Act) : Prop :=
 (Region.wanted o (yielded ops a.tmps) = true ∧ ∀ w, C w → ((execOp a.eval o).run P w = .ok (.value v) w ∨ ((execOp a.eval o).run P w = .ok .skip w ∧ v = undef))) ∨
 (Region.wanted o (yielded ops a.tmps) = false ∧ v = undef)

theorem YieldsC.of_same {o : Oper} {v : Value} {a a' : Act} (hy : YieldsC P ops C o v a) (he : execOp a'.eval o = execOp a.eval o)
  (hw : Region.wanted o (yielded ops a'.tmps) = Region.wanted o (yielded ops a.tmps)) : YieldsC P ops C o v a' := by
 unfold YieldsC at *
 rw [he, hw]
 exact hy

theorem YieldsIn.toC {o : Oper} {v : Value} {a : Act} (hk : stillKind o.op = true) (hy : YieldsIn P ops C o v a) : YieldsC P ops C o v a := by
 rcases hy with ⟨h1, h2⟩ | h
 ·refine .inl ⟨h1, fun w hw => ?_⟩
  have h3 := h2 w hw
  unfold Oper.quietAt at h3
  have h4 := stillKind_run (P := P) hk a.eval w
  generalize (execOp a.eval o).run P w = r at h3 h4
  cases r with
  | ok n w' =>
   cases n <;> simp only [Oper.quietUpon] at h3
   case value u => obtain ⟨rfl, rfl⟩ := h3; exact .inl rfl
   case skip => obtain ⟨rfl, rfl⟩ := h3; exact .inr ⟨rfl, rfl⟩
   case enter f args => exact absurd rfl (h4 f args w')
  | halt x w' => simp only [Oper.quietUpon] at h3
 ·exact .inr h

theorem YieldsC.wpOp {i : Nat} {o : Oper} {v : Value} {a : Act} {w : World} {Q' : Exit → Act → World → Prop} (hi : ops[i]? = some o) (hy : YieldsC P ops C o v a) (hC : C w) {K : Act → World → Prop} (h : K (a.put o.dst v) w) : wpOp P ops Q' i K a w := by
 unfold Go.wpOp
 simp only [hi]
 rcases hy with ⟨hw, hv⟩ | ⟨hw, rfl⟩
 ·simp only [hw, if_true]
  refine .inl ?_
  unfold Oper.wp
  rcases hv w hC with hr | ⟨hr, rfl⟩ <;> rw [hr] <;> simp only [Oper.upon] <;> exact h
 ·simp only [hw, Bool.false_eq_true, if_false]; exact h

theorem put_defers (a : Act) (x : Option Tmp) (v : Value) (d : Deferred) : ({ a.put x v with defers := d :: (a.put x v).defers } : Act) = ({ a with defers := d :: a.defers } : Act).put x v := by
 cases x <;> rfl

theorem wpOp_put {j : Nat} {oi oj : Oper} {v : Value} (hj : ops[j]? = some oj) (hap : oi.apart ops oj = true)
  (hsi : ∀ cs b, oi.op ≠ .select cs b) (hsj : ∀ cs b, oj.op ≠ .select cs b) {K : Act → World → Prop} {a : Act} {w : World}
  (hy : YieldsC P ops C oi v a) (h : wpOp P ops (Nrm Q) j K (a.put oi.dst v) w) :
  wpOp P ops (Nrm Q) j (fun a' w' => YieldsC P ops C oi v a' ∧ K (a'.put oi.dst v) w') a w := by
 obtain ⟨h1, h2, h3⟩ := Oper.apart_spec hap
 have keep : ∀ (a : Act), YieldsC P ops C oi v a → ∀ u, YieldsC P ops C oi v (a.put oj.dst u) := fun a hy u =>
  hy.of_same (execOp_put oi hsi a oj.dst u h3) (wanted_put oi a oj.dst u h3)
 unfold wpOp at *
 simp only [hj] at *
 rw [wanted_put oj a oi.dst v h1] at h
 split
 ·rename_i hw
  simp only [hw, if_true] at h
  rcases h with h | h
  ·refine .inl ?_
   unfold Oper.wp at *
   rw [execOp_put oj hsj a oi.dst v h1] at h
   generalize (execOp a.eval oj).run P w = r at *
   cases r with
   | ok n w' =>
    cases n <;> simp only [Oper.upon] at h ⊢
    case value u => exact ⟨keep a hy u, by rw [← Act.put_comm a v u h2]; exact h⟩
    case skip => exact ⟨keep a hy _, by rw [← Act.put_comm a v undef h2]; exact h⟩
    case defer d =>
     refine ⟨keep { a with defers := d :: a.defers } hy undef, ?_⟩
     rw [put_defers, Act.put_comm _ v undef h2] at h
     exact h
    case enter f args =>
     refine h.mono fun e w'' he => ?_
     cases e with
     | returned u => exact ⟨keep a hy u, by rw [← Act.put_comm a v u h2]; exact he⟩
     | panicked c => exact absurd he.1 (by intro h; cases h)
     | outgrown => exact absurd he Nrm_out
    case row row args => exact h.mono fun u w'' he => ⟨keep a hy u, by rw [← Act.put_comm a v u h2]; exact he⟩
   | halt x w' => cases x <;> simp only [Oper.upon] at h ⊢ <;> exact absurd h.1 (by intro h; cases h)
  ·exact absurd h.2 Nrm_out
 ·rename_i hw
  simp only [hw] at h
  exact ⟨keep a hy _, by rw [← Act.put_comm a v undef h2]; exact h⟩

def wpAnyC (P : Program) (md : Region.Mode) (ops : Array Oper) (C : World → Prop) (Q : Act → World → Prop) : Nat → Array Bool → Act → World → Prop
 | 0, listed, a, w => C w ∧ Region.ready md ops listed = [] ∧ Q a w
 | f + 1, listed, a, w => C w ∧ Region.ready md ops listed ≠ [] ∧ ∀ i ∈ Region.ready md ops listed, wpOp P ops (Nrm Q) i (wpAnyC P md ops C Q f (listed.setIfInBounds i true)) a w

theorem wpAnyC.inC : ∀ {f : Nat} {listed : Array Bool} {a : Act} {w : World}, wpAnyC P md ops C Q f listed a w → C w
 | 0, _, _, _, h => h.1
 | _ + 1, _, _, _, h => h.1

theorem wpAny_of_C : ∀ (f : Nat) (listed : Array Bool) (a : Act) (w : World), wpAnyC P md ops C Q f listed a w → wpAny P md ops (Nrm Q) f listed a w
 | 0, _, _, _, h => ⟨h.2.1, rfl, h.2.2⟩
 | f + 1, _, _, _, h => ⟨fun h0 => absurd h0 h.2.1, fun i hi => wpOp_mono (fun a' w' h' => wpAny_of_C f _ a' w' h') (h.2.2 i hi)⟩

theorem wpAnyC_first {i : Nat} {oi : Oper} {v : Value} (hi : ops[i]? = some oi) (hsel : ∀ (j : Nat) (o : Oper) cs b, ops[j]? = some o → o.op ≠ .select cs b) :
  ∀ (f : Nat) (listed : Array Bool) (a : Act) (w : World),
   (∀ j oj, ops[j]? = some oj → j ≠ i → listed.getD j true = false → (∀ e ∈ oj.after, Region.binds md e = true → e.on ≠ i) → oi.apart ops oj = true) →
   i ∈ Region.ready md ops listed → YieldsC P ops C oi v a → C w →
   wpAnyC P md ops C Q f (listed.setIfInBounds i true) (a.put oi.dst v) w → wpAnyC P md ops C Q (f + 1) listed a w := by
 intro f
 induction f with
 | zero =>
  intro listed a w _ hr hy hC H
  refine ⟨hC, fun h => (by rw [h] at hr; cases hr), fun j hj => ?_⟩
  by_cases hji : j = i
  ·subst hji; exact hy.wpOp hi hC H
  ·have := ready_mono hj hji
   rw [H.2.1] at this; cases this
 | succ f ih =>
  intro listed a w hfree hr hy hC H
  have hun := (mem_ready.1 hr).1
  refine ⟨hC, fun h => (by rw [h] at hr; cases hr), fun j hj => ?_⟩
  by_cases hji : j = i
  ·subst hji; exact hy.wpOp hi hC H
  ·have h1 := H.2.2 j (ready_mono hj hji)
   obtain ⟨hjun, oj, hoj, hall⟩ := mem_ready.1 hj
   have hnot : ∀ e ∈ oj.after, Region.binds md e = true → e.on ≠ i := fun e he hb heq => by
    have h1 := hall e he hb
    rw [heq, getD_both hun] at h1
    cases h1
   have h2 := wpOp_put hoj (hfree j oj hoj hji hjun hnot) (fun cs b => hsel i oi cs b hi) (fun cs b => hsel j oj cs b hoj) hy h1; have hfree' : ∀ k ok, ops[k]? = some ok → k ≠ i → (listed.setIfInBounds j true).getD k true = false →
     (∀ e ∈ ok.after, Region.binds md e = true → e.on ≠ i) → oi.apart ops ok = true := fun k ok hk hki hun hno => by
    refine hfree k ok hk hki ?_ hno
    by_cases hjk : j = k
    ·subst hjk; exact hjun
    ·rw [getD_set_ne true hjk] at hun; exact hun
   refine wpOp_mono (fun a' w' h3 => ih (listed.setIfInBounds j true) a' w' hfree' (ready_mono hr (Ne.symm hji)) h3.1 h3.2.inC ?_) h2
   rw [Array.setIfInBounds_comm _ _ hji]
   exact h3.2

theorem wpAnyC_effect {i f : Nat} {listed : Array Bool} {a : Act} {w : World} (hr : Region.ready md ops listed = [i]) (hC : C w)
    (h : wpOp P ops (Nrm Q) i (wpAnyC P md ops C Q f (listed.setIfInBounds i true)) a w) : wpAnyC P md ops C Q (f + 1) listed a w :=
  ⟨hC, by rw [hr]; simp, fun j hj => by rw [hr] at hj; have : j = i := by simpa using hj
                                        subst this; exact h⟩

def stillAt (ops : Array Oper) (i : Nat) : Bool := match ops[i]? with | some o => stillKind o.op | none => false
def mixB (md : Region.Mode) (ops : Array Oper) : List (Nat × Bool) → Array Bool → Bool
 | [], listed => (Region.ready md ops listed).isEmpty
 | (i, false) :: r, listed => (Region.ready md ops listed).contains i && Region.free md ops listed i && stillAt ops i && mixB md ops r (listed.setIfInBounds i true)
 | (i, true) :: r, listed => decide (Region.ready md ops listed = [i]) && mixB md ops r (listed.setIfInBounds i true)

def wpMixO (P : Program) (ops : Array Oper) (C : World → Prop) (Q : Act → World → Prop) : List (Nat × Bool) → Act → World → Prop
 | [], a, w => Q a w
 | (i, false) :: r, a, w => qOp P ops C i (fun a' => wpMixO P ops C Q r a' w) a
 | (i, true) :: r, a, w => wpOp P ops (Nrm Q) i (fun a' w' => C w' ∧ wpMixO P ops C Q r a' w') a w

theorem wpAnyC_mix (hsel : Region.noSelect ops = true) : ∀ (r : List (Nat × Bool)) (listed : Array Bool) (a : Act) (w : World), mixB md ops r listed = true → C w → wpMixO P ops C Q r a w → wpAnyC P md ops C Q r.length listed a w
 | [], listed, a, w, hB, hC, h => ⟨hC, by simpa [mixB] using hB, h⟩
 | (i, false) :: r, listed, a, w, hB, hC, h => by
  simp only [mixB, Bool.and_eq_true] at hB
  obtain ⟨⟨⟨h1, h2⟩, h3⟩, h4⟩ := hB
  have hr : i ∈ Region.ready md ops listed := by simpa using h1
  obtain ⟨_, oi, hoi, _⟩ := mem_ready.1 hr
  have hk : stillKind oi.op = true := by simpa [stillAt, hoi] using h3
  obtain ⟨v, hy, hK⟩ := yieldsIn_of_qOp hoi h
  exact wpAnyC_first hoi (Region.noSelect_spec hsel) r.length listed a w (Region.free_spec hoi h2) hr (YieldsIn.toC hk hy) hC (wpAnyC_mix hsel r _ _ _ h4 hC hK)
 | (i, true) :: r, listed, a, w, hB, hC, h => by
  simp only [mixB, Bool.and_eq_true, decide_eq_true_eq] at hB
  exact wpAnyC_effect hB.1 hC (wpOp_mono (fun a' w' h' => wpAnyC_mix hsel r _ _ _ hB.2 h'.1 h'.2) h)

def pickOps (l : List Oper) (s : List Nat) : List Oper := s.filterMap fun i => l[i]?
def wpMix (P : Program) (l : List Oper) (C : World → Prop) (Q : Act → World → Prop) : List (List Nat × Nat) → List Nat → Act → World → Prop
 | [], s, a, w => wpQuiet P l.toArray C (fun a' => Q a' w) (pickOps l s) a
 | (s, e) :: r, s', a, w => wpQuiet P l.toArray C (fun a' => wpList P l.toArray (Nrm fun a'' w'' => C w'' ∧ wpMix P l C Q r s' a'' w'') (pickOps l [e]) a' w) (pickOps l s) a
def mixOrder : List (List Nat × Nat) → List Nat → List (Nat × Bool)
 | [], s => s.map (·, false)
 | (s, e) :: r, s' => s.map (·, false) ++ (e, true) :: mixOrder r s'

theorem Oper.wp_nrm {o : Oper} {a : Act} {w : World} {K K' : Act → World → Prop} {Q1 Q2 : Act → World → Prop} (h : ∀ a w, K a w → K' a w) (hh : o.wp P a w K (Nrm Q1)) : o.wp P a w K' (Nrm Q2) := by
 unfold Oper.wp at *
 generalize (execOp a.eval o).run P w = r at *
 cases r with
 | ok n w' =>
  cases n <;> simp only [Oper.upon] at hh ⊢
  case enter f args =>
   refine hh.mono fun e w'' he => ?_
   cases e with
   | returned u => exact h _ _ he
   | panicked c => exact absurd he.1 (by intro h; cases h)
   | outgrown => exact absurd he Nrm_out
  case row row args => exact hh.mono fun _ _ he => h _ _ he
  all_goals exact h _ _ hh
 | halt x w' => cases x <;> simp only [Oper.upon] at hh ⊢ <;> exact absurd hh.1 (by intro h; cases h)

theorem mixO_still {l : List Oper} {r : List (Nat × Bool)} {w : World} : ∀ (s : List Nat) (a : Act), (∀ i ∈ s, i < l.length) → ∀ K : Act → Prop, (∀ a, K a → wpMixO P l.toArray C Q r a w) →
  wpQuiet P l.toArray C K (pickOps l s) a → wpMixO P l.toArray C Q (s.map (·, false) ++ r) a w
 | [], a, _, K, hK, h => hK _ h
 | i :: s, a, hs, K, hK, h => by
  have hi : i < l.length := hs i (by simp)
  have hp : pickOps l (i :: s) = l[i] :: pickOps l s := by simp [pickOps, hi]
  rw [hp] at h
  have h' : qOp P l.toArray C i (wpQuiet P l.toArray C K (pickOps l s)) a := by
   unfold qOp
   have : l.toArray[i]? = some l[i] := by simp [hi]
   simp only [this]
   exact h
  exact qOp_mono (fun a' h2 => mixO_still s a' (fun j hj => hs j (by simp [hj])) K hK h2) h'

theorem zb99 {p : Prop} (h : p := by
 split
 ·rename_i hw
  simp only [hw, if_true] at h'
  exact h'.elim (fun h2 => .inl (Oper.wp_nrm hrest h2)) (fun h2 => absurd h2.2 Nrm_out)
 ·rename_i hw
  simp only [hw] at h'
  exact hrest _ _ h') : p := h
theorem mixO_of : ∀ {l : List Oper} (r : List (List Nat × Nat)) (s' : List Nat) (a : Act) (w : World), (∀ i ∈ (mixOrder r s'), i.1 < l.length) → wpMix P l C Q r s' a w → wpMixO P l.toArray C Q (mixOrder r s') a w
 | l, [], s', a, w, hl, h => by
  have := mixO_still (Q := Q) (r := []) s' a (fun i hi => hl (i, false) (by simp [mixOrder, hi])) _ (fun a' (h' : Q a' w) => h') h
  simpa [mixOrder] using this
 | l, (s, e) :: r, s', a, w, hl, h => by
  refine mixO_still s a (fun i hi => hl (i, false) (by simp [mixOrder, hi])) _ (fun a' h' => ?_) h
  have he : e < l.length := hl (e, true) (by simp [mixOrder])
  have hp : pickOps l [e] = [l[e]] := by simp [pickOps, he]
  rw [hp] at h'
  show wpOp P l.toArray (Nrm Q) e _ a' w
  unfold wpOp
  have : l.toArray[e]? = some l[e] := by simp [he]
  simp only [this]
  unfold wpList at h'
  have hrest : ∀ a'' w'', wpList P l.toArray (Nrm fun a'' w'' => C w'' ∧ wpMix P l C Q r s' a'' w'') [] a'' w'' → C w'' ∧ wpMixO P l.toArray C Q (mixOrder r s') a'' w'' := fun a'' w'' h2 =>
   ⟨h2.2.1, mixO_of r s' a'' w'' (fun i hi => hl i (by simp [mixOrder, hi])) h2.2.2⟩
  exact zb99

theorem zb98 {p : Prop} (h : p := by
 have HH : (Code.region id l.toArray true).wp P (Nrm fun a' w' => Q .normal a' w') a w := wp_region_any hm (by simpa using H)
 exact Code.wp_mono (fun e a w h => by obtain ⟨rfl, h⟩ := h; exact h) HH) : p := h
theorem wp_region_mix {id : Nat} {Q : Exit → Act → World → Prop} {a : Act} {w : World} {l : List Oper} (C : World → Prop) (r : List (List Nat × Nat)) (s' : List Nat) (hm : P.follows .mixedOrders = true)
  (hB : (Region.noSelect l.toArray && mixB .any l.toArray (mixOrder r s') (Array.replicate l.length false) && decide ((mixOrder r s').length = l.length) && (mixOrder r s').all (fun i => decide (i.1 < l.length))) = true)
  (hC : C w.drew) (h : wpMix P l C (fun a' w' => Q .normal a' w') r s' a w.drew) : (Code.region id l.toArray true).wp P Q a w := by
 simp only [Bool.and_eq_true, decide_eq_true_eq, List.all_eq_true] at hB
 obtain ⟨⟨⟨h1, h2⟩, h3⟩, h4⟩ := hB
 have H := wpAny_of_C _ _ _ _ (wpAnyC_mix (md := .any) h1 _ _ _ _ h2 hC (mixO_of r s' a _ (fun i hi => h4 i hi) h))
 rw [h3] at H
 exact zb98
structure Hld (C : World → Prop) where
 world : World
 holds : C world
theorem wp_region_mixh {id : Nat} {Q : Exit → Act → World → Prop} {a : Act} {w : World} {l : List Oper} (C : World → Prop) (r : List (List Nat × Nat)) (s' : List Nat) (hm : P.follows .mixedOrders = true)
  (hB : (Region.noSelect l.toArray && mixB .any l.toArray (mixOrder r s') (Array.replicate l.length false) && decide ((mixOrder r s').length = l.length) && (mixOrder r s').all (fun i => decide (i.1 < l.length))) = true)
  (hC : C w.drew) (h : wpMix P l (fun w' => ∃ k : Hld C, w' = k.world) (fun a' w' => Q .normal a' w') r s' a w.drew) : (Code.region id l.toArray true).wp P Q a w :=
 wp_region_mix (fun w' => ∃ k : Hld C, w' = k.world) r s' hm hB ⟨⟨_, hC⟩, rfl⟩ h
theorem wpMix_cons {l : List Oper} {s s' : List Nat} {e : Nat} {r : List (List Nat × Nat)} {a : Act} {w : World}
  (h : ∀ K : Act → World → Prop, (∀ a w, wpMix P l C Q r s' a w → K a w) → wpQuiet P l.toArray C (fun a' => wpList P l.toArray (Nrm fun a'' w'' => C w'' ∧ K a'' w'') (pickOps l [e]) a' w) (pickOps l s) a) : wpMix P l C Q ((s, e) :: r) s' a w :=
 h _ (fun _ _ h => h)
theorem wpMix_last {l : List Oper} {s' : List Nat} {a : Act} {w : World} (h : wpQuiet P l.toArray C (fun a' => Q a' w) (pickOps l s') a) : wpMix P l C Q [] s' a w := h
theorem Nrm_intro {C : World → Prop} {K : Act → World → Prop} {a : Act} {w : World} (hC : C w) (h : K a w) : Nrm (fun a'' w'' => (∃ k : Hld C, w'' = k.world) ∧ K a'' w'') .normal a w := ⟨rfl, ⟨⟨w, hC⟩, rfl⟩, h⟩
end
open Go.RowKit
section
variable {P : Program} {md : Region.Mode} {C : World → Prop} {Q : Act → World → Prop}
def stillsB (md : Region.Mode) (ops : Array Oper) : List Nat → Array Bool → Bool
 | [], _ => true
 | i :: s, listed => (Region.ready md ops listed).contains i && Region.free md ops listed i && stillAt ops i && stillsB md ops s (listed.setIfInBounds i true)
def setAll : List Nat → Array Bool → Array Bool
 | [], L => L
 | i :: s, L => setAll s (L.setIfInBounds i true)
theorem anyC_stills {l : List Oper} (hsel : Region.noSelect l.toArray = true) {w : World} {f : Nat} (hC : C w) (K : Act → Prop) : ∀ (s : List Nat) (listed : Array Bool) (a : Act), stillsB md l.toArray s listed = true → (∀ i ∈ s, i < l.length) →
  (∀ a', K a' → wpAnyC P md l.toArray C Q f (setAll s listed) a' w) → wpQuiet P l.toArray C K (pickOps l s) a → wpAnyC P md l.toArray C Q (s.length + f) listed a w
 | [], listed, a, _, _, hk, h => by
  have h' : wpAnyC P md l.toArray C Q f listed a w := hk a h
  rwa [List.length_nil, Nat.zero_add]
 | i :: s, listed, a, hB, hl, hkk, h => by
  simp only [stillsB, Bool.and_eq_true] at hB
  obtain ⟨⟨⟨h1, h2⟩, h3⟩, h4⟩ := hB
  have hi : i < l.length := hl i (by simp)
  have hr : i ∈ Region.ready md l.toArray listed := by simpa using h1
  obtain ⟨_, oi, hoi, _⟩ := mem_ready.1 hr
  have hk : stillKind oi.op = true := by simpa [stillAt, hoi] using h3
  have hp : pickOps l (i :: s) = l[i] :: pickOps l s := by simp [pickOps, hi]
  rw [hp] at h
  have h' : qOp P l.toArray C i (wpQuiet P l.toArray C K (pickOps l s)) a := by
   unfold qOp
   have : l.toArray[i]? = some l[i] := by simp [hi]
   simp only [this]
   exact h
  obtain ⟨v, hy, hK⟩ := yieldsIn_of_qOp hoi h'
  have hK' := anyC_stills hsel hC K s (listed.setIfInBounds i true) _ h4 (fun j hj => hl j (by simp [hj])) hkk hK
  rw [List.length_cons, show s.length + 1 + f = (s.length + f) + 1 from by omega]
  exact wpAnyC_first hoi (Region.noSelect_spec hsel) (s.length + f) listed a w (Region.free_spec hoi h2) hr (YieldsIn.toC hk hy) hC hK'
theorem anyC_op {l : List Oper} {e : Nat} {a : Act} {w : World} {K : Act → World → Prop} (he : e < l.length) (h : wpList P l.toArray (Nrm K) (pickOps l [e]) a w) : wpOp P l.toArray (Nrm Q) e K a w := by
 have hp : pickOps l [e] = [l[e]] := by simp [pickOps, he]
 rw [hp] at h
 unfold wpOp
 have : l.toArray[e]? = some l[e] := by simp [he]
 simp only [this]
 unfold wpList at h
 have hrest : ∀ a'' w'', wpList P l.toArray (Nrm K) [] a'' w'' → K a'' w'' := fun a'' w'' h2 => h2.2
 split
 ·rename_i hw
  simp only [hw, if_true] at h
  exact h.elim (fun h2 => .inl (Oper.wp_nrm hrest h2)) (fun h2 => absurd h2.2 Nrm_out)
 ·rename_i hw
  simp only [hw] at h
  exact hrest _ _ h
def remB (L : Array Bool) : Nat := (L.toList.filter (fun b => !b)).length
theorem wp_region_anyC {id : Nat} {Q : Exit → Act → World → Prop} {a : Act} {w : World} {l : List Oper} (C : World → Prop) (hm : P.follows .mixedOrders = true) (h : wpAnyC P .any l.toArray C (fun a' w' => Q .normal a' w') l.length (Array.replicate l.length false) a w.drew) : (Code.region id l.toArray true).wp P Q a w := by
 have H := wpAny_of_C _ _ _ _ h
 exact zb98
end
open Go.RowKit
section
variable {P : Program} {C0 : World → Prop} {Q : Act → World → Prop} {l : List Oper}
def Rest (P : Program) (l : List Oper) (C0 : World → Prop) (Q : Act → World → Prop) (L : Array Bool) (a : Act) (w : World) : Prop := wpAnyC P .any l.toArray (fun w' => ∃ k : Hld C0, w' = k.world) Q (remB L) L a w
def RestStep (P : Program) (l : List Oper) (C0 : World → Prop) (i : Nat) (s : List Nat) (a : Act) (w : World) (K : Act → World → Prop) : Prop := wpList P l.toArray (Nrm fun a'' w'' => C0 w'' ∧ wpQuiet P l.toArray (fun w' => ∃ k : Hld C0, w' = k.world) (fun a3 => K a3 w'') (pickOps l s) a'') (pickOps l [i]) a w
def edgeOkB (l : List Oper) (L : Array Bool) (i : Nat) (s : List Nat) (L' : Array Bool) : Bool := decide (i < l.length) && s.all (fun i => decide (i < l.length)) && stillsB .any l.toArray s (L.setIfInBounds i true) && decide (setAll s (L.setIfInBounds i true) = L') && decide (remB L = s.length + remB L' + 1)
theorem rest_edge (hsel : Region.noSelect l.toArray = true) {L L' : Array Bool} {i : Nat} {s : List Nat} {a : Act} {w : World} {f : Nat} (hf : remB L = f + 1) (hB : edgeOkB l L i s L' = true) (h : RestStep P l C0 i s a w (Rest P l C0 Q L')) :
  wpOp P l.toArray (Nrm Q) i (wpAnyC P .any l.toArray (fun w' => ∃ k : Hld C0, w' = k.world) Q f (L.setIfInBounds i true)) a w := by
 simp only [edgeOkB, Bool.and_eq_true, decide_eq_true_eq, List.all_eq_true] at hB
 obtain ⟨⟨⟨⟨b1, b2⟩, b3⟩, b4⟩, b5⟩ := hB
 refine wpOp_mono (fun a'' w'' h'' => ?_) (anyC_op b1 h)
 obtain ⟨hC0, hq⟩ := h''
 have hg : f = s.length + remB L' := by omega
 rw [hg]
 exact anyC_stills hsel ⟨⟨w'', hC0⟩, rfl⟩ _ s _ a'' b3 b2 (fun a' ha' => by rw [b4]; exact ha') hq
theorem rest_two (i1 : Nat) (s1 : List Nat) (L1 : Array Bool) (i2 : Nat) (s2 : List Nat) (L2 : Array Bool) {L : Array Bool} {a : Act} {w : World} (hB : (Region.noSelect l.toArray && decide (Region.ready .any l.toArray L = [i1, i2]) && edgeOkB l L i1 s1 L1 && edgeOkB l L i2 s2 L2) = true) (hC : C0 w)
  (h1 : ∀ K : Act → World → Prop, (∀ a w, Rest P l C0 Q L1 a w → K a w) → RestStep P l C0 i1 s1 a w K) (h2 : ∀ K : Act → World → Prop, (∀ a w, Rest P l C0 Q L2 a w → K a w) → RestStep P l C0 i2 s2 a w K) : Rest P l C0 Q L a w := by
 simp only [Bool.and_eq_true, decide_eq_true_eq] at hB
 obtain ⟨⟨⟨hsel, hr⟩, e1⟩, e2⟩ := hB
 have e1' := e1
 simp only [edgeOkB, Bool.and_eq_true, decide_eq_true_eq] at e1'
 obtain ⟨f, hf⟩ : ∃ f, remB L = f + 1 := ⟨_, e1'.2⟩
 unfold Rest
 rw [hf]
 refine ⟨⟨⟨w, hC⟩, rfl⟩, by rw [hr]; simp, fun i hi => ?_⟩
 rw [hr] at hi
 simp only [List.mem_cons, List.not_mem_nil, or_false] at hi
 rcases hi with rfl | rfl
 ·exact rest_edge hsel hf e1 (h1 _ fun _ _ h => h)
 ·exact rest_edge hsel hf e2 (h2 _ fun _ _ h => h)
theorem rest_one (i1 : Nat) (s1 : List Nat) (L1 : Array Bool) {L : Array Bool} {a : Act} {w : World} (hB : (Region.noSelect l.toArray && decide (Region.ready .any l.toArray L = [i1]) && edgeOkB l L i1 s1 L1) = true) (hC : C0 w)
  (h1 : ∀ K : Act → World → Prop, (∀ a w, Rest P l C0 Q L1 a w → K a w) → RestStep P l C0 i1 s1 a w K) : Rest P l C0 Q L a w := by
 simp only [Bool.and_eq_true, decide_eq_true_eq] at hB
 obtain ⟨⟨hsel, hr⟩, e1⟩ := hB
 have e1' := e1
 simp only [edgeOkB, Bool.and_eq_true, decide_eq_true_eq] at e1'
 obtain ⟨f, hf⟩ : ∃ f, remB L = f + 1 := ⟨_, e1'.2⟩
 unfold Rest
 rw [hf]
 refine ⟨⟨⟨w, hC⟩, rfl⟩, by rw [hr]; simp, fun i hi => ?_⟩
 rw [hr] at hi
 simp only [List.mem_cons, List.not_mem_nil, or_false] at hi
 subst hi
 exact rest_edge hsel hf e1 (h1 _ fun _ _ h => h)
theorem rest_end {L : Array Bool} {a : Act} {w : World} (hB : (decide (Region.ready .any l.toArray L = []) && decide (remB L = 0)) = true) (hC : C0 w) (h : Q a w) : Rest P l C0 Q L a w := by
 simp only [Bool.and_eq_true, decide_eq_true_eq] at hB
 unfold Rest
 rw [hB.2]
 exact ⟨⟨⟨w, hC⟩, rfl⟩, hB.1, h⟩
theorem wp_region_rest {id : Nat} {Q : Exit → Act → World → Prop} {a : Act} {w : World} (C0 : World → Prop) (s0 : List Nat) (L0 : Array Bool) (hm : P.follows .mixedOrders = true)
  (hB : (Region.noSelect l.toArray && stillsB .any l.toArray s0 (Array.replicate l.length false) && decide (setAll s0 (Array.replicate l.length false) = L0) && decide (l.length = s0.length + remB L0) && s0.all (fun i => decide (i < l.length))) = true)
  (hC : C0 w.drew) (h : ∀ K : Act → World → Prop, (∀ a w, Rest P l C0 (fun a' w' => Q .normal a' w') L0 a w → K a w) → wpQuiet P l.toArray (fun w' => ∃ k : Hld C0, w' = k.world) (fun a' => K a' w.drew) (pickOps l s0) a) : (Code.region id l.toArray true).wp P Q a w := by
 simp only [Bool.and_eq_true, decide_eq_true_eq, List.all_eq_true] at hB
 obtain ⟨⟨⟨⟨b1, b2⟩, b3⟩, b4⟩, b5⟩ := hB
 refine wp_region_anyC (fun w' => ∃ k : Hld C0, w' = k.world) hm ?_
 have hs := anyC_stills (P := P) (md := .any) (Q := fun a' w' => Q .normal a' w') (f := remB L0) b1 (w := w.drew) ⟨⟨_, hC⟩, rfl⟩ _ s0 (Array.replicate l.length false) a b2 b5 (fun a' ha' => by rw [b3]; exact ha') (h _ fun _ _ h => h)
 rwa [← b4] at hs
end
end Go.G9
