/- A drawn region in every order: stills float, the others branch. -/
import Derived.Test.YthgaddnbgnennaaDoorMix
namespace Go.G9
open Go.RowKit
section
variable {P : Program} {md : Region.Mode} {C : World → Prop} {Q : Act → World → Prop}
/-- A drawn region, whatever its order: stills first, then any of the others. -/
def stillsB (md : Region.Mode) (ops : Array Oper) : List Nat → Array Bool → Bool
  | [], _ => true
  | i :: s, listed => (Region.ready md ops listed).contains i && Region.free md ops listed i && stillAt ops i && stillsB md ops s (listed.setIfInBounds i true)
def setAll : List Nat → Array Bool → Array Bool
  | [], L => L
  | i :: s, L => setAll s (L.setIfInBounds i true)
theorem anyC_stills {l : List Oper} (hsel : Region.noSelect l.toArray = true) {w : World} {f : Nat} (hC : C w) (K : Act → Prop) : ∀ (s : List Nat) (listed : Array Bool) (a : Act), stillsB md l.toArray s listed = true → (∀ i ∈ s, i < l.length) →
    (∀ a', K a' → wpAnyC P md l.toArray C Q f (setAll s listed) a' w) → wpQuiet P l.toArray C K (pickOps l s) a → wpAnyC P md l.toArray C Q (s.length + f) listed a w
  | [], listed, a, _, _, hk, h => by
    have h' : wpAnyC P md l.toArray C Q f listed a w := hk a h
    rwa [List.length_nil, Nat.zero_add]
  | i :: s, listed, a, hB, hl, hkk, h => by
    simp only [stillsB, Bool.and_eq_true] at hB
    obtain ⟨⟨⟨h1, h2⟩, h3⟩, h4⟩ := hB
    have hi : i < l.length := hl i (by simp)
    have hr : i ∈ Region.ready md l.toArray listed := by simpa using h1
    obtain ⟨_, oi, hoi, _⟩ := mem_ready.1 hr
    have hk : stillKind oi.op = true := by simpa [stillAt, hoi] using h3
    have hp : pickOps l (i :: s) = l[i] :: pickOps l s := by simp [pickOps, hi]
    rw [hp] at h
    have h' : qOp P l.toArray C i (wpQuiet P l.toArray C K (pickOps l s)) a := by
      unfold qOp
      have : l.toArray[i]? = some l[i] := by simp [hi]
      simp only [this]
      exact h
    obtain ⟨v, hy, hK⟩ := yieldsIn_of_qOp hoi h'
    have hK' := anyC_stills hsel hC K s (listed.setIfInBounds i true) _ h4 (fun j hj => hl j (by simp [hj])) hkk hK
    rw [List.length_cons, show s.length + 1 + f = (s.length + f) + 1 from by omega]
    exact wpAnyC_first hoi (Region.noSelect_spec hsel) (s.length + f) listed a w (Region.free_spec hoi h2) hr (YieldsIn.toC hk hy) hC hK'
theorem anyC_op {l : List Oper} {e : Nat} {a : Act} {w : World} {K : Act → World → Prop} (he : e < l.length) (h : wpList P l.toArray (Nrm K) (pickOps l [e]) a w) : wpOp P l.toArray (Nrm Q) e K a w := by
  have hp : pickOps l [e] = [l[e]] := by simp [pickOps, he]
  rw [hp] at h
  unfold wpOp
  have : l.toArray[e]? = some l[e] := by simp [he]
  simp only [this]
  unfold wpList at h
  have hrest : ∀ a'' w'', wpList P l.toArray (Nrm K) [] a'' w'' → K a'' w'' := fun a'' w'' h2 => h2.2
  split
  · rename_i hw
    simp only [hw, if_true] at h
    exact h.elim (fun h2 => .inl (Oper.wp_nrm hrest h2)) (fun h2 => absurd h2.2 Nrm_out)
  · rename_i hw
    simp only [hw] at h
    exact hrest _ _ h
def remB (L : Array Bool) : Nat := (L.toList.filter (fun b => !b)).length
/-- States of a region's run, each with what may come up then: the operation, the stills behind it, the next state. -/
def dagB (md : Region.Mode) (ops : Array Oper) (n : Nat) (lst : Nat → Array Bool) (nxt : Nat → List (Nat × List Nat × Nat)) : Bool :=
  (List.range n).all fun s => decide (Region.ready md ops (lst s) = (nxt s).map (·.1)) && (!(nxt s).isEmpty || decide (remB (lst s) = 0)) &&
    (nxt s).all fun e => decide (e.1 < ops.size) && e.2.1.all (fun i => decide (i < ops.size)) && stillsB md ops e.2.1 ((lst s).setIfInBounds e.1 true) && decide (setAll e.2.1 ((lst s).setIfInBounds e.1 true) = lst e.2.2) &&
      decide (remB (lst s) = e.2.1.length + remB (lst e.2.2) + 1) && decide (e.2.2 < n)
theorem anyC_dag {l : List Oper} (hsel : Region.noSelect l.toArray = true) (n : Nat) (lst : Nat → Array Bool) (nxt : Nat → List (Nat × List Nat × Nat)) (J : Nat → Act → World → Prop) (hB : dagB md l.toArray n lst nxt = true) (C0 : World → Prop) (hCC : ∀ w, C0 w → C w)
    (hC : ∀ s a w, J s a w → C w)
    (hstep : ∀ s, s < n → ∀ e ∈ nxt s, ∀ a w, J s a w → wpList P l.toArray (Nrm fun a'' w'' => C0 w'' ∧ wpQuiet P l.toArray C (fun a3 => J e.2.2 a3 w'') (pickOps l e.2.1) a'') (pickOps l [e.1]) a w)
    (hend : ∀ s, s < n → nxt s = [] → ∀ a w, J s a w → Q a w) : ∀ (f s : Nat) (a : Act) (w : World), s < n → remB (lst s) = f → J s a w → wpAnyC P md l.toArray C Q f (lst s) a w := by
  intro f
  induction f using Nat.strongRecOn with
  | _ f ih =>
    intro s a w hs hf hJ
    have hb := List.all_eq_true.1 hB s (List.mem_range.2 hs)
    simp only [Bool.and_eq_true, decide_eq_true_eq, List.all_eq_true, Bool.or_eq_true, Bool.not_eq_true'] at hb
    obtain ⟨⟨h1, h2⟩, h3⟩ := hb
    cases hn : nxt s with
    | nil =>
      rw [hn] at h1 h2
      have h0 : remB (lst s) = 0 := by
        rcases h2 with h2 | h2
        · simp at h2
        · exact h2
      rw [h0] at hf
      subst hf
      exact ⟨hC s a w hJ, h1, hend s hs hn a w hJ⟩
    | cons e0 es0 =>
      have h00 := h3 e0 (by rw [hn]; simp)
      obtain ⟨g, rfl⟩ : ∃ g, f = g + 1 := ⟨f - 1, by have := h00.1.2; omega⟩
      refine ⟨hC s a w hJ, by rw [h1, hn]; simp, fun i hi => ?_⟩
      rw [h1] at hi
      obtain ⟨e, he, rfl⟩ := List.mem_map.1 hi
      obtain ⟨⟨⟨⟨⟨g1, g2⟩, g3⟩, g4⟩, g5⟩, g6⟩ := h3 e he
      have hst := hstep s hs e he a w hJ
      refine wpOp_mono (fun a'' w'' h'' => ?_) (anyC_op (by simpa using g1) hst)
      obtain ⟨hC0, hq⟩ := h''
      have hC'' := hCC _ hC0
      have hg : g = e.2.1.length + remB (lst e.2.2) := by omega
      rw [hg]
      exact anyC_stills hsel hC'' _ e.2.1 _ a'' g3 (fun i hi => by have := g2 i hi; simpa using this) (fun a' ha' => by rw [g4]; exact ih _ (by omega) _ a' w'' g6 rfl ha') hq
theorem wp_region_anyC {id : Nat} {Q : Exit → Act → World → Prop} {a : Act} {w : World} {l : List Oper} (C : World → Prop) (hm : P.follows .mixedOrders = true) (h : wpAnyC P .any l.toArray C (fun a' w' => Q .normal a' w') l.length (Array.replicate l.length false) a w.drew) : (Code.region id l.toArray true).wp P Q a w := by
  have H := wpAny_of_C _ _ _ _ h
  have HH : (Code.region id l.toArray true).wp P (Nrm fun a' w' => Q .normal a' w') a w := wp_region_any hm (by simpa using H)
  exact Code.wp_mono (fun e a w h => by obtain ⟨rfl, h⟩ := h; exact h) HH
theorem wp_region_dag {id : Nat} {Q : Exit → Act → World → Prop} {a : Act} {w : World} {l : List Oper} (C0 : World → Prop) (s0 : List Nat) (n : Nat) (lst : Nat → Array Bool) (nxt : Nat → List (Nat × List Nat × Nat)) (J : Nat → Act → World → Prop) (hm : P.follows .mixedOrders = true)
    (hB : (Region.noSelect l.toArray && dagB .any l.toArray n lst nxt && stillsB .any l.toArray s0 (Array.replicate l.length false) && decide (setAll s0 (Array.replicate l.length false) = lst 0) && decide (l.length = s0.length + remB (lst 0)) && decide (0 < n) && s0.all (fun i => decide (i < l.length))) = true)
    (hC : C0 w.drew) (hJ : ∀ s a w, J s a w → C0 w)
    (hstart : wpQuiet P l.toArray (fun w' => ∃ k : Hld C0, w' = k.world) (fun a' => J 0 a' w.drew) (pickOps l s0) a)
    (hstep : ∀ s, s < n → ∀ e ∈ nxt s, ∀ a w, J s a w → wpList P l.toArray (Nrm fun a'' w'' => C0 w'' ∧ wpQuiet P l.toArray (fun w' => ∃ k : Hld C0, w' = k.world) (fun a3 => J e.2.2 a3 w'') (pickOps l e.2.1) a'') (pickOps l [e.1]) a w)
    (hend : ∀ s, s < n → nxt s = [] → ∀ a w, J s a w → Q .normal a w) : (Code.region id l.toArray true).wp P Q a w := by
  simp only [Bool.and_eq_true, decide_eq_true_eq, List.all_eq_true] at hB
  obtain ⟨⟨⟨⟨⟨⟨b1, b2⟩, b3⟩, b4⟩, b5⟩, b6⟩, b7⟩ := hB
  refine wp_region_anyC (fun w' => ∃ k : Hld C0, w' = k.world) hm ?_
  have H := anyC_dag (P := P) (md := .any) (C := fun w' => ∃ k : Hld C0, w' = k.world) (Q := fun a' w' => Q .normal a' w') b1 n lst nxt J b2 C0 (fun w h => ⟨⟨w, h⟩, rfl⟩) (fun s a w h => ⟨⟨w, hJ s a w h⟩, rfl⟩) hstep hend
  have hs := anyC_stills (P := P) (md := .any) (Q := fun a' w' => Q .normal a' w') (f := remB (lst 0)) b1 (w := w.drew) ⟨⟨_, hC⟩, rfl⟩ _ s0 (Array.replicate l.length false) a b3 b7 (fun a' ha' => by rw [b4]; exact H _ 0 a' _ b6 rfl ha') hstart
  rwa [← b5] at hs
end
end Go.G9
