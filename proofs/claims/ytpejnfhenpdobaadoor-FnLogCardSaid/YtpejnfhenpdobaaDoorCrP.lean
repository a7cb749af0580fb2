/- Plain law of recovery after a crash. -/
import Derived.Test.YtpejnfhenpdobaaDoorLogU
namespace Go.Proofs.YtpejnfhenpdobaaDoor
open Go.RowKit Go.G9
theorem rise_le : ∀ (zs : List Nat) (a : Nat), (a :: zs).Pairwise (· < ·) → ∀ x ∈ a :: zs, x ≤ (a :: zs).getLastD 0
  | [], a, _, x, hx => by simp at hx; subst hx; simp
  | z :: zs, a, h, x, hx => by
    have h2 := (List.pairwise_cons.1 h).2
    have e : (a :: z :: zs).getLastD 0 = (z :: zs).getLastD 0 := by simp [List.getLastD_eq_getLast?, List.getLast?_cons]
    rw [e]
    have ih := rise_le zs z h2
    rcases List.mem_cons.1 hx with rfl | hx
    · have h3 := (List.pairwise_cons.1 h).1 z (by simp)
      have h4 := ih z (by simp)
      omega
    · exact ih x hx
theorem end_le (l : L8) : ∀ m ∈ 0 :: (rdAll l).map (·.2.2), m ≤ endL l := fun m hm => rise_le _ _ (rdGo_rise 61 0 l 0) m hm
theorem tw_all {α : Type} {p : α → Bool} : ∀ {l : List α}, (∀ x ∈ l, p x = true) → l.takeWhile p = l
  | [], _ => rfl
  | x :: l, h => by
    rw [List.takeWhile_cons, h x (by simp), if_pos rfl, tw_all fun y hy => h y (by simp [hy])]
theorem rdAll_take (l : L8) : rdAll (l.take (endL l)) = rdAll l := by
  have h := rdGo_take 61 0 (l.take (endL l)) (l.drop (endL l)) 0
  rw [List.take_append_drop, Nat.zero_add] at h
  refine Eq.trans (show rdAll _ = _ from h) (tw_all fun x hx => ?_)
  have h1 := end_le l x.2.2 (List.mem_cons_of_mem _ (List.mem_map.2 ⟨x, hx, rfl⟩))
  have h2 := (endL_le l).2
  rw [decide_eq_true_eq, List.length_take]; omega
theorem rdGo_ten : ∀ (f k : Nat) (l : L8) (a : Nat), ∀ x ∈ rdGo f k l a, a < x.2.2 ∧ l[x.2.2 - a - 1]? = some 10
  | 0, _, _, _ => by simp [rdGo]
  | f + 1, k, l, a => by
    rw [rdGo]
    cases h : rd1 l k with
    | none => simp
    | some x =>
      obtain ⟨c, r, n⟩ := x
      obtain ⟨_, _, e, h2⟩ := rd1_some h
      have hl := rd1_len h
      intro y hy
      rcases List.mem_cons.1 hy with rfl | hy
      · refine ⟨by simp only; omega, ?_⟩
        simp only
        rw [h2, show a + n - a - 1 = (lineL k c r).length from by omega]
        simp
      · have ih := rdGo_ten f (k + 1) (l.drop n) (a + n) y hy
        refine ⟨by omega, ?_⟩
        rw [List.getElem?_drop] at ih
        rw [← ih.2]
        congr 1
        omega
theorem numL_not2 {n : Int} (h : 0 ≤ n) {c : UInt8} (hc : 57 < c.toNat) : c ∉ numL n := by
  rw [numL_nonneg h]
  intro hm
  have := digit_dec _ _ hm
  omega
theorem line_not (k : Nat) {c r : L8} (h : okL c r = true) : (245 : UInt8) ∉ lineL k c r := by
  have n1 := numL_not2 (n := (k : Int)) (by omega) (c := 245) (by decide)
  have n2 := numL_not2 (n := (sumL (bodyL k c r) : Nat)) (by omega) (c := 245) (by decide)
  simp only [okL, recB, inB, plainB, stB, bs_list, bs_size, Bool.and_eq_true, decide_eq_true_eq, Bool.not_eq_true', List.all_eq_true, List.any_eq_false] at h
  obtain ⟨⟨h1, h2⟩, h3, h4, h5, h6⟩ := h
  have hp : plainC 245 = false := by decide
  have a1 : (245 : UInt8) ∉ c := fun hm => by have := h4 _ hm; rw [hp] at this; cases this
  have a2 : (245 : UInt8) ∉ r := fun hm => by have := h5 _ hm; rw [hp] at this; cases this
  unfold lineL sealL
  simp only [List.mem_append, List.mem_cons, not_or]
  refine ⟨?_, by decide, n2⟩
  unfold bodyL
  simp [n1, a1, a2]
theorem rdGo_cover : ∀ (f k : Nat) (l : L8) (a : Nat), (a :: (rdGo f k l a).map (·.2.2)).getLastD 0 = a + l.length → (245 : UInt8) ∉ l
  | 0, k, l, a, h => by
    simp [rdGo] at h
    subst h; simp
  | f + 1, k, l, a, h => by
    rw [rdGo] at h
    cases hx : rd1 l k with
    | none =>
      rw [hx] at h
      simp at h
      subst h; simp
    | some x =>
      obtain ⟨c, r, n⟩ := x
      rw [hx] at h
      obtain ⟨_, h1, e, h2⟩ := rd1_some hx
      have hl := rd1_len hx
      simp only [List.map_cons] at h
      have e' : ∀ L : List Nat, (a :: (a + n) :: L).getLastD 0 = ((a + n) :: L).getLastD 0 := fun L => by simp [List.getLastD_eq_getLast?, List.getLast?_cons]
      rw [e'] at h
      have ih := rdGo_cover f (k + 1) (l.drop n) (a + n) (by rw [h, List.length_drop]; omega)
      have e2 : l.drop n = aft 10 l := by
        conv => lhs; rw [h2]
        rw [e, List.drop_append]
        simp
      rw [e2] at ih
      rw [h2]
      simp only [List.mem_append, List.mem_cons, not_or]
      exact ⟨line_not k h1, by decide, ih⟩
theorem inv_ten (x : UInt8) (h : 255 - x = 10) : x = 245 := by
  have h1 := inv255 x
  rw [h] at h1
  have h2 : x.toNat = (245 : UInt8).toNat := by
    have : ((10 : UInt8).toNat : Int) = 10 := rfl
    have : ((245 : UInt8).toNat) = 245 := rfl
    omega
  exact UInt8.toNat_inj.1 h2
theorem take_set {α : Type} (p : List α) (j : Nat) (y : α) (h : j < p.length) : (p.take (j + 1)).set j y = p.take j ++ [y] := by
  rw [List.take_succ_eq_append_getElem h, List.set_append_right _ _ (by rw [List.length_take]; omega)]
  rw [List.length_take, show j - min j p.length = 0 from by omega]
  rfl
theorem rd_pre (d p : L8) : rdAll d = (rdAll (d ++ p)).takeWhile (fun x => decide (x.2.2 ≤ d.length)) := by
  have h := rdGo_take 61 0 d p 0
  rwa [Nat.zero_add] at h
theorem rd_crash (d p : L8) (h : endL (d ++ p) = d.length + p.length) (k : Int) (hk : 0 ≤ k ∧ k ≤ (p.length : Int)) (t : Bool) :
  ∃ M, d.length ≤ M ∧ rdAll (d ++ crB p k t) = (rdAll (d ++ p)).takeWhile (fun x => decide (x.2.2 ≤ M)) := by
  have hn : (245 : UInt8) ∉ d ++ p := rdGo_cover 61 0 (d ++ p) 0 (by rw [Nat.zero_add, List.length_append]; exact h)
  unfold crB
  split
  · rename_i hc
    simp only [Bool.and_eq_true, decide_eq_true_eq] at hc
    obtain ⟨j, hj⟩ : ∃ j : Nat, k = (j : Int) + 1 := ⟨k.toNat - 1, by omega⟩
    subst hj
    rw [show ((j : Int) + 1).toNat = j + 1 from by omega, Nat.add_sub_cancel, take_set _ _ _ (by omega)]
    have hy : 255 - p.getD j 0 ≠ 10 := fun e => by
      have e2 := inv_ten _ e
      refine hn (List.mem_append.2 (.inr ?_))
      rw [← e2, List.getD_eq_getElem?_getD, List.getElem?_eq_getElem (by omega), Option.getD_some]
      exact List.getElem_mem _
    generalize 255 - p.getD j 0 = y at hy ⊢
    refine ⟨(d ++ p.take j).length, by simp, ?_⟩
    have e1 := rd_pre (d ++ p.take j) (p.drop j)
    rw [List.append_assoc, List.take_append_drop] at e1
    rw [← e1, ← List.append_assoc]
    have e3 := rd_pre (d ++ p.take j) [y]
    rw [e3]
    refine (tw_all fun x hx => ?_).symm
    have t1 := rdGo_ten 61 0 _ 0 x hx
    have t2 := (rdGo_end 61 0 _ 0 x hx).2
    rw [decide_eq_true_eq]
    rw [Nat.zero_add] at t2
    rw [List.length_append (bs := [y]), List.length_singleton] at t2
    apply Nat.le_of_not_lt
    intro hlt
    have e4 : x.2.2 - 0 - 1 = (d ++ p.take j).length := by omega
    rw [e4, List.getElem?_append_right (Nat.le_refl _), Nat.sub_self] at t1
    exact hy (by simpa using t1.2)
  · refine ⟨(d ++ p.take k.toNat).length, by simp, ?_⟩
    have e1 := rd_pre (d ++ p.take k.toNat) (p.drop k.toNat)
    rwa [List.append_assoc, List.take_append_drop] at e1
theorem tw_mem {zs : List Nat} {m M : Nat} (h : zs.Pairwise (· < ·)) (hm : m ∈ zs) (hM : m ≤ M) : m ∈ zs.takeWhile (fun x => decide (x ≤ M)) := by
  induction zs with
  | nil => simp at hm
  | cons z zs ih =>
    obtain ⟨h1, h2⟩ := List.pairwise_cons.1 h
    have hz : z ≤ M := by
      rcases List.mem_cons.1 hm with rfl | hm
      · exact hM
      · have := h1 _ hm; omega
    rw [List.takeWhile_cons, decide_eq_true hz, if_pos rfl]
    rcases List.mem_cons.1 hm with rfl | hm
    · simp
    · exact List.mem_cons_of_mem _ (ih h2 hm)
theorem logS_parts {d p : L8} {n : Int} (h : logS d p n = true) : d.length + p.length ≤ 30000 ∧ endL (d ++ p) = d.length + p.length ∧ endL d = d.length ∧ ((recsL (d ++ p)).length : Int) = n := by
  unfold logS at h
  simp only [Bool.and_eq_true, decide_eq_true_eq, beq_iff_eq] at h
  omega
theorem logS_mk (l : L8) (hl : l.length ≤ 30000) : logS (l.take (endL l)) [] ((recsL l).length : Nat) = true := by
  have h1 := (endL_le l).2
  have h2 : endL (l.take (endL l)) = endL l := by
    show endOf (rdAll _) = endOf (rdAll l)
    rw [rdAll_take]
  have h3 : recsL (l.take (endL l)) = recsL l := by unfold recsL; rw [rdAll_take]
  have h4 : (l.take (endL l)).length = endL l := by rw [List.length_take]; omega
  unfold logS
  rw [List.append_nil, h2, h3, h4]
  simp
  omega
theorem cr_len (p : L8) (k : Int) (t : Bool) : (crB p k t).length ≤ p.length := by
  unfold crB
  split <;> simp <;> omega
/-- Recovery behind a crash. -/
theorem crash_law (x : LogT) (k : Int) (t : Bool) (h : crTB x k t = true) :
  recTB (crT x k t) = true ∧ 0 ≤ recTE (crT x k t) ∧ recTE (crT x k t) ≤ ((crT x k t).size : Int) ∧ (x.dur.size : Int) ≤ recTE (crT x k t) ∧ (recT (crT x k t)).ok = true ∧ x.ok = true ∧ lrT (recT (crT x k t)) <+: lrT x ∧ (recT (crT x k t)).dur = (crT x k t).extract 0 (recTE (crT x k t)).toNat := by
  have e0 : crT x k t = bs (x.d ++ crB x.p k t) := by
    unfold crT
    rw [if_pos (show crOk x.d x.p x.cnt k = true from h)]
  have hok : x.ok = true := by unfold crTB crOk at h; unfold LogT.ok; simp only [Bool.and_eq_true] at h; exact h.1
  have hk : 0 ≤ k ∧ k ≤ (x.p.length : Int) := by
    unfold crTB crOk inB at h
    simp only [Bool.and_eq_true, decide_eq_true_eq] at h
    omega
  obtain ⟨p1, p2, p3, p4⟩ := logS_parts (show logS x.d x.p x.cnt = true from hok)
  obtain ⟨M, hM, hr⟩ := rd_crash x.d x.p p2 k hk t
  have hlen := cr_len x.p k t
  have hl : (x.d ++ crB x.p k t).length ≤ 30000 := by rw [List.length_append]; omega
  have hS := logS_mk _ hl
  rw [e0]
  generalize hs : x.d ++ crB x.p k t = s at *
  have q1 : (bs s).data.toList = s := bs_list s
  have qE : recTE (bs s) = (endL s : Nat) := by unfold recTE recE; rw [q1, if_pos hl]
  have qd : (recT (bs s)).d = s.take (endL s) := by unfold recT LogT.d recL; simp only; rw [q1, if_pos hl, bs_list]
  have qp : (recT (bs s)).p = [] := rfl
  have qn : (recT (bs s)).cnt = ((recsL s).length : Nat) := by unfold recT recN; simp only; rw [q1, if_pos hl]
  have qok : (recT (bs s)).ok = true := by unfold LogT.ok; rw [qd, qp, qn]; exact hS
  have hend : x.d.length ≤ endL s := by
    apply end_le
    have m1 := (endL_pre x.d x.p).1 p3
    rw [hr, takeWhile_ends]
    rcases List.mem_cons.1 m1 with h0 | h0
    · rw [h0]; simp
    · exact List.mem_cons_of_mem _ (tw_mem (List.pairwise_cons.1 (rdGo_rise 61 0 (x.d ++ x.p) 0)).2 h0 hM)
  have hds : x.d.length = x.dur.size := by unfold LogT.d; rw [Array.length_toList]; rfl
  refine ⟨?_, by rw [qE]; omega, ?_, by rw [qE]; omega, qok, hok, ?_, ?_⟩
  · unfold recTB; rw [q1, decide_eq_true_eq]; exact hl
  · rw [qE, bs_size]; have := (endL_le s).2; omega
  · unfold lrT lrL
    rw [if_pos (show logS x.d x.p x.cnt = true from hok), if_pos (show logS (recT (bs s)).d (recT (bs s)).p (recT (bs s)).cnt = true from qok), qd, qp, List.append_nil]
    unfold recsL
    rw [rdAll_take, hr]
    exact List.IsPrefix.map _ (List.takeWhile_prefix _)
  · rw [qE, Int.toNat_natCast, bs_extract]
    show bs (recL (bs s).data.toList) = _
    rw [q1]
    unfold recL
    rw [if_pos hl]
    simp
end Go.Proofs.YtpejnfhenpdobaaDoor
