/- Plain laws: a line is read at its place alone; an appended record follows the others. -/
import Derived.Test.YtpejnfhenpdobaaDoorCrP
namespace Go.Proofs.YtpejnfhenpdobaaDoor
open Go.RowKit Go.G9
theorem rdGo_empty (f k a : Nat) : rdGo f k [] a = [] := rdGo_nil (rd1_empty k)
theorem rdGo_app (n : Nat) (hn : n < 60) {c r : L8} (hok : okL c r = true) : ∀ (f k : Nat) (l : L8) (a : Nat), (a :: (rdGo f k l a).map (·.2.2)).getLastD 0 = a + l.length → (rdGo f k l a).length < f → k + (rdGo f k l a).length = n →
    rdGo f k (l ++ (lineL n c r ++ [10])) a = rdGo f k l a ++ [(c, r, a + l.length + ((lineL n c r).length + 1))]
  | 0, _, _, _, _, h, _ => by omega
  | f + 1, k, l, a, hl, hf, hk => by
    cases hx : rd1 l k with
    | none =>
      rw [rdGo_nil hx] at hl hk ⊢
      simp only [List.map_nil, List.length_nil, Nat.add_zero] at hl hk
      have h0 : l = [] := by
        simp at hl
        exact hl
      subst h0; subst hk
      rw [List.nil_append, rdGo, rd1_line hn hok]
      simp only
      have e : (lineL k c r ++ [10]).drop ((lineL k c r).length + 1) = [] := by simp
      rw [e, rdGo_empty]
      simp
    | some x =>
      obtain ⟨c', r', m⟩ := x
      obtain ⟨h0, h1, e, h2⟩ := rd1_some hx
      have hm := rd1_len hx
      have eR : rdGo (f + 1) k l a = (c', r', a + m) :: rdGo f (k + 1) (l.drop m) (a + m) := by rw [rdGo, hx]
      rw [eR] at hl hf hk ⊢
      simp only [List.map_cons, List.length_cons] at hl hf hk
      have e' : ∀ L : List Nat, (a :: (a + m) :: L).getLastD 0 = ((a + m) :: L).getLastD 0 := fun L => by simp [List.getLastD_eq_getLast?, List.getLast?_cons]
      rw [e'] at hl
      have ih := rdGo_app n hn hok f (k + 1) (l.drop m) (a + m) (by rw [hl, List.length_drop]; omega) (by omega) (by omega)
      have hr : rd1 (l ++ (lineL n c r ++ [10])) k = some (c', r', m) := by
        rw [h2, List.append_assoc, List.cons_append, rd1_line h0 h1, e]
      rw [rdGo, hr]
      simp only
      rw [List.drop_append_of_le_length hm.1, ih, List.length_drop]
      simp
      omega
theorem rdAll_app {l : L8} {c r : L8} (hl : endL l = l.length) (hn : (rdAll l).length < 60) (hok : okL c r = true) :
    rdAll (l ++ (lineL ((rdAll l).length : Nat) c r ++ [10])) = rdAll l ++ [(c, r, l.length + ((lineL ((rdAll l).length : Nat) c r).length + 1))] := by
  have h := rdGo_app (rdAll l).length hn hok 61 0 l 0 (by rw [Nat.zero_add]; exact hl) (by show (rdAll l).length < 61; omega) (by rw [Nat.zero_add]; rfl)
  rw [Nat.zero_add] at h
  exact h
theorem LogT.ext {x y : LogT} (h1 : x.dur = y.dur) (h2 : x.pen = y.pen) (h3 : x.cnt = y.cnt) : x = y := by
  cases x; cases y; simp at h1 h2 h3; subst h1; subst h2; subst h3; rfl
theorem apT_no {x : LogT} {y : LRec} (h : apTC x y ≠ 0) : apT x y = x := by
  have h0 : (apOk x.d x.p x.cnt y.c y.r && !(x.cnt == 60)) = false := by
    unfold apTC apC at h
    cases ha : apOk x.d x.p x.cnt y.c y.r
    · rfl
    · rw [ha, if_pos rfl] at h
      cases hb : x.cnt == 60
      · rw [hb] at h; simp at h
      · rfl
  unfold apT apP apN
  rw [h0]
  simp only [Bool.false_eq_true, if_false]
  exact LogT.ext rfl (bs_p x) rfl
theorem apT_law {x : LogT} {y : LRec} (h : apTC x y = 0) :
    x.ok = true ∧ (apT x y).ok = true ∧ lrT (apT x y) = lrT x ++ [y] ∧ (apT x y).cnt = ((lrT (apT x y)).length : Int) ∧ recTB ((apT x y).dur ++ (apT x y).pen) = true ∧ recTE ((apT x y).dur ++ (apT x y).pen) = (((apT x y).dur ++ (apT x y).pen).size : Int) ∧ syncT (apT x y) = recT ((apT x y).dur ++ (apT x y).pen) := by
  have h0 : apOk x.d x.p x.cnt y.c y.r = true ∧ (x.cnt == 60) = false := by
    unfold apTC apC at h
    cases ha : apOk x.d x.p x.cnt y.c y.r
    · rw [ha] at h; simp at h
    · rw [ha, if_pos rfl] at h
      cases hb : x.cnt == 60
      · exact ⟨rfl, rfl⟩
      · rw [hb] at h; simp at h
  obtain ⟨ha, hb⟩ := h0
  have ha' := ha
  unfold apOk at ha'
  rw [Bool.and_eq_true] at ha'
  obtain ⟨hl, hok⟩ := ha'
  obtain ⟨p1, p2, p3, p4⟩ := logS_parts hl
  obtain ⟨n0, n1, _⟩ := logS_n hl
  have hne : x.cnt ≠ 60 := fun e => by rw [e] at hb; simp at hb
  have hlen : (rdAll (x.d ++ x.p)).length < 60 := by rw [recsL_len] at p4; omega
  have hcnt : x.cnt = ((rdAll (x.d ++ x.p)).length : Nat) := by rw [recsL_len] at p4; omega
  have hA := rdAll_app (c := y.c) (r := y.r) (by rw [p2, List.length_append]) hlen hok
  rw [← hcnt] at hA
  have hP : (apT x y).p = x.p ++ (lineL x.cnt y.c y.r ++ [10]) := by
    show (bs (apP x.d x.p x.cnt y.c y.r)).data.toList = _
    rw [bs_list]
    unfold apP
    rw [ha, hb]
    rfl
  have hD : (apT x y).d = x.d := rfl
  have hN : (apT x y).cnt = x.cnt + 1 := by
    unfold apT apN
    simp only
    rw [ha, hb]
    rfl
  have hE : endL (x.d ++ (x.p ++ (lineL x.cnt y.c y.r ++ [10]))) = (x.d ++ (x.p ++ (lineL x.cnt y.c y.r ++ [10]))).length := by
    show endOf (rdAll _) = _
    rw [← List.append_assoc, hA, endOf_app]
    simp
    omega
  have hle := (endL_le (x.d ++ (x.p ++ (lineL x.cnt y.c y.r ++ [10])))).1
  have hR : recsL (x.d ++ (x.p ++ (lineL x.cnt y.c y.r ++ [10]))) = recsL (x.d ++ x.p) ++ [y] := by
    unfold recsL
    have e : ∀ m, asRec (y.c, y.r, m) = y := fun m => by
      unfold asRec
      simp only
      rw [bs_c, bs_r]
    rw [← List.append_assoc, hA, List.map_append]
    simp only [List.map_cons, List.map_nil, e]
  have hS : logS x.d (x.p ++ (lineL x.cnt y.c y.r ++ [10])) (x.cnt + 1) = true := by
    unfold logS
    rw [hE, hR, p3]
    rw [hE] at hle
    simp only [List.length_append] at hle p4 ⊢
    simp
    omega
  have hok2 : (apT x y).ok = true := by unfold LogT.ok; rw [hD, hP, hN]; exact hS
  have hL : lrT (apT x y) = lrT x ++ [y] := by
    unfold lrT lrL
    rw [hD, hP, hN, if_pos hS, if_pos hl, hR]
  have hL1 : lrT x = recsL (x.d ++ x.p) := by unfold lrT lrL; rw [if_pos hl]
  have q1 : ((apT x y).dur ++ (apT x y).pen).data.toList = x.d ++ (x.p ++ (lineL x.cnt y.c y.r ++ [10])) := by
    rw [← bs_d, ← bs_p, hD, hP, bs_app, bs_list]
  have q2 : (((apT x y).dur ++ (apT x y).pen).size : Nat) = (x.d ++ (x.p ++ (lineL x.cnt y.c y.r ++ [10]))).length := by
    rw [← q1, Array.length_toList]; rfl
  rw [hE] at hle
  refine ⟨hl, hok2, hL, ?_, ?_, ?_, ?_⟩
  · rw [hN, hL, hL1, List.length_append, List.length_singleton]; omega
  · unfold recTB; rw [q1, decide_eq_true_eq]; omega
  · unfold recTE recE; rw [q1, q2, if_pos (by omega), hE]
  · unfold syncT
    rw [hok2, if_pos rfl]
    refine LogT.ext ?_ rfl ?_
    · show _ = bs (recL _)
      rw [q1]
      unfold recL
      rw [if_pos (by omega), hE, List.take_length]
      rw [← q1, bs_of]
    · show (apT x y).cnt = ((recN _ : Nat) : Int)
      rw [q1]
      unfold recN
      rw [if_pos (by omega), hN, hR, List.length_append, List.length_singleton]
      omega
theorem numL_zero {k : Int} (h : 0 ≤ k) (e : numL k = numL 0) : k = 0 := by
  rw [numL_nonneg h, numL_nonneg (by omega)] at e
  have e0 : Lib.decDigits (0 : Int).toNat = [48] := by rw [Lib.decDigits]; rfl
  rw [e0, Lib.decDigits] at e
  split at e
  · rename_i hlt
    simp only [List.cons.injEq, and_true] at e
    have e2 := congrArg UInt8.toNat e
    rw [UInt8.toNat_ofNat', show (48 : UInt8).toNat = 48 from rfl] at e2
    omega
  · have e2 := congrArg List.length e
    have : 1 ≤ (Lib.decDigits (k.toNat / 10)).length := by
      rw [Lib.decDigits]
      split <;> simp
    simp only [List.length_append, List.length_cons, List.length_nil] at e2
    omega
theorem enT_yes {k : Int} {y : LRec} (h : enTB k y = true) : enT k y = bs (lineL k y.c y.r ++ [10]) := by
  unfold enT; rw [if_pos (show encOk k y.c y.r = true from h)]
theorem enT_no {k : Int} {y : LRec} (h : enTB k y = false) : enT k y = ⟨#[]⟩ := by
  unfold enT; rw [if_neg (by rw [show encOk k y.c y.r = false from h]; simp)]
/-- A line is read at its own place alone. -/
theorem en_law {k : Int} {y : LRec} (h : enTB k y = true) : (decide (0 < recTE (enT k y)) = (k == 0)) ∧ (k = 0 → (recT (enT k y)).cnt = 1) := by
  have h' := h
  unfold enTB encOk inB at h'
  simp only [Bool.and_eq_true, decide_eq_true_eq] at h'
  obtain ⟨⟨hk0, hk1⟩, hok⟩ := h'
  have hlen := lineL_len hk0 (by omega) hok
  have q1 : (enT k y).data.toList = lineL k y.c y.r ++ [10] := by rw [enT_yes h, bs_list]
  have hl : (lineL k y.c y.r ++ [10]).length ≤ 30000 := by rw [List.length_append]; simp; omega
  have qE : recTE (enT k y) = (endL (lineL k y.c y.r ++ [10]) : Nat) := by unfold recTE recE; rw [q1, if_pos hl]
  have qN : (recT (enT k y)).cnt = ((recsL (lineL k y.c y.r ++ [10])).length : Nat) := by
    show ((recN _ : Nat) : Int) = _
    rw [q1]; unfold recN; rw [if_pos hl]
  rw [qE, qN]
  by_cases hk : k = 0
  · subst hk
    have hA : rdAll (lineL 0 y.c y.r ++ [10]) = [(y.c, y.r, 0 + ((lineL 0 y.c y.r).length + 1))] := by
      unfold rdAll
      rw [rdGo]
      have t1 : rd1 (lineL 0 y.c y.r ++ [10]) 0 = some (y.c, y.r, (lineL 0 y.c y.r).length + 1) := rd1_line (k := 0) (by omega) (t := []) hok
      rw [t1]
      simp only
      have e1 : List.drop ((lineL 0 y.c y.r).length + 1) (lineL 0 y.c y.r ++ [10]) = [] := by simp
      rw [e1, rdGo_empty]
    refine ⟨?_, fun _ => ?_⟩
    · have : endL (lineL 0 y.c y.r ++ [10]) = 0 + ((lineL 0 y.c y.r).length + 1) := by
        show endOf (rdAll _) = _
        rw [hA]; rfl
      rw [this]
      simp
    · unfold recsL; rw [hA]; rfl
  · have hA : rdAll (lineL k y.c y.r ++ [10]) = [] := by
      refine rdGo_nil ?_
      cases hx : rd1 (lineL k y.c y.r ++ [10]) 0 with
      | none => rfl
      | some x =>
        exfalso
        obtain ⟨c', r', n⟩ := x
        obtain ⟨_, h1, e, h2⟩ := rd1_some hx
        have b1 := body_parts hk0 hok
        have b2 := body_parts (k := ((0 : Nat) : Int)) (by omega) h1
        have e1 : lineL k y.c y.r = lineL ((0 : Nat) : Int) c' r' := by
          have := congrArg (bef 10) h2
          rwa [bef_app b1.2.1, bef_app b2.2.1] at this
        have e2 : bodyL k y.c y.r = bodyL ((0 : Nat) : Int) c' r' := by
          have := congrArg (bef 35) e1
          rwa [b1.2.2.1, b2.2.2.1] at this
        have e3 : numL k = numL ((0 : Nat) : Int) := by
          have := congrArg (bef 32) e2
          unfold bodyL at this
          rwa [bef_app (numL_not hk0 (by decide)), bef_app (numL_not (by omega) (by decide))] at this
        exact hk (numL_zero hk0 e3)
    refine ⟨?_, fun h => absurd h hk⟩
    have : endL (lineL k y.c y.r ++ [10]) = 0 := by
      show endOf (rdAll _) = _
      rw [hA]; rfl
    rw [this]
    simp [hk]
theorem recT_ok {s : ByteArray} (h : recTB s = true) : (recT s).ok = true ∧ syncT (recT s) = recT s := by
  have hl : s.data.toList.length ≤ 30000 := by unfold recTB at h; exact of_decide_eq_true h
  have hS := logS_mk _ hl
  have qd : (recT s).d = s.data.toList.take (endL s.data.toList) := by unfold recT LogT.d recL; simp only; rw [if_pos hl, bs_list]
  have qn : (recT s).cnt = ((recsL s.data.toList).length : Nat) := by show ((recN _ : Nat) : Int) = _; unfold recN; rw [if_pos hl]
  have qok : (recT s).ok = true := by unfold LogT.ok; rw [qd, show (recT s).p = [] from rfl, qn]; exact hS
  refine ⟨qok, ?_⟩
  unfold syncT
  rw [qok, if_pos rfl]
  refine LogT.ext ?_ rfl rfl
  show (recT s).dur ++ (recT s).pen = _
  rw [← bs_d, ← bs_p, show (recT s).p = [] from rfl, bs_app, List.append_nil]
end Go.Proofs.YtpejnfhenpdobaaDoor
