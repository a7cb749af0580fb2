/- Clauses: a number put to its place; closures (the reference). -/
import Derived.Test.YtndenojanflkgaaCl13
import Derived.Test.YtndenojanflkgaaCl3
namespace Go.G9
open Go.RowKit
theorem wpList_appOC {P : Program} {w : World} {ops : Array Oper} {rest : List Oper} {o : Oper} {a : Act} {Q : Exit → Act → World → Prop} (hgd : o.guard = none) (s x : Operand) (t : TypeId)
    (ho : o.op = .call { callee := .builtin .append, args := #[s, x], argTypes := #[t, t] })
    (B : Nat) (e : TypeId) (i : TypeInfo) (z : Value) (sz bytes : Nat) (ht : P.underlying t = some (.slice e)) (hi : P.info? e = some i) (hz : i.zero = some z)
    (hsize : i.size = sz) (hby : i.bytes = bytes) (hzs : z.cells.size = sz) (hsz : 0 < sz) {T : Type} (f : T → List Value) (hf : ∀ y, (f y).length = sz) (hone : ∀ y u, u ∈ f y → u.oneCell' = true)
    (g : Nat) (hs : a.eval s = .slice (some ⟨g, 0, none⟩) 0 0) (hg : Blk w g e #[]) (hBg : B ≤ g) (A2 : Option Addr) (c2 : Nat) (ys : List T) (n : Nat) (hn : n = ys.length) (hx : a.eval x = .slice A2 n c2) (hR : Rds sz f w A2 ys) (hA : A2 = none → ys = [] ∧ c2 = 0)
    (h63 : ys.length ≤ maxLen) (hbytes : ys.length * bytes ≤ 140737488355328)
    (h : ∀ g' c' w', OwnV B e sz f w' (.slice (some ⟨g', 0, none⟩) ys.length c') ys → Below w.heap.size w w' → wpList P ops Q rest (a.put o.dst (.slice (some ⟨g', 0, none⟩) n c')) w') : wpList P ops Q (o :: rest) a w := by
  subst hn
  cases A2 with
  | some ad => exact wpList_appE hgd s x t ho B e i z sz bytes ht hi hz hsize hby hzs hsz f hf hone g hs hg hBg ad c2 ys hx hR h63 hbytes (fun g' c' w' h1 h2 _ => h g' c' w' h1 h2)
  | none =>
    obtain ⟨rfl, rfl⟩ := hA rfl
    have hO : OwnV B e sz f w (.slice (some ⟨g, 0, none⟩) 0 0) ([] : List T) := OwnV.ofBlk (xs := []) (cap := 0) hg hBg (Nat.le_refl _) (Nat.zero_le _) (by simp) (fun i x hx => by simp at hx) hf
    exact wpList_append_own_none hgd s x t ho B e i sz ht hi (.slice (some ⟨g, 0, none⟩) 0 0) 0 [] hs hO hx (h g 0 w hO (Below.refl _ _))
end Go.G9
namespace Go.Proofs.Ytndenojanflkgaa
open Go.RowKit Go.G9
theorem rds_takeC {T : Type} {sz : Nat} {f : T → List Value} {w : World} {A : Option Addr} {xs : List T} (h : Rds sz f w A xs) (k : Nat) : Rds sz f w A (xs.take k) := by
  intro h0
  obtain ⟨b, off, h1, h2, h3⟩ := h (by rw [List.length_take] at h0; omega)
  refine ⟨b, off, h1, h2, fun i x hx j u hu => h3 i x ?_ j u hu⟩
  rw [List.getElem?_take] at hx
  split at hx
  · exact hx
  · cases hx
theorem rds_dropC {T : Type} {sz : Nat} {f : T → List Value} {w : World} {b off : Nat} {xs : List T} (h : Rds sz f w (some ⟨b, off, none⟩) xs) (k : Nat) : Rds sz f w (some ⟨b, off + k * sz, none⟩) (xs.drop k) := by
  intro h0
  obtain ⟨b', off', h1, h2, h3⟩ := h (by rw [List.length_drop] at h0; omega)
  injection h1 with h1; injection h1 with h4 h5; subst h4; subst h5
  refine ⟨b, off + k * sz, rfl, h2, fun i x hx j u hu => ?_⟩
  rw [List.getElem?_drop] at hx
  have h6 := h3 (k + i) x hx j u hu
  rw [Nat.add_mul] at h6
  rw [← h6]; congr 2; omega
theorem take_cut {xs : List Int} {n : Int} : ∀ {k : Nat}, k ≤ xs.length → (∀ i y, i < k → xs[i]? = some y → y < n) → (∀ y, xs[k]? = some y → ¬ y < n) → xs.takeWhile (fun x => decide (x < n)) = xs.take k ∧ xs.dropWhile (fun x => decide (x < n)) = xs.drop k := by
  induction xs with
  | nil => intro k hk _ _; obtain rfl : k = 0 := by simpa using hk
           exact ⟨rfl, rfl⟩
  | cons a xs ih =>
    intro k hk h1 h2
    cases k with
    | zero =>
      have := h2 a rfl
      rw [List.takeWhile_cons, List.dropWhile_cons]
      simp [this]
    | succ k =>
      have ha := h1 0 a (by omega) rfl
      obtain ⟨e1, e2⟩ := ih (k := k) (by simp at hk; omega) (fun i y hi hy => h1 (i + 1) y (by omega) (by simpa using hy)) (fun y hy => h2 y (by simpa using hy))
      rw [List.takeWhile_cons, List.dropWhile_cons]
      simp [ha, e1, e2]
theorem putL_same {xs : List Int} {n : Int} {k : Nat} (h : xs[k]? = some n) : putL xs n = xs := by
  unfold putL; rw [if_pos (hasC_mem.2 (List.mem_of_getElem? h))]
theorem putL_new {xs : List Int} {n : Int} {k : Nat} (hs : xs.Pairwise (· < ·)) (hk : k ≤ xs.length) (h1 : ∀ i y, i < k → xs[i]? = some y → y < n) (h2 : ∀ y, xs[k]? = some y → ¬ y < n) (h3 : ∀ y, xs[k]? = some y → y ≠ n) : putL xs n = xs.take k ++ [n] ++ xs.drop k := by
  obtain ⟨e1, e2⟩ := take_cut hk h1 h2
  unfold putL
  rw [if_neg, e1, e2]
  · simp
  · intro hm
    rw [hasC_mem] at hm
    obtain ⟨j, hj⟩ := List.mem_iff_getElem?.1 hm
    have hjl := (List.getElem?_eq_some_iff.1 hj).1
    rcases Nat.lt_trichotomy j k with h | h | h
    · have := h1 j n h hj; omega
    · subst h; exact h3 n hj rfl
    · have hkl : k < xs.length := by omega
      have hk0 := List.getElem?_eq_getElem hkl
      have a := h2 _ hk0
      have b := (List.pairwise_iff_getElem.1 hs) k j hkl hjl h
      have c := (List.getElem?_eq_some_iff.1 hj).2
      omega
theorem rds_oneC {w : World} {g : Nat} {n : Int} (h : Blk w g 3 #[.int .i64 n]) : Rds 1 intC w (some ⟨g, 0, none⟩) [n] := fun _ => ⟨g, 0, rfl, h.lt, fun i x hx j u hu => by
  obtain rfl : i = 0 := by have := (List.getElem?_eq_some_iff.1 hx).1; simp at this; omega
  cases hx
  obtain rfl : j = 0 := by have := (List.getElem?_eq_some_iff.1 hu).1; simp [intC] at this; omega
  cases hu
  exact (h.cell 0)⟩
def puS (xs : List Int) (k : Nat) (n : Int) : MkSpec (Option Addr × Nat) where
  par := fun m => match m with
    | 4 => [0]
    | _ => []
  val := fun m p => match m with
    | 0 => .slice p.1 0 0
    | 4 => .slice p.1 k p.2
    | 6 => .slice p.1 1 1
    | _ => undef
  post := fun m σ p V0 V => match m with
    | 0 => p.1 = some ⟨V0.heap.size, 0, none⟩ ∧ Blk V V0.heap.size 3 #[]
    | 4 => ∃ g g', (σ 0).1 = some ⟨g, 0, none⟩ ∧ p.1 = some ⟨g', 0, none⟩ ∧ OwnV g 3 1 intC V (.slice p.1 (xs.take k).length p.2) (xs.take k)
    | 6 => ∃ g, p.1 = some ⟨g, 0, none⟩ ∧ V0.heap.size = g ∧ Blk V g 3 #[.int .i64 n]
    | _ => True
set_option maxHeartbeats 4000000 in
set_option maxRecDepth 100000 in
theorem l1Put_is (b c : Nat) (xs : List Int) (n : Int) (h0 : 0 < xs.length) (hn : xs.length ≤ 1000) (hc : xs.length ≤ c) (hs : xs.Pairwise (· < ·)) (B : Nat) (w : World) (hBw : B ≤ w.heap.size) (O : OwnV B 3 1 intC w (.slice (some ⟨b, 0, none⟩) xs.length c) xs) :
  Calls Try.prog 42 #[.slice (some ⟨b, 0, none⟩) xs.length c, .int .i64 n] w fun e w' => ∃ Y y, e = .returned (.slice (some ⟨Y, 0, none⟩) (putL xs n).length y) ∧ OwnV B 3 1 intC w' (.slice (some ⟨Y, 0, none⟩) (putL xs n).length y) (putL xs n) ∧ Below w.heap.size w w' := by
  obtain ⟨i0, hi, hz0, hz1, hz2⟩ := info_parts info_int
  have HO := Lib.hid O
  have HR : Hid (Rds 1 intC w (some ⟨b, 0, none⟩) xs) := Lib.hid (O.rds intC_len)
  have HS := Lib.hid hs
  clear O hs
  go_enter Try.func42, Try.ntmps42
  go_wp2
  go_loop [5] (fun i => ∃ k : Nat, k ≤ xs.length ∧ i = .int .i64 k ∧ (∀ i y, i < k → xs[i]? = some y → y < n)) (fun i => xs.length - (intOf i).toNat)
  case atStart => exact ⟨0, Nat.zero_le _, rfl, fun i y hi => by omega⟩
  case round =>
    obtain ⟨k, hk, rfl, hl⟩ := hrel
    have HL := Lib.hid hl; clear hl
    by_cases hlt : k < xs.length
    · have hx := List.getElem?_eq_getElem hlt
      generalize xs[k] = x at hx
      obtain ⟨hbw, g0⟩ := rd_cellC HR.out hx (i := 0) (u := .int .i64 x) rfl
      simp only [Nat.mul_one, Nat.add_zero, Nat.zero_add] at g0
      have HX := Lib.hid hx; clear hx
      by_cases hm : x < n
      · have hm' : decide (x < n) = true := decide_eq_true hm
        go_wp2
        go_roundw
        case rel => exact ⟨k + 1, by omega, by go_num, fun j y hj hy => by
          by_cases e : j = k
          · subst e; rw [HX.out] at hy; cases hy; exact hm
          · exact HL.out j y (by omega) hy⟩
        case measure => simp [intOf]; omega
      · have hm' : decide (x < n) = false := decide_eq_false hm
        by_cases he : x = n
        · have he' : (x == n) = true := beq_iff_eq.2 he
          have HE : Hid (putL xs n = xs) := Lib.hid (putL_same (by rw [HX.out, he]))
          go_wp2
          go_ret
          exact ⟨b, c, by rw [HE.out]; rfl, by rw [HE.out]; exact HO.out, Below.refl _ _⟩
        · have he' : (x == n) = false := beq_eq_false_iff_ne.2 he
          have HE : Hid (putL xs n = xs.take k ++ [n] ++ xs.drop k) := Lib.hid (putL_new HS.out hk HL.out (fun y hy => by rw [HX.out] at hy; cases hy; exact hm) (fun y hy => by rw [HX.out] at hy; cases hy; exact he))
          have hck : ¬ c = k := by omega
          have hkc : k ≤ c := by omega
          have HTL : Hid ((xs.take k).length = k) := Lib.hid (by rw [List.length_take]; omega)
          have HRL : Hid ((xs.drop k).length = xs.length - k) := Lib.hid (by rw [List.length_drop])
          have HRT : Hid (Rds 1 intC w (some ⟨b, 0, none⟩) (xs.take k)) := Lib.hid (rds_takeC HR.out k)
          have HRR : Hid (Rds 1 intC w (some ⟨b, k, none⟩) (xs.drop k)) := Lib.hid (by have h := rds_dropC HR.out k; rw [Nat.mul_one, Nat.zero_add] at h; exact h)
          go_upto_region 6 with fail
          clear g0 hm' he'
          obtain ⟨CC1, hCC1⟩ : ∃ X : World → Prop, ∀ V, X V ↔ (Below w.heap.size w V) := ⟨_, fun _ => Iff.rfl⟩
          have HCC1 := Lib.hid hCC1; clear hCC1
          haveI : Nonempty (Hld CC1) := ⟨⟨w, ((HCC1.out _).2 ((Below.refl _ _)))⟩⟩
          refine wp_region_mky (puS xs k n) CC1 [([], 0), ([1, 2, 3], 4), ([5], 6)] [8, 9, 10] [([], [], 7, false), ([], [], 11, false)] [] [12] (by kernel_rfl) (by kernel_rfl) ((HCC1.out _).2 ((Below.refl _ _).drew)) (fun W W' h k => ((HCC1.out _).2 (((HCC1.out _).1 h).trans (k.mono ((HCC1.out _).1 h).size)))) ?_
          intro σ
          refine wpMk1_cons (some 33) rfl (.slice (σ 0).1 0 0) rfl fun K1 hK1 => ?_
          change wpQuiet _ _ _ _ ([]) _
          refine wpQuiet_nil ?_
          refine ⟨fun kq hpar => ?_, hK1 _ ?_⟩
          · change wpList _ _ _ (_ :: []) _ _
            go_wp2
            first | exact Nrm_mk ⟨(some ⟨kq.world.heap.size, 0, none⟩, 0), rfl, bl1 _ _, rfl, Blk.new _ _ _⟩ | exact Nrm_mk ⟨some ⟨kq.world.heap.size, 0, none⟩, 0, rfl, bl1 _ _, rfl, Blk.new _ _ _⟩
          simp only [Act.put]
          go_simp
          refine wpMk1_cons (some 37) rfl (.slice (σ 4).1 k (σ 4).2) rfl fun K1 hK1 => ?_
          change wpQuiet _ _ _ _ (_ :: _ :: _ :: []) _
          repeat (go_big_quiet_step (fail))
          refine wpQuiet_nil ?_
          refine ⟨fun kq hpar => ?_, hK1 _ ?_⟩
          · change wpList _ _ _ (_ :: []) _ _
            obtain ⟨U0, U, hU1, ⟨hU2, hU4⟩, hU5⟩ := hpar 0 (by simp [puS])
            have hU6 := hU4.below hU5 hU4.lt
            have hU7 : (σ 0).1 = some ⟨U0.heap.size, 0, none⟩ := hU2
            have HUR := Lib.hid (HRT.out.below ((HCC1.out _).1 kq.holds))
            have HU6 := Lib.hid hU6
            clear hU6 hU4 hU2 hU1 hU5 hpar
            rw [hU7]
            have HU7 := Lib.hid hU7
            clear hU7
            go_wp2_with ((at_builtin; refine wpList_appOC rfl _ _ 28 rfl U0.heap.size 3 i0 _ 1 8 Try.underlying28 hi hz0 hz1 hz2 rfl (by decide) intC intC_len intC_one U0.heap.size rfl HU6.out (Nat.le_refl _) (some ⟨b, 0, none⟩) c (xs.take k) k HTL.out.symm rfl HUR.out (fun h => by cases h) (by have := HTL.out; unfold maxLen; omega) (by have := HTL.out; omega) ?_; intro g' c' w' hO' hb'))
            first | exact Nrm_mk ⟨(some ⟨g', 0, none⟩, c'), rfl, hb', U0.heap.size, g', HU7.out, rfl, hO'⟩ | exact Nrm_mk ⟨some ⟨g', 0, none⟩, c', rfl, hb', U0.heap.size, g', HU7.out, rfl, hO'⟩
          simp only [Act.put]
          go_simp
          refine wpMk1_cons (some 39) rfl (.slice (σ 6).1 1 1) rfl fun K1 hK1 => ?_
          change wpQuiet _ _ _ _ (_ :: []) _
          repeat (go_big_quiet_step (fail))
          refine wpQuiet_nil ?_
          refine ⟨fun kq hpar => ?_, hK1 _ ?_⟩
          · change wpList _ _ _ (_ :: []) _ _
            go_wp2
            first | exact Nrm_mk ⟨(some ⟨kq.world.heap.size, 0, none⟩, 0), rfl, bl1 _ _, kq.world.heap.size, rfl, rfl, Blk.new _ _ _⟩ | exact Nrm_mk ⟨some ⟨kq.world.heap.size, 0, none⟩, 0, rfl, bl1 _ _, kq.world.heap.size, rfl, rfl, Blk.new _ _ _⟩
          simp only [Act.put]
          go_simp
          refine wpMk1_last ?_
          change wpQuiet _ _ _ _ (_ :: _ :: _ :: []) _
          repeat (go_big_quiet_step (fail))
          refine wpQuiet_nil ?_
          intro V0 V W hM hW
          obtain ⟨g0, g5, e0, e5, q5⟩ : ∃ g g', (σ 0).1 = some ⟨g, 0, none⟩ ∧ (σ 4).1 = some ⟨g', 0, none⟩ ∧ OwnV g 3 1 intC (V 4) (.slice (σ 4).1 (xs.take k).length (σ 4).2) (xs.take k) := hM.post 4 (by simp)
          obtain ⟨a0, _⟩ : (σ 0).1 = some ⟨(V0 0).heap.size, 0, none⟩ ∧ Blk (V 0) (V0 0).heap.size 3 #[] := hM.post 0 (by simp)
          obtain ⟨g6, e6, u6, q6⟩ : ∃ g, (σ 6).1 = some ⟨g, 0, none⟩ ∧ (V0 6).heap.size = g ∧ Blk (V 6) g 3 #[.int .i64 n] := hM.post 6 (by simp)
          have t0 : (V0 0).heap.size = g0 := by rw [a0] at e0; exact congrArg Addr.block (Option.some.inj e0)
          have O5 := (q5.later (hM.later 4 (by simp))).base (B' := w.heap.size) (by rw [← t0]; exact (hM.from0 0 (by simp)).size)
          have hB6 := q6.below (hM.later 6 (by simp)) q6.lt
          have hq2v : Below w.heap.size w W := (hM.whole 4 (by simp)).undrew
          have hq2 : Below w.heap.size w W := bth (by repeat (first | exact Below.refl _ _ | refine Below.alloc ?_ (by first | exact Nat.le_refl _ | (simp <;> omega)) _ | refine Below.setCell ?_ (by first | exact Nat.le_refl _ | (simp <;> omega)) _)) (hM.whole 4 (by simp)).undrew
          have HB : Below w.heap.size w W := hq2
          clear hM q5 q6 a0 e0 t0 u6 hW
          generalize σ 4 = p5 at *
          generalize σ 6 = p6 at *
          obtain ⟨D5, d5⟩ := p5
          obtain ⟨D6, d6⟩ := p6
          simp only at O5 e5 e6
          subst e5
          subst e6
          rw [HTL.out] at O5
          have szV := hq2v.size
          have HO5 : Hid (OwnV w.heap.size 3 1 intC W (.slice (some ⟨g5, 0, none⟩) k d5) (xs.take k)) := Lib.hid O5
          have HB9 := Lib.hid hq2v
          have HR6 := Lib.hid (rds_oneC hB6)
          clear O5 hB6
          refine wpMx_cons fun K2 hK2 => ?_
          refine wpQuiet_nil ?_
          refine wpQuiet_nil ?_
          change wpList _ _ _ (_ :: []) _ _
          go_wp2_with ((at_builtin; refine wpList_app rfl _ _ 28 rfl w.heap.size 3 i0 _ 1 8 Try.underlying28 hi hz0 hz1 hz2 rfl (by decide) intC intC_len intC_one _ (xs.take k) rfl HO5.out (some ⟨g6, 0, none⟩) 1 [n] rfl HR6.out (fun h => by cases h) (by have h2 := HTL.out; rw [h2]; unfold maxLen; simp; omega) (by have h2 := HTL.out; rw [h2]; simp; omega) szV ?_; intro v10 w10 hO10 hg10; obtain ⟨Y, yc, hv, q1, q2, q3⟩ := hO10.form intC_len; clear q1 q2 q3; rw [show (xs.take k ++ [n]).length = k + 1 by rw [List.length_append, HTL.out]; rfl] at hv; subst hv))
          have hB10 : Below w.heap.size w w10 := HB9.out.grown hg10 szV (fun q hq => (HO5.out.lt q hq).1)
          have HO10 := Lib.hid hO10
          have HRW := Lib.hid (HRR.out.below hB10)
          clear hO10 hg10
          have sz10 := hB10.size
          refine Nrm_keep ((HCC1.out _).2 hB10) (hK2 _ _ ?_)
          refine wpMx_cons fun K3 hK3 => ?_
          refine wpQuiet_nil ?_
          refine wpQuiet_nil ?_
          change wpList _ _ _ (_ :: []) _ _
          go_wp2_with ((at_builtin; refine wpList_app rfl _ _ 28 rfl w.heap.size 3 i0 _ 1 8 Try.underlying28 hi hz0 hz1 hz2 rfl (by decide) intC intC_len intC_one _ (xs.take k ++ [n]) rfl HO10.out (some ⟨b, k, none⟩) (c - k) (xs.drop k) (by rw [HRL.out]; try rfl) HRW.out (fun h => by cases h) (by have h1 := HRL.out; have h2 := HTL.out; rw [List.length_append, h1, h2]; unfold maxLen; simp; omega) (by have h1 := HRL.out; have h2 := HTL.out; rw [List.length_append, h1, h2]; simp; omega) sz10 ?_; intro v11 w11 hO11 hg11; rw [← HE.out] at hO11; obtain ⟨Y2, yc2, hv, q1, q2, q3⟩ := hO11.form intC_len; clear q1 q2 q3; subst hv))
          have hB11 : Below w.heap.size w w11 := hB10.grown hg11 sz10 (fun q hq => (HO10.out.lt q hq).1)
          obtain ⟨g9, rfl, _, _⟩ := own_block0 hO11 (by rw [HE.out]; simp <;> omega)
          refine Nrm_keep ((HCC1.out _).2 hB11) (hK3 _ _ ?_)
          refine wpMx_last ?_
          refine wpQuiet_nil ?_
          change wpQuiet _ _ _ _ (_ :: []) _
          try simp only [Act.put]
          try go_simp
          repeat (go_big_quiet_step (fail))
          refine wpQuiet_nil ?_
          go_wp2
          go_ret
          exact ⟨g9, yc2, rfl, hO11.base hBw, hB11⟩
    · obtain rfl : k = xs.length := by omega
      have HE : Hid (putL xs n = xs.take xs.length ++ [n] ++ xs.drop xs.length) := Lib.hid (putL_new HS.out (Nat.le_refl _) HL.out (fun y hy => by rw [List.getElem?_eq_none (Nat.le_refl _)] at hy; cases hy) (fun y hy => by rw [List.getElem?_eq_none (Nat.le_refl _)] at hy; cases hy))
      have HTL : Hid ((xs.take xs.length).length = xs.length) := Lib.hid (by rw [List.length_take]; omega)
      have HRL : Hid ((xs.drop xs.length).length = 0) := Lib.hid (by rw [List.length_drop]; omega)
      have HRT : Hid (Rds 1 intC w (some ⟨b, 0, none⟩) (xs.take xs.length)) := Lib.hid (rds_takeC HR.out xs.length)
      by_cases hcx : c = xs.length
      · subst hcx
        have HRR : Hid (Rds 1 intC w (some ⟨b, 0, none⟩) (xs.drop xs.length)) := Lib.hid (by rw [List.drop_of_length_le (Nat.le_refl _)]; exact Rds.nil)
        go_upto_region 6 with fail
        obtain ⟨CC1, hCC1⟩ : ∃ X : World → Prop, ∀ V, X V ↔ (Below w.heap.size w V) := ⟨_, fun _ => Iff.rfl⟩
        have HCC1 := Lib.hid hCC1; clear hCC1
        haveI : Nonempty (Hld CC1) := ⟨⟨w, ((HCC1.out _).2 ((Below.refl _ _)))⟩⟩
        refine wp_region_mky (puS xs xs.length n) CC1 [([], 0), ([1, 2, 3], 4), ([5], 6)] [8, 9, 10] [([], [], 7, false), ([], [], 11, false)] [] [12] (by kernel_rfl) (by kernel_rfl) ((HCC1.out _).2 ((Below.refl _ _).drew)) (fun W W' h k => ((HCC1.out _).2 (((HCC1.out _).1 h).trans (k.mono ((HCC1.out _).1 h).size)))) ?_
        intro σ
        refine wpMk1_cons (some 33) rfl (.slice (σ 0).1 0 0) rfl fun K1 hK1 => ?_
        change wpQuiet _ _ _ _ ([]) _
        refine wpQuiet_nil ?_
        refine ⟨fun kq hpar => ?_, hK1 _ ?_⟩
        · change wpList _ _ _ (_ :: []) _ _
          go_wp2
          first | exact Nrm_mk ⟨(some ⟨kq.world.heap.size, 0, none⟩, 0), rfl, bl1 _ _, rfl, Blk.new _ _ _⟩ | exact Nrm_mk ⟨some ⟨kq.world.heap.size, 0, none⟩, 0, rfl, bl1 _ _, rfl, Blk.new _ _ _⟩
        simp only [Act.put]
        go_simp
        refine wpMk1_cons (some 37) rfl (.slice (σ 4).1 xs.length (σ 4).2) rfl fun K1 hK1 => ?_
        change wpQuiet _ _ _ _ (_ :: _ :: _ :: []) _
        repeat (go_big_quiet_step (fail))
        refine wpQuiet_nil ?_
        refine ⟨fun kq hpar => ?_, hK1 _ ?_⟩
        · change wpList _ _ _ (_ :: []) _ _
          obtain ⟨U0, U, hU1, ⟨hU2, hU4⟩, hU5⟩ := hpar 0 (by simp [puS])
          have hU6 := hU4.below hU5 hU4.lt
          have hU7 : (σ 0).1 = some ⟨U0.heap.size, 0, none⟩ := hU2
          have HUR := Lib.hid (HRT.out.below ((HCC1.out _).1 kq.holds))
          have HU6 := Lib.hid hU6
          clear hU6 hU4 hU2 hU1 hU5 hpar
          rw [hU7]
          have HU7 := Lib.hid hU7
          clear hU7
          go_wp2_with ((at_builtin; refine wpList_appOC rfl _ _ 28 rfl U0.heap.size 3 i0 _ 1 8 Try.underlying28 hi hz0 hz1 hz2 rfl (by decide) intC intC_len intC_one U0.heap.size rfl HU6.out (Nat.le_refl _) (some ⟨b, 0, none⟩) xs.length (xs.take xs.length) xs.length HTL.out.symm rfl HUR.out (fun h => by cases h) (by have := HTL.out; unfold maxLen; omega) (by have := HTL.out; omega) ?_; intro g' c' w' hO' hb'))
          first | exact Nrm_mk ⟨(some ⟨g', 0, none⟩, c'), rfl, hb', U0.heap.size, g', HU7.out, rfl, hO'⟩ | exact Nrm_mk ⟨some ⟨g', 0, none⟩, c', rfl, hb', U0.heap.size, g', HU7.out, rfl, hO'⟩
        simp only [Act.put]
        go_simp
        refine wpMk1_cons (some 39) rfl (.slice (σ 6).1 1 1) rfl fun K1 hK1 => ?_
        change wpQuiet _ _ _ _ (_ :: []) _
        repeat (go_big_quiet_step (fail))
        refine wpQuiet_nil ?_
        refine ⟨fun kq hpar => ?_, hK1 _ ?_⟩
        · change wpList _ _ _ (_ :: []) _ _
          go_wp2
          first | exact Nrm_mk ⟨(some ⟨kq.world.heap.size, 0, none⟩, 0), rfl, bl1 _ _, kq.world.heap.size, rfl, rfl, Blk.new _ _ _⟩ | exact Nrm_mk ⟨some ⟨kq.world.heap.size, 0, none⟩, 0, rfl, bl1 _ _, kq.world.heap.size, rfl, rfl, Blk.new _ _ _⟩
        simp only [Act.put]
        go_simp
        refine wpMk1_last ?_
        change wpQuiet _ _ _ _ (_ :: _ :: _ :: []) _
        repeat (go_big_quiet_step (fail))
        refine wpQuiet_nil ?_
        intro V0 V W hM hW
        obtain ⟨g0, g5, e0, e5, q5⟩ : ∃ g g', (σ 0).1 = some ⟨g, 0, none⟩ ∧ (σ 4).1 = some ⟨g', 0, none⟩ ∧ OwnV g 3 1 intC (V 4) (.slice (σ 4).1 (xs.take xs.length).length (σ 4).2) (xs.take xs.length) := hM.post 4 (by simp)
        obtain ⟨a0, _⟩ : (σ 0).1 = some ⟨(V0 0).heap.size, 0, none⟩ ∧ Blk (V 0) (V0 0).heap.size 3 #[] := hM.post 0 (by simp)
        obtain ⟨g6, e6, u6, q6⟩ : ∃ g, (σ 6).1 = some ⟨g, 0, none⟩ ∧ (V0 6).heap.size = g ∧ Blk (V 6) g 3 #[.int .i64 n] := hM.post 6 (by simp)
        have t0 : (V0 0).heap.size = g0 := by rw [a0] at e0; exact congrArg Addr.block (Option.some.inj e0)
        have O5 := (q5.later (hM.later 4 (by simp))).base (B' := w.heap.size) (by rw [← t0]; exact (hM.from0 0 (by simp)).size)
        have hB6 := q6.below (hM.later 6 (by simp)) q6.lt
        have hq2v : Below w.heap.size w W := (hM.whole 4 (by simp)).undrew
        have hq2 : Below w.heap.size w W := bth (by repeat (first | exact Below.refl _ _ | refine Below.alloc ?_ (by first | exact Nat.le_refl _ | (simp <;> omega)) _ | refine Below.setCell ?_ (by first | exact Nat.le_refl _ | (simp <;> omega)) _)) (hM.whole 4 (by simp)).undrew
        have HB : Below w.heap.size w W := hq2
        clear hM q5 q6 a0 e0 t0 u6 hW
        generalize σ 4 = p5 at *
        generalize σ 6 = p6 at *
        obtain ⟨D5, d5⟩ := p5
        obtain ⟨D6, d6⟩ := p6
        simp only at O5 e5 e6
        subst e5
        subst e6
        rw [HTL.out] at O5
        have szV := hq2v.size
        have HO5 : Hid (OwnV w.heap.size 3 1 intC W (.slice (some ⟨g5, 0, none⟩) xs.length d5) (xs.take xs.length)) := Lib.hid O5
        have HB9 := Lib.hid hq2v
        have HR6 := Lib.hid (rds_oneC hB6)
        clear O5 hB6
        refine wpMx_cons fun K2 hK2 => ?_
        refine wpQuiet_nil ?_
        refine wpQuiet_nil ?_
        change wpList _ _ _ (_ :: []) _ _
        go_wp2_with ((at_builtin; refine wpList_app rfl _ _ 28 rfl w.heap.size 3 i0 _ 1 8 Try.underlying28 hi hz0 hz1 hz2 rfl (by decide) intC intC_len intC_one _ (xs.take xs.length) rfl HO5.out (some ⟨g6, 0, none⟩) 1 [n] rfl HR6.out (fun h => by cases h) (by have h2 := HTL.out; rw [h2]; unfold maxLen; simp; omega) (by have h2 := HTL.out; rw [h2]; simp; omega) szV ?_; intro v10 w10 hO10 hg10; obtain ⟨Y, yc, hv, q1, q2, q3⟩ := hO10.form intC_len; clear q1 q2 q3; rw [show (xs.take xs.length ++ [n]).length = xs.length + 1 by rw [List.length_append, HTL.out]; rfl] at hv; subst hv))
        have hB10 : Below w.heap.size w w10 := HB9.out.grown hg10 szV (fun q hq => (HO5.out.lt q hq).1)
        have HO10 := Lib.hid hO10
        have HRW := Lib.hid (HRR.out.below hB10)
        clear hO10 hg10
        have sz10 := hB10.size
        refine Nrm_keep ((HCC1.out _).2 hB10) (hK2 _ _ ?_)
        refine wpMx_cons fun K3 hK3 => ?_
        refine wpQuiet_nil ?_
        refine wpQuiet_nil ?_
        change wpList _ _ _ (_ :: []) _ _
        go_wp2_with ((at_builtin; refine wpList_app rfl _ _ 28 rfl w.heap.size 3 i0 _ 1 8 Try.underlying28 hi hz0 hz1 hz2 rfl (by decide) intC intC_len intC_one _ (xs.take xs.length ++ [n]) rfl HO10.out (some ⟨b, 0, none⟩) (0) (xs.drop xs.length) (by rw [HRL.out]; try rfl) HRW.out (fun h => by cases h) (by have h1 := HRL.out; have h2 := HTL.out; rw [List.length_append, h1, h2]; unfold maxLen; simp; omega) (by have h1 := HRL.out; have h2 := HTL.out; rw [List.length_append, h1, h2]; simp; omega) sz10 ?_; intro v11 w11 hO11 hg11; rw [← HE.out] at hO11; obtain ⟨Y2, yc2, hv, q1, q2, q3⟩ := hO11.form intC_len; clear q1 q2 q3; subst hv))
        have hB11 : Below w.heap.size w w11 := hB10.grown hg11 sz10 (fun q hq => (HO10.out.lt q hq).1)
        obtain ⟨g9, rfl, _, _⟩ := own_block0 hO11 (by rw [HE.out]; simp <;> omega)
        refine Nrm_keep ((HCC1.out _).2 hB11) (hK3 _ _ ?_)
        refine wpMx_last ?_
        refine wpQuiet_nil ?_
        change wpQuiet _ _ _ _ (_ :: []) _
        try simp only [Act.put]
        try go_simp
        repeat (go_big_quiet_step (fail))
        refine wpQuiet_nil ?_
        go_wp2
        go_ret
        exact ⟨g9, yc2, rfl, hO11.base hBw, hB11⟩
      · have HRR : Hid (Rds 1 intC w (some ⟨b, xs.length, none⟩) (xs.drop xs.length)) := Lib.hid (by rw [List.drop_of_length_le (Nat.le_refl _)]; exact Rds.nil)
        go_upto_region 6 with fail
        obtain ⟨CC1, hCC1⟩ : ∃ X : World → Prop, ∀ V, X V ↔ (Below w.heap.size w V) := ⟨_, fun _ => Iff.rfl⟩
        have HCC1 := Lib.hid hCC1; clear hCC1
        haveI : Nonempty (Hld CC1) := ⟨⟨w, ((HCC1.out _).2 ((Below.refl _ _)))⟩⟩
        refine wp_region_mky (puS xs xs.length n) CC1 [([], 0), ([1, 2, 3], 4), ([5], 6)] [8, 9, 10] [([], [], 7, false), ([], [], 11, false)] [] [12] (by kernel_rfl) (by kernel_rfl) ((HCC1.out _).2 ((Below.refl _ _).drew)) (fun W W' h k => ((HCC1.out _).2 (((HCC1.out _).1 h).trans (k.mono ((HCC1.out _).1 h).size)))) ?_
        intro σ
        refine wpMk1_cons (some 33) rfl (.slice (σ 0).1 0 0) rfl fun K1 hK1 => ?_
        change wpQuiet _ _ _ _ ([]) _
        refine wpQuiet_nil ?_
        refine ⟨fun kq hpar => ?_, hK1 _ ?_⟩
        · change wpList _ _ _ (_ :: []) _ _
          go_wp2
          first | exact Nrm_mk ⟨(some ⟨kq.world.heap.size, 0, none⟩, 0), rfl, bl1 _ _, rfl, Blk.new _ _ _⟩ | exact Nrm_mk ⟨some ⟨kq.world.heap.size, 0, none⟩, 0, rfl, bl1 _ _, rfl, Blk.new _ _ _⟩
        simp only [Act.put]
        go_simp
        refine wpMk1_cons (some 37) rfl (.slice (σ 4).1 xs.length (σ 4).2) rfl fun K1 hK1 => ?_
        change wpQuiet _ _ _ _ (_ :: _ :: _ :: []) _
        repeat (go_big_quiet_step (fail))
        refine wpQuiet_nil ?_
        refine ⟨fun kq hpar => ?_, hK1 _ ?_⟩
        · change wpList _ _ _ (_ :: []) _ _
          obtain ⟨U0, U, hU1, ⟨hU2, hU4⟩, hU5⟩ := hpar 0 (by simp [puS])
          have hU6 := hU4.below hU5 hU4.lt
          have hU7 : (σ 0).1 = some ⟨U0.heap.size, 0, none⟩ := hU2
          have HUR := Lib.hid (HRT.out.below ((HCC1.out _).1 kq.holds))
          have HU6 := Lib.hid hU6
          clear hU6 hU4 hU2 hU1 hU5 hpar
          rw [hU7]
          have HU7 := Lib.hid hU7
          clear hU7
          go_wp2_with ((at_builtin; refine wpList_appOC rfl _ _ 28 rfl U0.heap.size 3 i0 _ 1 8 Try.underlying28 hi hz0 hz1 hz2 rfl (by decide) intC intC_len intC_one U0.heap.size rfl HU6.out (Nat.le_refl _) (some ⟨b, 0, none⟩) c (xs.take xs.length) xs.length HTL.out.symm rfl HUR.out (fun h => by cases h) (by have := HTL.out; unfold maxLen; omega) (by have := HTL.out; omega) ?_; intro g' c' w' hO' hb'))
          first | exact Nrm_mk ⟨(some ⟨g', 0, none⟩, c'), rfl, hb', U0.heap.size, g', HU7.out, rfl, hO'⟩ | exact Nrm_mk ⟨some ⟨g', 0, none⟩, c', rfl, hb', U0.heap.size, g', HU7.out, rfl, hO'⟩
        simp only [Act.put]
        go_simp
        refine wpMk1_cons (some 39) rfl (.slice (σ 6).1 1 1) rfl fun K1 hK1 => ?_
        change wpQuiet _ _ _ _ (_ :: []) _
        repeat (go_big_quiet_step (fail))
        refine wpQuiet_nil ?_
        refine ⟨fun kq hpar => ?_, hK1 _ ?_⟩
        · change wpList _ _ _ (_ :: []) _ _
          go_wp2
          first | exact Nrm_mk ⟨(some ⟨kq.world.heap.size, 0, none⟩, 0), rfl, bl1 _ _, kq.world.heap.size, rfl, rfl, Blk.new _ _ _⟩ | exact Nrm_mk ⟨some ⟨kq.world.heap.size, 0, none⟩, 0, rfl, bl1 _ _, kq.world.heap.size, rfl, rfl, Blk.new _ _ _⟩
        simp only [Act.put]
        go_simp
        refine wpMk1_last ?_
        change wpQuiet _ _ _ _ (_ :: _ :: _ :: []) _
        repeat (go_big_quiet_step (fail))
        refine wpQuiet_nil ?_
        intro V0 V W hM hW
        obtain ⟨g0, g5, e0, e5, q5⟩ : ∃ g g', (σ 0).1 = some ⟨g, 0, none⟩ ∧ (σ 4).1 = some ⟨g', 0, none⟩ ∧ OwnV g 3 1 intC (V 4) (.slice (σ 4).1 (xs.take xs.length).length (σ 4).2) (xs.take xs.length) := hM.post 4 (by simp)
        obtain ⟨a0, _⟩ : (σ 0).1 = some ⟨(V0 0).heap.size, 0, none⟩ ∧ Blk (V 0) (V0 0).heap.size 3 #[] := hM.post 0 (by simp)
        obtain ⟨g6, e6, u6, q6⟩ : ∃ g, (σ 6).1 = some ⟨g, 0, none⟩ ∧ (V0 6).heap.size = g ∧ Blk (V 6) g 3 #[.int .i64 n] := hM.post 6 (by simp)
        have t0 : (V0 0).heap.size = g0 := by rw [a0] at e0; exact congrArg Addr.block (Option.some.inj e0)
        have O5 := (q5.later (hM.later 4 (by simp))).base (B' := w.heap.size) (by rw [← t0]; exact (hM.from0 0 (by simp)).size)
        have hB6 := q6.below (hM.later 6 (by simp)) q6.lt
        have hq2v : Below w.heap.size w W := (hM.whole 4 (by simp)).undrew
        have hq2 : Below w.heap.size w W := bth (by repeat (first | exact Below.refl _ _ | refine Below.alloc ?_ (by first | exact Nat.le_refl _ | (simp <;> omega)) _ | refine Below.setCell ?_ (by first | exact Nat.le_refl _ | (simp <;> omega)) _)) (hM.whole 4 (by simp)).undrew
        have HB : Below w.heap.size w W := hq2
        clear hM q5 q6 a0 e0 t0 u6 hW
        generalize σ 4 = p5 at *
        generalize σ 6 = p6 at *
        obtain ⟨D5, d5⟩ := p5
        obtain ⟨D6, d6⟩ := p6
        simp only at O5 e5 e6
        subst e5
        subst e6
        rw [HTL.out] at O5
        have szV := hq2v.size
        have HO5 : Hid (OwnV w.heap.size 3 1 intC W (.slice (some ⟨g5, 0, none⟩) xs.length d5) (xs.take xs.length)) := Lib.hid O5
        have HB9 := Lib.hid hq2v
        have HR6 := Lib.hid (rds_oneC hB6)
        clear O5 hB6
        refine wpMx_cons fun K2 hK2 => ?_
        refine wpQuiet_nil ?_
        refine wpQuiet_nil ?_
        change wpList _ _ _ (_ :: []) _ _
        go_wp2_with ((at_builtin; refine wpList_app rfl _ _ 28 rfl w.heap.size 3 i0 _ 1 8 Try.underlying28 hi hz0 hz1 hz2 rfl (by decide) intC intC_len intC_one _ (xs.take xs.length) rfl HO5.out (some ⟨g6, 0, none⟩) 1 [n] rfl HR6.out (fun h => by cases h) (by have h2 := HTL.out; rw [h2]; unfold maxLen; simp; omega) (by have h2 := HTL.out; rw [h2]; simp; omega) szV ?_; intro v10 w10 hO10 hg10; obtain ⟨Y, yc, hv, q1, q2, q3⟩ := hO10.form intC_len; clear q1 q2 q3; rw [show (xs.take xs.length ++ [n]).length = xs.length + 1 by rw [List.length_append, HTL.out]; rfl] at hv; subst hv))
        have hB10 : Below w.heap.size w w10 := HB9.out.grown hg10 szV (fun q hq => (HO5.out.lt q hq).1)
        have HO10 := Lib.hid hO10
        have HRW := Lib.hid (HRR.out.below hB10)
        clear hO10 hg10
        have sz10 := hB10.size
        refine Nrm_keep ((HCC1.out _).2 hB10) (hK2 _ _ ?_)
        refine wpMx_cons fun K3 hK3 => ?_
        refine wpQuiet_nil ?_
        refine wpQuiet_nil ?_
        change wpList _ _ _ (_ :: []) _ _
        go_wp2_with ((at_builtin; refine wpList_app rfl _ _ 28 rfl w.heap.size 3 i0 _ 1 8 Try.underlying28 hi hz0 hz1 hz2 rfl (by decide) intC intC_len intC_one _ (xs.take xs.length ++ [n]) rfl HO10.out (some ⟨b, xs.length, none⟩) (c - xs.length) (xs.drop xs.length) (by rw [HRL.out]; try rfl) HRW.out (fun h => by cases h) (by have h1 := HRL.out; have h2 := HTL.out; rw [List.length_append, h1, h2]; unfold maxLen; simp; omega) (by have h1 := HRL.out; have h2 := HTL.out; rw [List.length_append, h1, h2]; simp; omega) sz10 ?_; intro v11 w11 hO11 hg11; rw [← HE.out] at hO11; obtain ⟨Y2, yc2, hv, q1, q2, q3⟩ := hO11.form intC_len; clear q1 q2 q3; subst hv))
        have hB11 : Below w.heap.size w w11 := hB10.grown hg11 sz10 (fun q hq => (HO10.out.lt q hq).1)
        obtain ⟨g9, rfl, _, _⟩ := own_block0 hO11 (by rw [HE.out]; simp <;> omega)
        refine Nrm_keep ((HCC1.out _).2 hB11) (hK3 _ _ ?_)
        refine wpMx_last ?_
        refine wpQuiet_nil ?_
        change wpQuiet _ _ _ _ (_ :: []) _
        try simp only [Act.put]
        try go_simp
        repeat (go_big_quiet_step (fail))
        refine wpQuiet_nil ?_
        go_wp2
        go_ret
        exact ⟨g9, yc2, rfl, hO11.base hBw, hB11⟩
end Go.Proofs.Ytndenojanflkgaa
