/- Clauses: closures (the reference). -/
import Derived.Test.YtndenojanflkgaaCl14
import Derived.Test.YtndenojanflkgaaCl7
import Derived.Test.YtndenojanflkgaaCl6
import Derived.Test.YtndenojanflkgaaCl5
import Derived.Deep.Cut
import Derived.Outline
namespace Go.Proofs.Ytndenojanflkgaa
open Go.RowKit Go.G9
theorem asc_pwC {xs : List Int} {lo hi : Int} (h : ascB xs lo hi = true) : xs.Pairwise (· < ·) := by
  have at_ : ∀ j, j + 1 < xs.length → ∀ y x, xs[j]? = some y → xs[j + 1]? = some x → y < x := fun j hj y x hy hx => by
    have h0 := allTo_iff.1 h (j + 1) hj
    simp only [ascStep, hy, hx, Bool.and_eq_true, decide_eq_true_eq] at h0
    exact h0.2
  rw [List.pairwise_iff_getElem]
  intro i j hi' hj hij
  induction j with
  | zero => omega
  | succ j ih =>
    have h1 := at_ j hj _ _ (List.getElem?_eq_getElem (by omega)) (List.getElem?_eq_getElem hj)
    by_cases e : i = j
    · subst e; exact h1
    · have := ih (by omega) (by omega); omega
/-- The reference's closure within one clause: its first q needs put. -/
def scQ (nd : Nat → List Int) (n : Nat) (ws : List Int) (j : Nat) (ns : List Int) (q : Nat) : List Int := putsL (scN nd n ws j) (ns.take q)
theorem scQ_succ {nd : Nat → List Int} {n : Nat} {ws : List Int} {j : Nat} {ns : List Int} {q : Nat} {x : Int} (h : ns[q]? = some x) : scQ nd n ws j ns (q + 1) = putL (scQ nd n ws j ns q) x := by
  unfold scQ putsL
  rw [List.take_add_one, h, List.foldl_append]
  rfl
theorem putsL_len {ns : List Int} : ∀ {l : List Int}, (putsL l ns).length ≤ l.length + ns.length := by
  induction ns with
  | nil => intro l; exact Nat.le_refl _
  | cons a ns ih =>
    intro l
    have h1 := ih (l := putL l a)
    have h2 := putL_len (l := l) (n := a)
    rw [putsL, List.foldl_cons, ← putsL, List.length_cons]
    omega
theorem sorted_len {l : List Int} {n : Nat} (h : l.Pairwise (· < ·)) (hb : ∀ x, x ∈ l → 0 ≤ x ∧ x < (n : Int)) : l.length ≤ n := by
  have e : l = chN (fun k => hasB l k) n := by
    refine sortedC_ext h (chN_pw _ _) fun x => ?_
    rw [chN_mem]
    constructor
    · intro hx
      have := hb x hx
      exact ⟨x.toNat, by omega, by omega, by rw [hasC_mem, Int.toNat_of_nonneg this.1]; exact hx⟩
    · rintro ⟨k, rfl, _, hk⟩
      exact hasC_mem.1 hk
  have := chN_len (fun k => hasB l k) n
  rw [← e] at this
  exact this
set_option maxHeartbeats 4000000 in
set_option maxRecDepth 100000 in
theorem sClosure_is (A : Option Addr) (c : Nat) (xs : List Cla) (D : Option Addr) (d : Nat) (ds : List Int) (hl : ds.length ≤ 1000) (hN : D = none → ds = [] ∧ d = 0) (w : World) (hR : ClR w A xs) (hD : Rds 1 intC w D ds) :
  Calls Try.prog 21 #[.slice A xs.length c, .slice D ds.length d] w fun e w' => ∃ Y y, e = .returned (.tuple #[.slice Y (clO xs ds).length y, .bool (cloB xs ds)]) ∧ OwnV w.heap.size 3 1 intC w' (.slice Y (clO xs ds).length y) (clO xs ds) ∧ Below w.heap.size w w' := by
  have hn := hR.len
  have HR := Lib.hid hR; have HD := Lib.hid hD; have HN := Lib.hid hN; clear hR hD hN
  cases hv : cloB xs ds
  · rw [clO_no hv]
    unfold cloB at hv
    cases h1 : claB xs
    · have H1 := Lib.hid h1; clear h1 hv
      go_enter Try.func21, Try.ntmps21
      go_wp2_with fail
      refine (l19Good_is A c xs _ H1.out _ HR.out).mono ?_
      rintro e w1 ⟨rfl, hb1⟩
      have hq1 : Below w.heap.size w w1 := bth (by repeat (first | exact Below.refl _ _ | refine Below.alloc ?_ (by first | exact Nat.le_refl _ | (simp <;> omega)) _ | refine Below.setCell ?_ (by first | exact Nat.le_refl _ | (simp <;> omega)) _)) hb1
      have HB : Below w.heap.size w w1 := hq1
      have s1 := HB.size
      have hO := (OwnV.made (f := intC) (sz := 1) w1 (B := w1.heap.size) (Nat.le_refl _) 3).base (B' := w.heap.size) s1
      go_wp2
      go_ret2
      exact ⟨_, 0, rfl, hO, bth HB (bl1 _ _)⟩
    · rw [h1, Bool.true_and] at hv
      have H1 := Lib.hid h1; have HV := Lib.hid hv; clear h1 hv
      go_enter Try.func21, Try.ntmps21
      go_wp2_with fail
      refine (l19Good_is A c xs _ H1.out _ HR.out).mono ?_
      rintro e w1 ⟨rfl, hb1⟩
      have hq1 : Below w.heap.size w w1 := bth (by repeat (first | exact Below.refl _ _ | refine Below.alloc ?_ (by first | exact Nat.le_refl _ | (simp <;> omega)) _ | refine Below.setCell ?_ (by first | exact Nat.le_refl _ | (simp <;> omega)) _)) hb1
      have HB : Below w.heap.size w w1 := hq1
      go_wp2_with fail
      refine (l1Rising_is D d ds 0 ((xs.length : Int) - 1) (by omega) _ HV.out _ (HD.out.below HB)).mono ?_
      rintro e w2 ⟨rfl, hb2⟩
      have hq2 : Below w1.heap.size w1 w2 := bth (by repeat (first | exact Below.refl _ _ | refine Below.alloc ?_ (by first | exact Nat.le_refl _ | (simp <;> omega)) _ | refine Below.setCell ?_ (by first | exact Nat.le_refl _ | (simp <;> omega)) _)) hb2
      replace HB := bth HB hq2
      have s1 := HB.size
      have hO := (OwnV.made (f := intC) (sz := 1) w2 (B := w2.heap.size) (Nat.le_refl _) 3).base (B' := w.heap.size) s1
      go_wp2
      go_ret2
      exact ⟨_, 0, rfl, hO, bth HB (bl1 _ _)⟩
  · simp only [cloB, Bool.and_eq_true] at hv
    obtain ⟨h1, h2⟩ := hv
    have hw : ∀ x, x ∈ ds → 0 ≤ x ∧ x < (xs.length : Int) := fun x hx => by have := asc_memC h2 x hx; omega
    have hpw := asc_pwC h2
    have hBk := claB_bk h1
    have HCO : Hid (clO xs ds = scN (ndF xs) xs.length ds xs.length) := Lib.hid (by rw [clO_yes (by rw [cloB, h1, h2]; rfl), closures hBk hpw hw])
    rw [HCO.out]
    have HSP : Hid (∀ j, (scN (ndF xs) xs.length ds j).Pairwise (· < ·)) := Lib.hid (fun j => scN_pw hpw j)
    have HSL : Hid (∀ j, (scN (ndF xs) xs.length ds j).length ≤ xs.length) := Lib.hid (fun j => sorted_len (scN_pw hpw j) (fun x hx => by have := scN_sound hBk hw j x hx; exact ⟨this.1, this.2.1⟩))
    have HSB : Hid (∀ j x, x ∈ scN (ndF xs) xs.length ds j → 0 ≤ x ∧ x < (xs.length : Int)) := Lib.hid (fun j x hx => by have := scN_sound hBk hw j x hx; exact ⟨this.1, this.2.1⟩)
    have H1 := Lib.hid h1; have H2 := Lib.hid h2; clear h1 h2 hw hpw hBk
    go_enter Try.func21, Try.ntmps21
    go_wp2_with fail
    refine (l19Good_is A c xs _ H1.out _ HR.out).mono ?_
    rintro e w1 ⟨rfl, hb1⟩
    have hq1 : Below w.heap.size w w1 := bth (by repeat (first | exact Below.refl _ _ | refine Below.alloc ?_ (by first | exact Nat.le_refl _ | (simp <;> omega)) _ | refine Below.setCell ?_ (by first | exact Nat.le_refl _ | (simp <;> omega)) _)) hb1
    have HB : Below w.heap.size w w1 := hq1
    go_wp2_with fail
    refine (l1Rising_is D d ds 0 ((xs.length : Int) - 1) (by omega) _ H2.out _ (HD.out.below HB)).mono ?_
    rintro e w2 ⟨rfl, hb2⟩
    have hq2 : Below w1.heap.size w1 w2 := bth (by repeat (first | exact Below.refl _ _ | refine Below.alloc ?_ (by first | exact Nat.le_refl _ | (simp <;> omega)) _ | refine Below.setCell ?_ (by first | exact Nat.le_refl _ | (simp <;> omega)) _)) hb2
    replace HB := bth HB hq2
    go_wp2_with fail
    refine (l1Own_is D d ds (by omega) HN.out _ (HD.out.below HB)).mono ?_
    rintro e w3 ⟨Y, y, rfl, O, hb3⟩
    have hq3 : Below w2.heap.size w2 w3 := bth (by repeat (first | exact Below.refl _ _ | refine Below.alloc ?_ (by first | exact Nat.le_refl _ | (simp <;> omega)) _ | refine Below.setCell ?_ (by first | exact Nat.le_refl _ | (simp <;> omega)) _)) hb3
    replace HB := bth HB hq3
    have s1 := hq1.size; have s2 := hq2.size
    have HO : Hid (OwnV w.heap.size 3 1 intC w3 (.slice Y ds.length y) ds) := Lib.hid (O.base (by omega))
    have HBX := Lib.hid HB
    clear O s1 s2 hq1 hq2 hq3 hb1 hb2 hb3
    generalize w3 = wS at *
    go_wp2
    go_loopw [6, 7] (fun o v wr => ∃ (m : Nat) (z : Int), m ≤ xs.length ∧ v = .int .i64 z ∧ z = (m : Int) - 1 ∧ OwnV w.heap.size 3 1 intC wr o (scN (ndF xs) xs.length ds (xs.length - m)) ∧ Below w.heap.size w wr) (fun _ v _ => (intOf v + 1).toNat)
    case atStart => exact ⟨xs.length, _, Nat.le_refl _, rfl, rfl, by rw [Nat.sub_self]; exact HO.out, HBX.out⟩
    case round =>
      clear HO HBX HB
      obtain ⟨m, z, hm, rfl, hz, O, HB⟩ := hrel
      obtain ⟨Y, y, hYe, hyc, _, _⟩ := O.form intC_len
      subst hYe
      cases m with
      | zero =>
        have hd : decide ((0 : Int) ≤ z) = false := decide_eq_false (by omega)
        rw [Nat.sub_zero] at O
        go_wp2
        go_ret2
        exact ⟨Y, y, rfl, O, HB⟩
      | succ k =>
        obtain rfl : z = (k : Int) := by omega
        clear hz
        have hkn : k < xs.length := by omega
        obtain ⟨j, hj⟩ : ∃ j, j = xs.length - (k + 1) := ⟨_, rfl⟩
        rw [← hj] at O hyc ⊢
        have hjk : xs.length - 1 - j = k := by omega
        have hj1 : xs.length - k = j + 1 := by omega
        have HJ1 := Lib.hid hj1
        have hx := List.getElem?_eq_getElem hkn
        generalize xs[k] = x at hx
        have hok := HR.out.ok x (List.mem_of_getElem? hx)
        have hnx : ndF xs k = x.needs := ndF_at hx
        have hnd := claB_needs H1.out hx
        have lns : x.needs.length ≤ 1000 := hok.ln
        have HNN : Hid (Rds 1 intC w x.na x.needs) := Lib.hid hok.rn
        have HX := Lib.hid hx
        have HND := Lib.hid hnd
        have hsl := HSL.out j
        obtain ⟨hs, hhs⟩ : ∃ b, hasB (scN (ndF xs) xs.length ds j) (k : Int) = b := ⟨_, rfl⟩
        have hsN : scN (ndF xs) xs.length ds (j + 1) = if hs then scQ (ndF xs) xs.length ds j x.needs x.needs.length else scN (ndF xs) xs.length ds j := by
          rw [scN, hjk, hhs, hnx]
          unfold scQ
          rw [List.take_length]
        have HSN := Lib.hid hsN
        have HHS := Lib.hid hhs
        have HQP : Hid (∀ q, (scQ (ndF xs) xs.length ds j x.needs q).Pairwise (· < ·)) := Lib.hid (fun q => putsL_pw (HSP.out j))
        have HQL : Hid (∀ q, (scQ (ndF xs) xs.length ds j x.needs q).length ≤ xs.length) := Lib.hid (fun q => sorted_len (HQP.out q) (fun y hy => by
          rcases putsL_mem.1 hy with h | h
          · have := HND.out y (List.mem_of_mem_take h); omega
          · exact HSB.out j y h))
        have HQH : Hid (hs = true → ∀ q, hasB (scQ (ndF xs) xs.length ds j x.needs q) (k : Int) = true) := Lib.hid (fun h q => hasC_mem.2 (putsL_mem.2 (Or.inr (hasC_mem.1 (by rw [HHS.out, h])))))
        have HQS : Hid (∀ q x2, x.needs[q]? = some x2 → scQ (ndF xs) xs.length ds j x.needs (q + 1) = putL (scQ (ndF xs) xs.length ds j x.needs q) x2) := Lib.hid (fun q x2 h => scQ_succ h)
        have HQZ : Hid (scQ (ndF xs) xs.length ds j x.needs 0 = scN (ndF xs) xs.length ds j) := Lib.hid rfl
        obtain ⟨b, off, _, hAe, hbl, _, _⟩ := HR.out.rds.at_ (Below.refl _ _) hkn
        subst hAe
        obtain ⟨wa, wc, ws, na, nc, ns⟩ := x
        generalize scQ (ndF xs) xs.length ds j ns = SQ at *
        generalize scN (ndF xs) xs.length ds j = S0 at *
        have lns2 : ns.length ≤ 1000 := lns
        clear hok hnx hnd hhs hsN hx lns hjk
        cases hs
        case false =>
          go_wp2
          go_loopw [6, 8] (fun o v wr2 => v = .int .i64 0 ∧ o = .slice Y S0.length y ∧ OwnV w.heap.size 3 1 intC wr2 (.slice Y S0.length y) S0 ∧ Below w.heap.size w wr2) (fun _ v _ => 0)
          case atStart => exact ⟨rfl, rfl, O, HB⟩
          case round =>
            clear O HB
            obtain ⟨rfl, rfl, O, HB⟩ := hrel
            obtain ⟨hbw, g1⟩ := rd_cellC (HR.out.rds.below HB) HX.out (i := 1) (u := .slice na ns.length nc) rfl
            have hx1 : (xs.length - k) = j + 1 := HJ1.out
            by_cases h0 : 0 < ns.length
            · go_wp2_with (go_at_call 32; refine (l1Has_is Y y S0 (k : Int) (by omega) _ HHS.out _ (O.rds intC_len)).mono ?_; rintro e w' ⟨rfl, hb'⟩)
              go_roundw
              case rel => exact ⟨k, _, by omega, by go_num, rfl, by rw [HJ1.out, HSN.out]; exact O.later hb', bth HB hb'⟩
              case measure => simp [intOf] <;> omega
            · have hn0 : ns.length = 0 := by omega
              go_wp2
              go_roundw
              case rel => exact ⟨k, _, by omega, by go_num, rfl, by rw [HJ1.out, HSN.out]; exact O, HB⟩
              case measure => simp [intOf] <;> omega
        case true =>
          rw [← HQZ.out] at O
          have HOO := Lib.hid O
          have HBB := Lib.hid HB
          have HYY : Hid (S0.length = (SQ 0).length) := Lib.hid (by rw [HQZ.out])
          clear O HB
          rw [HYY.out]
          go_wp2
          go_loopw [6, 8] (fun o v wr2 => ∃ q : Nat, q ≤ ns.length ∧ v = .int .i64 q ∧ OwnV w.heap.size 3 1 intC wr2 o (SQ q) ∧ Below w.heap.size w wr2) (fun _ v _ => ns.length - (intOf v).toNat)
          case atStart => exact ⟨0, Nat.zero_le _, rfl, HOO.out, HBB.out⟩
          case round =>
            obtain ⟨q, hq, rfl, O, HB⟩ := hrel
            obtain ⟨Y1, y1, hYe, hyc1, _, _⟩ := O.form intC_len
            subst hYe
            obtain ⟨hbw, g1⟩ := rd_cellC (HR.out.rds.below HB) HX.out (i := 1) (u := .slice na ns.length nc) rfl
            have hql := HQL.out q
            by_cases h0 : q < ns.length
            · obtain ⟨b2, o2, z, rfl, hb2, hz, hcz⟩ := HNN.out.at_ HB h0
              have f0 := hcz 0 _ rfl
              simp only [Nat.mul_one, Nat.add_zero] at f0
              have HZ := Lib.hid hz
              have hpos : 0 < (SQ q).length := by
                have := hasC_mem.1 (HQH.out (by trivial) q)
                exact List.length_pos_of_mem this
              obtain ⟨g, rfl, _, _⟩ := own_block0 O hpos
              clear hcz hz
              go_wp2_with fail
              refine (l1Has_is (some ⟨g, 0, none⟩) y1 (SQ q) (k : Int) (by omega) _ (HQH.out (by trivial) q) _ (O.rds intC_len)).mono ?_
              rintro e w4 ⟨rfl, hb4⟩
              have hq4 : Below wr.heap.size wr w4 := bth (by repeat (first | exact Below.refl _ _ | refine Below.alloc ?_ (by first | exact Nat.le_refl _ | (simp <;> omega)) _ | refine Below.setCell ?_ (by first | exact Nat.le_refl _ | (simp <;> omega)) _)) hb4
              replace HB := bth HB hq4
              replace O := O.later hq4
              obtain ⟨_, g1'⟩ := rd_cellC (HR.out.rds.below HB) HX.out (i := 1) (u := .slice (some ⟨b2, o2, none⟩) ns.length nc) rfl
              obtain ⟨_, g0'⟩ := rd_cellC (HNN.out.below HB) HZ.out (i := 0) (u := .int .i64 z) rfl
              simp only [Nat.mul_one, Nat.add_zero] at g0'
              clear g1 f0
              go_wp2_with fail
              refine (l1Put_is g y1 (SQ q) z hpos (by omega) hyc1 (HQP.out q) w.heap.size _ HB.size O).mono ?_
              rintro e w5 ⟨Y2, y2, rfl, O2, hb5⟩
              have hq5 : Below w4.heap.size w4 w5 := bth (by repeat (first | exact Below.refl _ _ | refine Below.alloc ?_ (by first | exact Nat.le_refl _ | (simp <;> omega)) _ | refine Below.setCell ?_ (by first | exact Nat.le_refl _ | (simp <;> omega)) _)) hb5
              replace HB := bth HB hq5
              have hqs := HQS.out q z HZ.out
              rw [← hqs] at O2
              have HQQ := Lib.hid hqs
              go_wp2
              go_roundw
              case rel => exact ⟨q + 1, by omega, by go_num, by rw [HQQ.out] at O2 ⊢; exact O2, HB⟩
              case measure => simp [intOf]; omega
            · obtain rfl : q = ns.length := by omega
              go_wp2
              go_roundw
              case rel => exact ⟨k, _, by omega, by go_num, rfl, by rw [HJ1.out, HSN.out]; exact O, HB⟩
              case measure => simp [intOf] <;> omega
end Go.Proofs.Ytndenojanflkgaa
/- Two sides drawn by the cursor. -/
namespace Go.G9
open Go.RowKit
/-- Numbers that lie in the blocks from lo to hi. -/
structure Seg (lo hi : Nat) (w : World) (A : Option Addr) (c : Nat) (xs : List Int) : Prop where
  rds : Rds 1 intC w A xs
  nil : A = none → xs = [] ∧ c = 0
  rng : ∀ ad, A = some ad → 0 < xs.length → lo ≤ ad.block ∧ ad.block < hi
theorem Seg.kept {lo hi : Nat} {w w' : World} {A : Option Addr} {c : Nat} {xs : List Int} (h : Seg lo hi w A c xs) {row : Option Nat} (hg : w.grownBy w' row) (hr : ∀ k, row = some k → k < lo ∨ hi ≤ k) : Seg lo hi w' A c xs := by
  refine ⟨?_, h.nil, h.rng⟩
  by_cases hn : 0 < xs.length
  · exact h.rds.grown hg (fun ad ha e => by
      have h1 := h.rng ad ha hn
      rcases hr _ e.symm with h2 | h2 <;> omega)
  · have : xs = [] := List.length_eq_zero_iff.1 (by omega)
    subst this; exact Rds.nil
theorem Seg.of {B : Nat} {e : TypeId} {w : World} {A : Option Addr} {c : Nat} {xs : List Int} (h : OwnV B e 1 intC w (.slice A xs.length c) xs) : Seg B w.heap.size w A c xs :=
  ⟨h.rds, h.nilOk, fun ad ha _ => h.lt ad.block (by rw [ha]; rfl)⟩
theorem Seg.wide {lo hi lo' hi' : Nat} {w : World} {A : Option Addr} {c : Nat} {xs : List Int} (h : Seg lo hi w A c xs) (h1 : lo' ≤ lo) (h2 : hi ≤ hi') : Seg lo' hi' w A c xs :=
  ⟨h.rds, h.nil, fun ad ha hn => by have := h.rng ad ha hn; omega⟩
theorem grown_row2 {w w1 w2 : World} {p : Nat} {row : Option Nat} (h : w.grownBy w1 (some p)) (k : w1.grownBy w2 row) (hr : ∀ g, row = some g → w.heap.size ≤ g) : w.grownBy w2 (some p) :=
  ⟨k.os.trans h.os, k.tape.trans h.tape, k.output.trans h.output, Nat.le_trans h.size k.size, fun i hi hne =>
    (k.block i (Nat.lt_of_lt_of_le hi h.size) (fun e => by have := hr i e.symm; omega)).trans (h.block i hi hne)⟩
/-- Two slices of the call's own. -/
structure Two (B : Nat) (e : TypeId) (w : World) (y n : Value) (ys ns : List Int) : Prop where
  oy : OwnV B e 1 intC w y ys
  on : OwnV B e 1 intC w n ns
  ne : Ne2 y n
section
variable {B : Nat} {e : TypeId} {w w' : World} {y n : Value} {ys ns : List Int}
theorem Two.kept (h : Two B e w y n ys ns) {p : Nat} (hg : w.grownBy w' (some p)) (hp : p < B) : Two B e w' y n ys ns :=
  ⟨h.oy.kept hg (fun k hk e => by have := (h.oy.lt k hk).1; have := Option.some.inj e; omega), h.on.kept hg (fun k hk e => by have := (h.on.lt k hk).1; have := Option.some.inj e; omega), h.ne⟩
theorem Two.alloc (h : Two B e w y n ys ns) (o : Obj) : Two B e (w.alloc o) y n ys ns := ⟨h.oy.alloc o, h.on.alloc o, h.ne⟩
theorem Two.addY (h : Two B e w y n ys ns) {y' : Value} {x : Int} (h1 : OwnV B e 1 intC w' y' (ys ++ [x])) (hg : w.grownBy w' y.ownBlock) (ha : y'.ownBlock = y.ownBlock ∨ y'.ownBlock = some w.heap.size) : Two B e w' y' n (ys ++ [x]) ns :=
  ⟨h1, h.on.ne hg h.ne, h.ne.step (fun k hk => (h.on.lt k hk).2) ha⟩
theorem Two.addN (h : Two B e w y n ys ns) {n' : Value} {x : Int} (h1 : OwnV B e 1 intC w' n' (ns ++ [x])) (hg : w.grownBy w' n.ownBlock) (ha : n'.ownBlock = n.ownBlock ∨ n'.ownBlock = some w.heap.size) : Two B e w' y n' ys (ns ++ [x]) :=
  ⟨h.oy.ne hg h.ne.symm, h1, (h.ne.symm.step (fun k hk => (h.oy.lt k hk).2) ha).symm⟩
end
end Go.G9
namespace Go.Proofs.Ytndenojanflkgaa
open Go.RowKit Go.G9
theorem Cur.row {w w' : World} {p : Nat} {A : Option Addr} {c : Nat} {cs : List UInt8} {N : Nat} (h : Cur w p A c cs N) {row : Option Nat} (hg : w.grownBy w' row) (hr : ∀ k, row = some k → p < k) : Cur w' p A c cs N := by
  obtain ⟨⟨i, s, hB, h0, h1⟩, hR, hlo⟩ := h
  refine ⟨⟨i, s, (hg.block p hB.lt (fun e => by have := hr p e.symm; omega)).trans hB, h0, h1⟩, ?_, hlo⟩
  by_cases hn : 0 < cs.length
  · exact hR.grown hg (fun ad ha e => by have h1 := hlo ad ha hn; have h2 := hr _ e.symm; omega)
  · have : cs = [] := List.length_eq_zero_iff.1 (by omega)
    subst this; exact Rds.nil
theorem built_rdsV (w : World) (xs : List Int) (hm : xs.length ≤ maxLen) : Rds 1 intC (w.alloc (.cells (xs.flatMap intC).toArray 3)) (some ⟨w.heap.size, 0, none⟩) xs := (OwnV.built (B := w.heap.size) (f := intC) w xs 3 (Nat.le_refl _) hm intC_len).rds (hf := intC_len)
end Go.Proofs.Ytndenojanflkgaa
/- The cursor's draws of reports: a word. -/
namespace Go.Proofs.Ytndenojanflkgaa
open Go.RowKit Go.G9
theorem built_rdsO (w : World) (xs : List ByteArray) (hm : xs.length ≤ maxLen) : Rds 1 bC (w.alloc (.cells (xs.flatMap bC).toArray 9)) (some ⟨w.heap.size, 0, none⟩) xs := (OwnV.ofBlk (B := w.heap.size) (cap := xs.length) (Blk.new w 9 _) (Nat.le_refl _) (Nat.le_refl _) hm (by simp [flat_len bC_len]) (fun i x hx j u hu => by simpa using flat_get bC_len xs i x hx j u hu) bC_len).rds (hf := bC_len)
theorem built_rdsQ (w : World) (xs : List Int) (hm : xs.length ≤ maxLen) : Rds 1 intC (w.alloc (.cells (xs.flatMap intC).toArray 3)) (some ⟨w.heap.size, 0, none⟩) xs := (OwnV.ofBlk (B := w.heap.size) (cap := xs.length) (Blk.new w 3 _) (Nat.le_refl _) (Nat.le_refl _) hm (by simp [flat_len intC_len]) (fun i x hx j u hu => by simpa using flat_get intC_len xs i x hx j u hu) intC_len).rds (hf := intC_len)
end Go.Proofs.Ytndenojanflkgaa
