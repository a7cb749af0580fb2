/- Clauses: dependents and closures (the program). -/
import Derived.Test.YtndenojanflkgaaCl10
namespace Go.Proofs.Ytndenojanflkgaa
open Go.RowKit Go.G9
theorem blF_at' {n : Nat} {p : Nat → Bool} {k : Nat} {b : Bool} (h : k < n) (hb : p k = b) : (blF n p)[k]? = some b := by rw [blF_at h, hb]
theorem setT {n : Nat} {p q : Nat → Bool} {k : Nat} (h : ∀ x, q x = (p x || decide (x = k))) : (blF n p).set k true = blF n q := by
  rw [blF_set]
  refine blF_congr fun x _ => ?_
  rw [h]
  by_cases e : x = k
  · simp [e]
  · simp [e]
/-- What dependsOn marks within one clause's needs. -/
def dpQ (nd : Nat → List Int) (i j : Nat) (ns : List Int) (q x : Nat) : Bool := dpF nd i j x || hasB (ns.take q) x
theorem hasB_take {ns : List Int} {q : Nat} {m : Nat} (h : ns[q]? = some (m : Int)) (x : Nat) : hasB (ns.take (q + 1)) x = (hasB (ns.take q) x || decide (x = m)) := by
  rw [List.take_add_one, h]
  unfold hasB
  rw [List.any_append]
  congr 1
  simp only [Option.toList_some, List.any_cons, List.any_nil, Bool.or_false]
  rw [Bool.eq_iff_iff, beq_iff_eq, decide_eq_true_eq]
  omega
theorem dpQ_succ {nd : Nat → List Int} {i j : Nat} {ns : List Int} {n q m : Nat} (h : ns[q]? = some (m : Int)) : (blF n (dpQ nd i j ns q)).set m true = blF n (dpQ nd i j ns (q + 1)) :=
  setT fun x => by unfold dpQ; rw [hasB_take h, Bool.or_assoc]
theorem dpQ_zero (nd : Nat → List Int) (i j : Nat) (ns : List Int) : dpQ nd i j ns 0 = dpF nd i j := by
  funext x; simp [dpQ, hasB]
theorem dpQ_all {nd : Nat → List Int} {i j : Nat} (h : (j == 0 || dpF nd i j (i - j)) = true) : dpQ nd i j (nd (i - j)) (nd (i - j)).length = dpF nd i (j + 1) := by
  funext x; simp only [dpQ, dpF, List.take_length, h, Bool.true_and]
theorem dpF_skip {nd : Nat → List Int} {i j : Nat} (h : (j == 0 || dpF nd i j (i - j)) = false) : dpF nd i j = dpF nd i (j + 1) := by
  funext x; simp only [dpF, h, Bool.false_and, Bool.or_false]
set_option maxHeartbeats 4000000 in
set_option maxRecDepth 100000 in
theorem dependsOn_is (A : Option Addr) (c : Nat) (xs : List Cla) (i : Nat) (hi : i < xs.length) (hg : claB xs = true) (w : World) (hR : ClR w A xs) :
  Calls Try.prog 33 #[.slice A xs.length c, .int .i64 i] w fun e w' => ∃ g, e = .returned (.slice (some ⟨g, 0, none⟩) xs.length xs.length) ∧ OwnV w.heap.size 4 1 blC w' (.slice (some ⟨g, 0, none⟩) xs.length xs.length) (blF xs.length (dpA (ndF xs) i)) ∧ Below w.heap.size w w' := by
  have hn := hR.len
  have h8 := claB_len hg
  have HG := Lib.hid hg; have HR := Lib.hid hR; clear hg hR
  obtain ⟨C, hmk, hO⟩ := make_bools xs.length hn w
  have HO := Lib.hid hO; clear hO
  go_enter Try.func33, Try.ntmps33
  go_wp2
  go_loopw [6] (fun v wr => ∃ (m : Nat) (z : Int), m ≤ i + 1 ∧ v = .int .i64 z ∧ z = (m : Int) - 1 ∧ OwnV w.heap.size 4 1 blC wr (.slice (some ⟨w.heap.size, 0, none⟩) xs.length xs.length) (blF xs.length (dpF (ndF xs) i (i + 1 - m))) ∧ Below w.heap.size w wr) (fun v _ => (intOf v + 1).toNat)
  case atStart => exact ⟨i + 1, i, Nat.le_refl _, rfl, by omega, by rw [Nat.sub_self]; exact HO.out, bl1 _ _⟩
  case round =>
    clear hmk
    obtain ⟨m, z, hm, rfl, hz, O, HB⟩ := hrel
    cases m with
    | zero =>
      have hd : decide ((0 : Int) ≤ z) = false := decide_eq_false (by omega)
      go_wp2
      go_ret
      exact ⟨_, rfl, O, HB⟩
    | succ k =>
      obtain rfl : z = (k : Int) := by omega
      clear hz
      have hki : k ≤ i := by omega
      have hkn : k < xs.length := by omega
      have hj : i + 1 - (k + 1) = i - k := by omega
      rw [hj] at O
      have hkk : i - (i - k) = k := by omega
      have e1 : ((k : Int) == (i : Int)) = (i - k == 0) := by rw [Bool.eq_iff_iff, beq_iff_eq, beq_iff_eq]; omega
      obtain ⟨b, off, x, rfl, hbl, hx, hcx⟩ := HR.out.rds.at_ HB hkn
      have hok := HR.out.ok x (List.mem_of_getElem? hx)
      have hnd := claB_needs HG.out hx
      have hnx : ndF xs k = x.needs := ndF_at hx
      obtain ⟨q0, fq0⟩ := own_cellB O (blF_at hkn)
      have hO0 := (hO_lt O)
      cases hc : (i - k == 0 || dpF (ndF xs) i (i - k) k)
      case false =>
        have hs := dpF_skip (nd := ndF xs) (i := i) (j := i - k) (by rw [hkk]; exact hc)
        have HS := Lib.hid hs
        rw [Bool.or_eq_false_iff] at hc
        rw [hc.1] at e1
        rw [hc.2] at q0
        have hm2 : i + 1 - k = i - k + 1 := by omega
        have HM2 := Lib.hid hm2
        clear hcx hs hc hj hkk hnx hx hm2
        go_wp2
        go_roundw
        case rel => exact ⟨k, (k : Int) - 1, by omega, by go_num, rfl, by rw [HM2.out, ← HS.out]; exact O, HB⟩
        case measure => simp [intOf] <;> omega
      case true =>
        have hs := dpQ_all (nd := ndF xs) (i := i) (j := i - k) (by rw [hkk]; exact hc)
        rw [hkk, hnx] at hs
        have HS := Lib.hid hs
        obtain ⟨wa, wc, ws, na, nc, ns⟩ := x
        have f0 := hcx 0 _ rfl
        have f1 := hcx 1 _ rfl
        simp only [Nat.add_zero] at f0
        have g0 := f0 (Kin.self _)
        have g1 := f1 (Kin.self _)
        simp only [Kin.self] at g0
        simp only [Kin.self] at g1
        have hm2 : i + 1 - k = i - k + 1 := by omega
        have HM2 := Lib.hid hm2
        have HX := Lib.hid hx
        have lns : ns.length ≤ 1000 := hok.ln
        have HN : Hid (Rds 1 intC w na ns) := Lib.hid hok.rn
        have HND := Lib.hid hnd
        have O1 : OwnV w.heap.size 4 1 blC wr (.slice (some ⟨w.heap.size, 0, none⟩) xs.length xs.length) (blF xs.length (dpQ (ndF xs) i (i - k) ns 0)) := by rw [dpQ_zero]; exact O
        have HB1 := HB
        clear hcx hs hj hkk hnx hx hm2 f0 f1 hok hnd O HB
        have hq : ((i - k == 0) = true ∧ ((k : Int) == (i : Int)) = true) ∨ (((k : Int) == (i : Int)) = false ∧ dpF (ndF xs) i (i - k) k = true) := by
          cases h0 : (i - k == 0)
          · right; rw [h0] at e1 hc; exact ⟨e1, by simpa using hc⟩
          · left; rw [h0] at e1; exact ⟨rfl, e1⟩
        clear hc e1
        rcases hq with ⟨_, e1⟩ | ⟨e1, hd⟩
        rotate_left
        · rw [hd] at q0
          clear hd
          go_wp2
          clear q0 fq0 g0 g1
          go_loopw [32] (fun v wr2 => ∃ q : Nat, q ≤ ns.length ∧ v = .int .i64 q ∧ OwnV w.heap.size 4 1 blC wr2 (.slice (some ⟨w.heap.size, 0, none⟩) xs.length xs.length) (blF xs.length (dpQ (ndF xs) i (i - k) ns q)) ∧ Below w.heap.size w wr2) (fun v _ => ns.length - (intOf v).toNat)
          case atStart => exact ⟨0, Nat.zero_le _, rfl, O1, HB1⟩
          case round =>
            clear O1 HB1
            obtain ⟨q, hq, rfl, O, HB⟩ := hrel
            by_cases hlt : q < ns.length
            · obtain ⟨b2, o2, y, rfl, hb2, hy, hcy⟩ := HN.out.at_ HB hlt
              have f0 := hcy 0 _ rfl
              simp only [Nat.mul_one, Nat.add_zero] at f0
              have g0 := f0 (Kin.self _)
              simp only [Kin.self] at g0
              have hyb := HND.out y (List.mem_of_getElem? hy)
              obtain ⟨m, rfl⟩ : ∃ m : Nat, y = m := ⟨y.toNat, by omega⟩
              have hmn : m < xs.length := by omega
              have O2 := own_setB (k := m) true O
              rw [dpQ_succ hy] at O2
              obtain ⟨r0, fr0⟩ := own_cellB O (blF_at hmn)
              have hgl := hO_lt O
              clear hcy f0 hy
              go_wp2
              go_roundw
              case rel => exact ⟨q + 1, by omega, by go_num, O2, HB.setCell (Nat.le_refl _) _⟩
              case measure => simp [intOf]; omega
            · obtain rfl : q = ns.length := by omega
              rw [HS.out] at O
              go_wp2
              go_roundw
              case rel => exact ⟨k, (k : Int) - 1, by omega, by go_num, rfl, by rw [HM2.out]; exact O, HB⟩
              case measure => simp [intOf] <;> omega
        · clear q0 fq0
          go_wp2
          clear g0 g1
          go_loopw [32] (fun v wr2 => ∃ q : Nat, q ≤ ns.length ∧ v = .int .i64 q ∧ OwnV w.heap.size 4 1 blC wr2 (.slice (some ⟨w.heap.size, 0, none⟩) xs.length xs.length) (blF xs.length (dpQ (ndF xs) i (i - k) ns q)) ∧ Below w.heap.size w wr2) (fun v _ => ns.length - (intOf v).toNat)
          case atStart => exact ⟨0, Nat.zero_le _, rfl, O1, HB1⟩
          case round =>
            clear O1 HB1
            obtain ⟨q, hq, rfl, O, HB⟩ := hrel
            by_cases hlt : q < ns.length
            · obtain ⟨b2, o2, y, rfl, hb2, hy, hcy⟩ := HN.out.at_ HB hlt
              have f0 := hcy 0 _ rfl
              simp only [Nat.mul_one, Nat.add_zero] at f0
              have g0 := f0 (Kin.self _)
              simp only [Kin.self] at g0
              have hyb := HND.out y (List.mem_of_getElem? hy)
              obtain ⟨m, rfl⟩ : ∃ m : Nat, y = m := ⟨y.toNat, by omega⟩
              have hmn : m < xs.length := by omega
              have O2 := own_setB (k := m) true O
              rw [dpQ_succ hy] at O2
              obtain ⟨r0, fr0⟩ := own_cellB O (blF_at hmn)
              have hgl := hO_lt O
              clear hcy f0 hy
              go_wp2
              go_roundw
              case rel => exact ⟨q + 1, by omega, by go_num, O2, HB.setCell (Nat.le_refl _) _⟩
              case measure => simp [intOf]; omega
            · obtain rfl : q = ns.length := by omega
              rw [HS.out] at O
              go_wp2
              go_roundw
              case rel => exact ⟨k, (k : Int) - 1, by omega, by go_num, rfl, by rw [HM2.out]; exact O, HB⟩
              case measure => simp [intOf] <;> omega
set_option maxHeartbeats 2000000 in
theorem dependentsOf_is (A : Option Addr) (c : Nat) (xs : List Cla) (i : Nat) (hi : i < xs.length) (hg : claB xs = true) (w : World) (hR : ClR w A xs) :
  Calls Try.prog 35 #[.slice A xs.length c, .int .i64 i] w fun e w' => ∃ Y y, e = .returned (.slice Y (chN (fun j => dpA (ndF xs) j i) xs.length).length y) ∧ OwnV w.heap.size 3 1 intC w' (.slice Y (chN (fun j => dpA (ndF xs) j i) xs.length).length y) (chN (fun j => dpA (ndF xs) j i) xs.length) ∧ Below w.heap.size w w' := by
  obtain ⟨i0, hi0, hz0, hz1, hz2⟩ := info_parts info_int
  have hn := hR.len
  have HG := Lib.hid hg; have HR := Lib.hid hR; clear hg hR
  have hO0 := OwnV.made (f := intC) (sz := 1) w (B := w.heap.size) (Nat.le_refl _) 3
  obtain ⟨P, hP⟩ : ∃ P : Nat → Bool, P = fun j => dpA (ndF xs) j i := ⟨_, rfl⟩
  have HP := Lib.hid hP
  rw [← hP]
  clear hP
  go_enter Try.func35, Try.ntmps35
  go_wp2
  go_loopw [5, 10] (fun y v wr => ∃ k : Nat, k ≤ xs.length ∧ v = .int .i64 k ∧ OwnV w.heap.size 3 1 intC wr y (chN P k) ∧ Below w.heap.size w wr) (fun _ v _ => xs.length - (intOf v).toNat)
  case atStart => exact ⟨0, Nat.zero_le _, rfl, hO0, bl1 _ _⟩
  case round =>
    clear hO0
    obtain ⟨k, hk, rfl, hO, HB⟩ := hrel
    have hbs := HB.size
    by_cases hlt : k < xs.length
    · go_wp2_with fail
      refine (dependsOn_is A c xs k hlt HG.out _ (HR.out.below HB)).mono ?_
      rintro e w1 ⟨g, rfl, OD, hb1⟩
      have hq1 : Below wr.heap.size wr w1 := bth (by repeat (first | exact Below.refl _ _ | refine Below.alloc ?_ (by first | exact Nat.le_refl _ | (simp <;> omega)) _ | refine Below.setCell ?_ (by first | exact Nat.le_refl _ | (simp <;> omega)) _)) hb1
      replace HB := bth HB hq1
      have s1 := hq1.size
      have hgl := hO_lt OD
      obtain ⟨q0, _⟩ := own_cellB OD (blF_at hi)
      have hpk : P k = dpA (ndF xs) k i := by rw [HP.out]
      rw [← hpk] at q0
      replace hO := hO.later hq1
      cases hp : P k
      · have ha : chN P (k + 1) = chN P k := by rw [chN, hp]; rfl
        have HA := Lib.hid ha; clear ha
        rw [hp] at q0
        clear hpk hp
        go_wp2
        go_roundw
        case rel => exact ⟨k + 1, by omega, by go_num, by rw [HA.out]; exact hO, HB⟩
        case measure => simp [intOf]; omega
      · have ha : chN P (k + 1) = chN P k ++ [(k : Int)] := by rw [chN, hp]; rfl
        have HA := Lib.hid ha; clear ha
        rw [hp] at q0
        clear hpk hp
        go_wp2_with ((at_builtin; refine wpList_app1 rfl _ _ 28 rfl w.heap.size 3 i0 _ 1 8 Try.underlying28 hi0 hz0 hz1 hz2 rfl (by decide) intC intC_len intC_one _ (chN P k) rfl (hO.alloc _) ⟨w1.heap.size, 0, none⟩ 1 (k : Int) rfl (Rds.one _ _) (by have := chN_len P k; unfold maxLen; omega) (by have := chN_len P k; omega) (by have := HB.size; simp; omega) ?_; intro v4 w4 hO4 hg4 ha4))
        have hrs : Below w.heap.size w w4 := (HB.alloc HB.size _).grown hg4 (by have := HB.size; simp; omega) (fun q hq => (hO.lt q hq).1)
        go_roundw
        case rel => exact ⟨k + 1, by omega, by go_num, by rw [HA.out]; exact hO4, hrs⟩
        case measure => simp [intOf]; omega
    · obtain rfl : k = xs.length := by omega
      obtain ⟨Y, yc, rfl, _, _, _⟩ := hO.form intC_len
      go_wp2
      go_ret
      exact ⟨Y, yc, rfl, hO, HB⟩
theorem iDependents_is (A : Option Addr) (c : Nat) (xs : List Cla) (i : Nat) (hi : i < xs.length) (hg : claB xs = true) (w : World) (hR : ClR w A xs) :
  Calls Try.prog 15 #[.slice A xs.length c, .int .i64 i] w fun e w' => ∃ Y y, e = .returned (.tuple #[.slice Y (chN (fun j => dpA (ndF xs) j i) xs.length).length y, .bool true]) ∧ OwnV w.heap.size 3 1 intC w' (.slice Y (chN (fun j => dpA (ndF xs) j i) xs.length).length y) (chN (fun j => dpA (ndF xs) j i) xs.length) ∧ Below w.heap.size w w' := by
  have hn := hR.len
  have HR := Lib.hid hR; clear hR
  have HG := Lib.hid hg; clear hg
  have HD := Lib.hid (fun W h => dependentsOf_is A c xs i hi HG.out W h)
  generalize chN (fun j => dpA (ndF xs) j i) xs.length = zs at *
  have hin : inB (i : Int) 0 ((xs.length : Int) - 1) = true := inB_iff.2 ⟨by omega, by omega⟩
  go_enter Try.func15, Try.ntmps15
  go_wp2_with fail
  refine (areClauses_is A c xs _ HG.out _ HR.out).mono ?_
  rintro e w1 ⟨rfl, hb1⟩
  have hq1 : Below w.heap.size w w1 := bth (by repeat (first | exact Below.refl _ _ | refine Below.alloc ?_ (by first | exact Nat.le_refl _ | (simp <;> omega)) _ | refine Below.setCell ?_ (by first | exact Nat.le_refl _ | (simp <;> omega)) _)) hb1
  have HB : Below w.heap.size w w1 := hq1
  go_wp2_with fail
  refine (inside_is (i : Int) 0 ((xs.length : Int) - 1) _ hin _).mono ?_
  rintro e w0 ⟨rfl, h0⟩
  rw [h0]
  clear h0 w0
  go_wp2_with fail
  refine (HD.out _ (HR.out.below HB)).mono ?_
  rintro e w2 ⟨Y, y, rfl, O, hb2⟩
  have hq2 : Below w1.heap.size w1 w2 := bth (by repeat (first | exact Below.refl _ _ | refine Below.alloc ?_ (by first | exact Nat.le_refl _ | (simp <;> omega)) _ | refine Below.setCell ?_ (by first | exact Nat.le_refl _ | (simp <;> omega)) _)) hb2
  replace HB := bth HB hq2
  have s1 := hq1.size
  go_wp2
  go_ret2
  exact ⟨Y, y, rfl, O.base (by omega), HB⟩
/-- What is asked of a closure. -/
def cloB (xs : List Cla) (ws : List Int) : Bool := claB xs && ascB ws 0 ((xs.length : Int) - 1)
def clO (xs : List Cla) (ws : List Int) : List Int := if cloB xs ws then chN (clF (ndF xs) ws) xs.length else []
theorem clO_yes {xs : List Cla} {ws : List Int} (h : cloB xs ws = true) : clO xs ws = chN (clF (ndF xs) ws) xs.length := if_pos h
theorem clO_no {xs : List Cla} {ws : List Int} (h : cloB xs ws = false) : clO xs ws = [] := by rw [clO, h]; rfl
/-- The marks behind one wanted clause, its first q dependents marked. -/
def clQ (nd : Nat → List Int) (ws : List Int) (j m q x : Nat) : Bool := clF nd (ws.take j) x || decide (x = m) || (decide (x < q) && dpA nd m x)
theorem clF_zero (nd : Nat → List Int) (ws : List Int) : clF nd (ws.take 0) = fun _ => false := by funext x; simp [clF]
theorem clQ_zero {nd : Nat → List Int} {ws : List Int} {n j m : Nat} : (blF n (clF nd (ws.take j))).set m true = blF n (clQ nd ws j m 0) :=
  setT fun x => by simp [clQ]
theorem clQ_succ {nd : Nat → List Int} {ws : List Int} {n j m q : Nat} (b : Bool) (hb : b = (clQ nd ws j m q q || dpA nd m q)) : (blF n (clQ nd ws j m q)).set q b = blF n (clQ nd ws j m (q + 1)) := by
  subst hb
  rw [blF_set]
  refine blF_congr fun x _ => ?_
  unfold clQ
  by_cases e : x = q
  · subst e; simp
  · by_cases h2 : x < q
    · simp [e, h2, show x < q + 1 by omega]
    · simp [e, h2, show ¬ x < q + 1 by omega]
theorem clQ_all {nd : Nat → List Int} {ws : List Int} {n j m : Nat} (h : ws[j]? = some (m : Int)) : blF n (clQ nd ws j m n) = blF n (clF nd (ws.take (j + 1))) := by
  refine blF_congr fun x hx => ?_
  unfold clQ clF
  rw [List.take_add_one, h, List.any_append, Bool.or_assoc]
  congr 1
  simp only [Option.toList_some, List.any_cons, List.any_nil, Bool.or_false, Int.toNat_natCast, hx, decide_true, Bool.true_and]
  congr 1
  rw [Bool.eq_iff_iff, beq_iff_eq, decide_eq_true_eq]
  omega
end Go.Proofs.Ytndenojanflkgaa
/- Clauses: closures and the divided text (the program). -/
namespace Go.Proofs.Ytndenojanflkgaa
open Go.RowKit Go.G9
set_option maxHeartbeats 4000000 in
set_option maxRecDepth 100000 in
theorem iClosure_is (A : Option Addr) (c : Nat) (xs : List Cla) (D : Option Addr) (d : Nat) (ds : List Int) (hl : ds.length ≤ 1000) (w : World) (hR : ClR w A xs) (hD : Rds 1 intC w D ds) :
  Calls Try.prog 13 #[.slice A xs.length c, .slice D ds.length d] w fun e w' => ∃ Y y, e = .returned (.tuple #[.slice Y (clO xs ds).length y, .bool (cloB xs ds)]) ∧ OwnV w.heap.size 3 1 intC w' (.slice Y (clO xs ds).length y) (clO xs ds) ∧ Below w.heap.size w w' := by
  have hn := hR.len
  have HR := Lib.hid hR; have HD := Lib.hid hD; clear hR hD
  cases hv : cloB xs ds
  · rw [clO_no hv]
    unfold cloB at hv
    cases h1 : claB xs
    · have H1 := Lib.hid h1; clear h1 hv
      go_enter Try.func13, Try.ntmps13
      go_wp2_with fail
      refine (areClauses_is A c xs _ H1.out _ HR.out).mono ?_
      rintro e w1 ⟨rfl, hb1⟩
      have hq1 : Below w.heap.size w w1 := bth (by repeat (first | exact Below.refl _ _ | refine Below.alloc ?_ (by first | exact Nat.le_refl _ | (simp <;> omega)) _ | refine Below.setCell ?_ (by first | exact Nat.le_refl _ | (simp <;> omega)) _)) hb1
      have HB : Below w.heap.size w w1 := hq1
      go_wp2
      go_ret2
      exact ⟨none, 0, rfl, OwnV.nil, HB⟩
    · rw [h1, Bool.true_and] at hv
      have H1 := Lib.hid h1; have HV := Lib.hid hv; clear h1 hv
      go_enter Try.func13, Try.ntmps13
      go_wp2_with fail
      refine (areClauses_is A c xs _ H1.out _ HR.out).mono ?_
      rintro e w1 ⟨rfl, hb1⟩
      have hq1 : Below w.heap.size w w1 := bth (by repeat (first | exact Below.refl _ _ | refine Below.alloc ?_ (by first | exact Nat.le_refl _ | (simp <;> omega)) _ | refine Below.setCell ?_ (by first | exact Nat.le_refl _ | (simp <;> omega)) _)) hb1
      have HB : Below w.heap.size w w1 := hq1
      go_wp2_with fail
      refine (ascending_is D d ds 0 ((xs.length : Int) - 1) (by omega) _ HV.out _ (HD.out.below HB)).mono ?_
      rintro e w2 ⟨rfl, hb2⟩
      have hq2 : Below w1.heap.size w1 w2 := bth (by repeat (first | exact Below.refl _ _ | refine Below.alloc ?_ (by first | exact Nat.le_refl _ | (simp <;> omega)) _ | refine Below.setCell ?_ (by first | exact Nat.le_refl _ | (simp <;> omega)) _)) hb2
      replace HB := bth HB hq2
      go_wp2
      go_ret2
      exact ⟨none, 0, rfl, OwnV.nil, HB⟩
  · rw [clO_yes hv]
    have HC := Lib.hid (fun Y y (W : World) h => by
      have h := chosen_is Y y (blF xs.length (clF (ndF xs) ds)) (by rw [blF_len]; exact hn) W h
      rw [blF_len, chN_blF] at h
      exact h)
    generalize chN (clF (ndF xs) ds) xs.length = zs at *
    simp only [cloB, Bool.and_eq_true] at hv
    obtain ⟨h1, h2⟩ := hv
    have HW := Lib.hid (asc_memC h2)
    have H1 := Lib.hid h1; have H2 := Lib.hid h2; clear h1 h2
    go_enter Try.func13, Try.ntmps13
    go_wp2_with fail
    refine (areClauses_is A c xs _ H1.out _ HR.out).mono ?_
    rintro e w1 ⟨rfl, hb1⟩
    have hq1 : Below w.heap.size w w1 := bth (by repeat (first | exact Below.refl _ _ | refine Below.alloc ?_ (by first | exact Nat.le_refl _ | (simp <;> omega)) _ | refine Below.setCell ?_ (by first | exact Nat.le_refl _ | (simp <;> omega)) _)) hb1
    have HB : Below w.heap.size w w1 := hq1
    go_wp2_with fail
    refine (ascending_is D d ds 0 ((xs.length : Int) - 1) (by omega) _ H2.out _ (HD.out.below HB)).mono ?_
    rintro e w2 ⟨rfl, hb2⟩
    have hq2 : Below w1.heap.size w1 w2 := bth (by repeat (first | exact Below.refl _ _ | refine Below.alloc ?_ (by first | exact Nat.le_refl _ | (simp <;> omega)) _ | refine Below.setCell ?_ (by first | exact Nat.le_refl _ | (simp <;> omega)) _)) hb2
    replace HB := bth HB hq2
    have s1 := HB.size
    obtain ⟨C, hmk, hO⟩ := make_bools xs.length hn w2
    rw [← clF_zero (ndF xs) ds] at hO
    obtain ⟨go, hgo⟩ : ∃ g, g = w2.heap.size := ⟨_, rfl⟩
    have HO := Lib.hid (hO.base (B' := w.heap.size) s1); clear hO
    have HBX := Lib.hid (bth HB (bl1 w2 (.cells C 4)))
    have hBg : w.heap.size ≤ go := by omega
    rw [← hgo] at HO hmk
    go_wp2
    clear hmk
    rw [← hgo]
    clear hgo
    go_loopw [27] (fun v wr => ∃ j : Nat, j ≤ ds.length ∧ v = .int .i64 j ∧ OwnV w.heap.size 4 1 blC wr (.slice (some ⟨go, 0, none⟩) xs.length xs.length) (blF xs.length (clF (ndF xs) (ds.take j))) ∧ Below w.heap.size w wr) (fun v _ => ds.length - (intOf v).toNat)
    case atStart => exact ⟨0, Nat.zero_le _, rfl, HO.out, HBX.out⟩
    case round =>
      clear HO HBX HB
      obtain ⟨j, hj, rfl, O, HB⟩ := hrel
      by_cases hlt : j < ds.length
      · obtain ⟨b, off, x, rfl, hbl, hx, hcx⟩ := HD.out.at_ HB hlt
        have f0 := hcx 0 _ rfl
        simp only [Nat.mul_one, Nat.add_zero] at f0
        have g0 := f0 (Kin.self _)
        simp only [Kin.self] at g0
        have hxb := HW.out x (List.mem_of_getElem? hx)
        obtain ⟨m, rfl⟩ : ∃ m : Nat, x = m := ⟨x.toNat, by omega⟩
        have hmn : m < xs.length := by omega
        have HX := Lib.hid hx
        have HALL := Lib.hid (clQ_all (nd := ndF xs) (n := xs.length) hx)
        obtain ⟨r0, fr0⟩ := own_cellB O (blF_at hmn)
        have hgl := hO_lt O
        have O2 := own_setB (k := m) true O
        rw [clQ_zero] at O2
        clear hcx f0 hx hxb
        go_upto_region 8 with fail
        clear r0 fr0 g0 O
        have hgS := hO_lt O2
        replace HB : Below w.heap.size w (World.setCell wr ⟨go, m, none⟩ (.bool true)) := HB.setCell hBg _
        generalize World.setCell wr ⟨go, m, none⟩ (.bool true) = wS at *
        go_wp2_with fail
        refine (dependsOn_is A c xs m hmn H1.out _ (HR.out.below HB)).mono ?_
        rintro e w3 ⟨gd, rfl, OD, hb3⟩
        have hq3 : Below wS.heap.size wS w3 := bth (by repeat (first | exact Below.refl _ _ | refine Below.alloc ?_ (by first | exact Nat.le_refl _ | (simp <;> omega)) _ | refine Below.setCell ?_ (by first | exact Nat.le_refl _ | (simp <;> omega)) _)) hb3
        replace HB := bth HB hq3
        have hOw := hO_lt OD
        replace O2 := O2.later hq3
        have hne : gd ≠ go := fun e => by have h := (OD.lt gd rfl).1; omega
        go_wp2
        clear hq3 hb3
        go_loopw [38] (fun v wr2 => ∃ q : Nat, q ≤ xs.length ∧ v = .int .i64 q ∧ OwnV w.heap.size 4 1 blC wr2 (.slice (some ⟨go, 0, none⟩) xs.length xs.length) (blF xs.length (clQ (ndF xs) ds j m q)) ∧ OwnV wS.heap.size 4 1 blC wr2 (.slice (some ⟨gd, 0, none⟩) xs.length xs.length) (blF xs.length (dpA (ndF xs) m)) ∧ Below w.heap.size w wr2) (fun v _ => xs.length - (intOf v).toNat)
        case atStart => exact ⟨0, Nat.zero_le _, rfl, O2, OD, HB⟩
        case round =>
          clear O2 OD HB
          obtain ⟨q, hq, rfl, O, OD, HB⟩ := hrel
          by_cases hlq : q < xs.length
          · obtain ⟨r0, fr0⟩ := own_cellB O (blF_at hlq)
            obtain ⟨d0, _⟩ := own_cellB OD (blF_at hlq)
            have hgo := hO_lt O
            have hgd := hO_lt OD
            obtain ⟨b, hb⟩ : ∃ b, b = (clQ (ndF xs) ds j m q q || dpA (ndF xs) m q) := ⟨_, rfl⟩
            have O3 := own_setB (k := q) b O
            rw [clQ_succ b hb] at O3
            have OD3 := OD.kept (grown_set (j := q) (grown_refl wr (some go)) (.bool b)) (fun k hk e => hne ((Option.some.inj hk).trans (Option.some.inj e)))
            have HB3 : Below w.heap.size w (World.setCell wr ⟨go, q, none⟩ (.bool b)) := HB.setCell hBg _
            generalize clQ (ndF xs) ds j m q q = r at *
            generalize dpA (ndF xs) m q = dd at *
            subst hb
            cases r
            all_goals
              cases dd
              all_goals
                simp only [Bool.or_true, Bool.or_false] at O3 OD3 HB3
                go_wp2
                go_roundw
                case rel => exact ⟨q + 1, by omega, by go_num, O3, OD3, HB3⟩
                case measure => simp [intOf]; omega
          · obtain rfl : q = xs.length := by omega
            rw [HALL.out] at O
            go_wp2
            go_roundw
            case rel => exact ⟨j + 1, by omega, by go_num, O, HB⟩
            case measure => simp [intOf]; omega
      · obtain rfl : j = ds.length := by omega
        rw [List.take_length] at O
        have hbs := HB.size
        go_wp2_with fail
        refine (HC.out _ _ _ (O.rds blC_len)).mono ?_
        rintro e w4 ⟨Z, z, rfl, OZ, hb4⟩
        have hq4 : Below wr.heap.size wr w4 := bth (by repeat (first | exact Below.refl _ _ | refine Below.alloc ?_ (by first | exact Nat.le_refl _ | (simp <;> omega)) _ | refine Below.setCell ?_ (by first | exact Nat.le_refl _ | (simp <;> omega)) _)) hb4
        replace HB := bth HB hq4
        go_wp2
        go_ret2
        exact ⟨Z, z, rfl, OZ.base (by omega), HB⟩
end Go.Proofs.Ytndenojanflkgaa
