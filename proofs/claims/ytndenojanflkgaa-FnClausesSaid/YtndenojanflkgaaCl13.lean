/- Clauses: the divided text (both sides). -/
import Derived.Test.YtndenojanflkgaaCl12
namespace Go.Proofs.Ytndenojanflkgaa
open Go.RowKit Go.G9
theorem apartC {T T' : Type} {B B' sz sz' : Nat} {f : T → List Value} {f' : T' → List Value} {e e' : TypeId} {w : World} {v v' : Value} {xs : List T} {ys : List T'} (h : OwnV B e sz f w v xs) (h' : OwnV B' e' sz' f' w v' ys) (hne : e ≠ e') : ∀ k, v.ownBlock = some k → some k ≠ v'.ownBlock := by
  intro k hk e1
  rcases h.2 with ⟨rfl, _⟩ | ⟨g, cap, cur, rfl, hB, hh, r⟩
  · cases hk
  · rcases h'.2 with ⟨rfl, _⟩ | ⟨g', cap', cur', rfl, hB', hh', r'⟩
    · cases e1
    · have a1 : g = k := Option.some.inj hk
      have a2 : k = g' := Option.some.inj e1
      subst a1; subst a2
      rw [hh] at hh'
      injection hh' with h1
      injection h1 with _ h2 _
      exact hne h2
def wdF (xs : List Cla) (i : Nat) : List ByteArray := match xs[i]? with | some x => x.words | none => []
theorem wdF_at {xs : List Cla} {i : Nat} {x : Cla} (h : xs[i]? = some x) : wdF xs i = x.words := by rw [wdF, h]
/-- The words of the first q of some clauses. -/
def wcN (xs : List Cla) (zs : List Int) (q : Nat) : List ByteArray := (zs.take q).flatMap (fun i => wdF xs i.toNat)
theorem wcN_succ {xs : List Cla} {zs : List Int} {q m : Nat} {x : Cla} (h : zs[q]? = some (m : Int)) (hx : xs[m]? = some x) : wcN xs zs (q + 1) = wcN xs zs q ++ x.words := by
  unfold wcN
  rw [List.take_add_one, h, List.flatMap_append]
  simp [wdF_at hx]
theorem claB_words {xs : List Cla} (h : claB xs = true) {i : Nat} {x : Cla} (hx : xs[i]? = some x) : x.words.length ≤ 5 := by
  simp only [claB, Bool.and_eq_true] at h
  have h1 := allTo_iff.1 h.1 i (List.getElem?_eq_some_iff.1 hx).1
  unfold claStep at h1
  rw [hx] at h1
  dsimp only at h1
  simp only [Bool.and_eq_true, wordsB] at h1
  have := inB_iff.1 h1.1.1
  omega
theorem wcN_len {xs : List Cla} (hg : claB xs = true) (zs : List Int) : ∀ q, (wcN xs zs q).length ≤ 5 * q
  | 0 => by simp [wcN]
  | q + 1 => by
    have ih := wcN_len hg zs q
    unfold wcN at ih ⊢
    rw [List.take_add_one, List.flatMap_append, List.length_append]
    cases h : zs[q]? with
    | none => simp only [Option.toList_none, List.flatMap_nil, List.length_nil, Nat.add_zero]; omega
    | some z =>
      simp only [Option.toList_some, List.flatMap_cons, List.flatMap_nil, List.append_nil]
      have : (wdF xs z.toNat).length ≤ 5 := by
        unfold wdF
        split
        · rename_i x hx; exact claB_words hg hx
        · simp
      omega
theorem wcN_mem {xs : List Cla} {zs : List Int} {q : Nat} {s : ByteArray} (h : s ∈ wcN xs zs q) : ∃ x, x ∈ xs ∧ s ∈ x.words := by
  unfold wcN at h
  obtain ⟨i, _, hs⟩ := List.mem_flatMap.1 h
  unfold wdF at hs
  split at hs
  · rename_i x hx; exact ⟨x, List.mem_of_getElem? hx, hs⟩
  · simp at hs
def dvL (xs : List Cla) (ad : List Bool) : List ByteArray := wcN xs (chN (stB (ndF xs) (atP ad)) xs.length) (chN (stB (ndF xs) (atP ad)) xs.length).length
def dvB (xs : List Cla) (ad : List Bool) : Bool := voteB xs ad && w9B (dvL xs ad) 20
def dvO (xs : List Cla) (ad : List Bool) : List ByteArray := if dvB xs ad then dvL xs ad else []
theorem words_20 (ws : List ByteArray) : wordsB ws 0 20 = w9B ws 20 := by
  have e : inB (ws.length : Int) 0 20 = decide ((ws.length : Int) ≤ 20) := by
    rw [Bool.eq_iff_iff, inB_iff, decide_eq_true_eq]
    constructor
    · intro h; exact h.2
    · intro h; exact ⟨by omega, h⟩
  rw [wordsB, w9B, e]
theorem isText_is (A : Option Addr) (c : Nat) (ws : List ByteArray) (hn : ws.length ≤ 1000) (hs : ∀ s, s ∈ ws → s.size ≤ 1000) (v : Bool) (hv : w9B ws 20 = v) (w : World) (hR : Rds 1 bC w A ws) :
  Calls Try.prog 36 #[.slice A ws.length c] w fun e w' => e = .returned (.bool v) ∧ Below w.heap.size w w' := by
  have HS := Lib.hid hs; have HV := Lib.hid hv; clear hs hv
  go_enter Try.func36, Try.ntmps36
  go_wp2_with (go_at_call 29; refine (areWords_is A c ws 0 20 hn HS.out _ ((words_20 ws).trans HV.out) _ hR).mono ?_; rintro e w' ⟨rfl, hb'⟩)
  go_ret
  exact ⟨rfl, hb'⟩
theorem l9Text_is (A : Option Addr) (c : Nat) (ws : List ByteArray) (hn : ws.length ≤ 1000) (hs : ∀ s, s ∈ ws → s.size ≤ 1000) (v : Bool) (hv : w9B ws 20 = v) (w : World) (hR : Rds 1 bC w A ws) :
  Calls Try.prog 37 #[.slice A ws.length c] w fun e w' => e = .returned (.bool v) ∧ Below w.heap.size w w' := by
  have HS := Lib.hid hs; have HV := Lib.hid hv; clear hs hv
  go_enter Try.func37, Try.ntmps37
  go_wp2_with (go_at_call 50; refine (l9Words_is A c ws 20 (by omega) hn HS.out _ HV.out _ hR).mono ?_; rintro e w' ⟨rfl, hb'⟩)
  go_ret
  exact ⟨rfl, hb'⟩
set_option maxHeartbeats 4000000 in
set_option maxRecDepth 100000 in
theorem iDivided_is (A : Option Addr) (c : Nat) (xs : List Cla) (D : Option Addr) (d : Nat) (ad : List Bool) (hl : ad.length ≤ 1000) (w : World) (hR : ClR w A xs) (hD : Rds 1 blC w D ad) :
  Calls Try.prog 17 #[.slice A xs.length c, .slice D ad.length d] w fun e w' => ∃ Y y, e = .returned (.tuple #[.slice Y (dvO xs ad).length y, .bool (dvB xs ad)]) ∧ OwnV w.heap.size 9 1 bC w' (.slice Y (dvO xs ad).length y) (dvO xs ad) ∧ Below w.heap.size w w' := by
  obtain ⟨i0, hi0, hz0, hz1, hz2⟩ := info_parts info_strC
  have hn := hR.len
  have HR := Lib.hid hR; have HD := Lib.hid hD; clear hR hD
  cases hv : voteB xs ad
  · have e1 : dvB xs ad = false := by rw [dvB, hv]; rfl
    have e2 : dvO xs ad = [] := by rw [dvO, e1]; rfl
    rw [e1, e2]
    have HV := Lib.hid hv; clear hv e1 e2
    go_enter Try.func17, Try.ntmps17
    go_wp2_with fail
    refine (isVote_is A c xs D d ad hl _ HV.out _ HR.out).mono ?_
    rintro e w1 ⟨rfl, hb1⟩
    have hq1 : Below w.heap.size w w1 := bth (by repeat (first | exact Below.refl _ _ | refine Below.alloc ?_ (by first | exact Nat.le_refl _ | (simp <;> omega)) _ | refine Below.setCell ?_ (by first | exact Nat.le_refl _ | (simp <;> omega)) _)) hb1
    have HB : Below w.heap.size w w1 := hq1
    go_wp2
    go_ret2
    exact ⟨none, 0, rfl, OwnV.nil, HB⟩
  · have hg : claB xs = true := by simp only [voteB, Bool.and_eq_true] at hv; exact hv.1
    have h8 := claB_len hg
    have hlen := wcN_len hg (chN (stB (ndF xs) (atP ad)) xs.length)
    have HDV : Hid (dvB xs ad = w9B (dvL xs ad) 20) := Lib.hid (by rw [dvB, hv]; rfl)
    have HDO : Hid (dvO xs ad = if w9B (dvL xs ad) 20 then dvL xs ad else []) := Lib.hid (by rw [dvO, HDV.out])
    rw [HDV.out, HDO.out]
    have hS : ∀ s, s ∈ dvL xs ad → s.size ≤ 1000 := fun s hs => by
      obtain ⟨x, hx, hsx⟩ := wcN_mem hs
      exact (HR.out.ok x hx).sw s hsx
    have hDL : (dvL xs ad).length ≤ 1000 := by
      have h1 := hlen (chN (stB (ndF xs) (atP ad)) xs.length).length
      have h2 := chN_len (stB (ndF xs) (atP ad)) xs.length
      unfold dvL; omega
    have HIT := Lib.hid (fun A c (W : World) h => isText_is A c (dvL xs ad) hDL hS _ rfl W h)
    have HS := Lib.hid (fun W h h' => standing_is A c xs D d ad hv W h h')
    have HC := Lib.hid (fun Y y W h => by
      have h := chosen_is Y y (stF (ndF xs) (atP ad) xs.length) (by rw [stF_len]; exact hn) W h
      rw [chosen_st] at h
      exact h)
    have HZM : Hid (∀ x, x ∈ chN (stB (ndF xs) (atP ad)) xs.length → ∃ k : Nat, x = k ∧ k < xs.length) := Lib.hid (fun x hx => by
      obtain ⟨k, h1, h2, _⟩ := (chN_mem _ _ x).1 hx
      exact ⟨k, h1, h2⟩)
    have hzl : (chN (stB (ndF xs) (atP ad)) xs.length).length ≤ 8 := by have := chN_len (stB (ndF xs) (atP ad)) xs.length; omega
    have HLN := Lib.hid hlen
    have HG := Lib.hid hg
    have HV := Lib.hid hv
    have HDL : Hid (dvL xs ad = wcN xs (chN (stB (ndF xs) (atP ad)) xs.length) (chN (stB (ndF xs) (atP ad)) xs.length).length) := Lib.hid rfl
    clear hv hg hlen HDV HDO hS hDL
    generalize stF (ndF xs) (atP ad) xs.length = bs at *
    generalize chN (stB (ndF xs) (atP ad)) xs.length = zs at *
    generalize dvL xs ad = dl at *
    generalize hw9 : w9B dl 20 = fine at *
    clear hw9
    go_enter Try.func17, Try.ntmps17
    go_wp2_with fail
    refine (isVote_is A c xs D d ad hl _ HV.out _ HR.out).mono ?_
    rintro e w1 ⟨rfl, hb1⟩
    have hq1 : Below w.heap.size w w1 := bth (by repeat (first | exact Below.refl _ _ | refine Below.alloc ?_ (by first | exact Nat.le_refl _ | (simp <;> omega)) _ | refine Below.setCell ?_ (by first | exact Nat.le_refl _ | (simp <;> omega)) _)) hb1
    have HB : Below w.heap.size w w1 := hq1
    go_upto_region 4 with fail
    have s1 := HB.size
    have hO := (OwnV.made (f := bC) (sz := 1) w1 (B := w1.heap.size) (Nat.le_refl _) 9).base (B' := w.heap.size) s1
    have hE : Below w1.heap.size w1 (w1.alloc (.cells #[] 9)) := bl1 _ _
    generalize w1.alloc (.cells #[] 9) = wE at *
    have hq2 : Below w1.heap.size w1 wE := bth (by repeat (first | exact Below.refl _ _ | refine Below.alloc ?_ (by first | exact Nat.le_refl _ | (simp <;> omega)) _ | refine Below.setCell ?_ (by first | exact Nat.le_refl _ | (simp <;> omega)) _)) hE
    replace HB := bth HB hq2
    go_wp2_with fail
    refine (HS.out _ (HR.out.below HB) (HD.out.below HB)).mono ?_
    rintro e w3 ⟨Y, y, rfl, O, hb3⟩
    have hq3 : Below wE.heap.size wE w3 := bth (by repeat (first | exact Below.refl _ _ | refine Below.alloc ?_ (by first | exact Nat.le_refl _ | (simp <;> omega)) _ | refine Below.setCell ?_ (by first | exact Nat.le_refl _ | (simp <;> omega)) _)) hb3
    replace HB := bth HB hq3
    replace hO := hO.later hq3
    go_wp2_with fail
    refine (HC.out Y y _ (O.rds blC_len)).mono ?_
    rintro e w4 ⟨Z, z, rfl, OZ, hb4⟩
    have hq4 : Below w3.heap.size w3 w4 := bth (by repeat (first | exact Below.refl _ _ | refine Below.alloc ?_ (by first | exact Nat.le_refl _ | (simp <;> omega)) _ | refine Below.setCell ?_ (by first | exact Nat.le_refl _ | (simp <;> omega)) _)) hb4
    replace HB := bth HB hq4
    replace hO := hO.later hq4
    have HO := Lib.hid hO; have HOZ := Lib.hid OZ; have HBX := Lib.hid HB
    clear O OZ hO
    generalize w4 = wS at *
    go_wp2
    go_loopw [6, 19] (fun y v wr => ∃ k : Nat, k ≤ zs.length ∧ v = .int .i64 k ∧ OwnV w.heap.size 9 1 bC wr y (wcN xs zs k) ∧ OwnV 0 3 1 intC wr (.slice Z zs.length z) zs ∧ Below w.heap.size w wr) (fun _ v _ => zs.length - (intOf v).toNat)
    case atStart => exact ⟨0, Nat.zero_le _, rfl, HO.out, HOZ.out.base (Nat.zero_le _), HBX.out⟩
    case round =>
      clear HO HOZ HBX HB
      obtain ⟨k, hk, rfl, hO, OZ, HB⟩ := hrel
      by_cases hlt : k < zs.length
      · obtain ⟨b2, o2, m, rfl, hb2, hm, hcm⟩ := (OZ.rds intC_len).at_ (Below.refl _ _) hlt
        obtain ⟨m, rfl, hmx⟩ := HZM.out m (List.mem_of_getElem? hm)
        have f0 := hcm 0 _ rfl
        simp only [Nat.mul_one, Nat.add_zero] at f0
        have g0 := f0 (Kin.self _)
        simp only [Kin.self] at g0
        obtain ⟨b, off, x, rfl, hbl, hx, hcx⟩ := HR.out.rds.at_ HB hmx
        have hok := HR.out.ok x (List.mem_of_getElem? hx)
        have hw5 := claB_words HG.out hx
        have hsu := wcN_succ hm hx
        have HSU := Lib.hid hsu
        obtain ⟨wa, wc, ws, na, nc, ns⟩ := x
        have f1 := hcx 0 _ rfl
        simp only [Nat.add_zero] at f1
        have g1 := f1 (Kin.self _)
        simp only [Kin.self] at g1
        have hws : ws.length ≤ 5 := hw5
        have hwl := HLN.out k
        have HRW : Hid (Rds 1 bC wr wa ws) := Lib.hid (hok.rw.below HB)
        have HNW : Hid (wa = none → ws = [] ∧ wc = 0) := Lib.hid hok.nw
        have hbs := HB.size
        have HMX := hmx
        clear hcm f0 hcx f1 hok hsu hx hm hw5
        go_wp2_with ((at_builtin; refine wpList_app rfl _ _ 36 rfl w.heap.size 9 i0 _ 1 16 Try.underlying36 hi0 hz0 hz1 hz2 rfl (by decide) bC bC_len bC_one _ (wcN xs zs k) rfl hO wa wc ws rfl HRW.out HNW.out (by unfold maxLen; omega) (by omega) hbs ?_; intro v4 w4 hO4 hg4))
        have hrs : Below w.heap.size w w4 := HB.grown hg4 hbs (fun q hq => (hO.lt q hq).1)
        have OZ4 := OZ.kept hg4 (fun q hq => apartC OZ hO (by decide) q hq)
        clear OZ hO hg4
        go_roundw
        case rel => exact ⟨k + 1, by omega, by go_num, by rw [HSU.out]; exact hO4, OZ4, hrs⟩
        case measure => simp [intOf]; omega
      · obtain rfl : k = zs.length := by omega
        obtain ⟨Y2, y2, hv2, _, _, _⟩ := hO.form bC_len
        rw [← HDL.out] at hO hv2
        subst hv2
        cases fine
        all_goals
          go_wp2_with fail
          refine (HIT.out Y2 y2 _ (hO.rds bC_len)).mono ?_
          rintro e w5 ⟨rfl, hb5⟩
          have hq5 : Below wr.heap.size wr w5 := bth (by repeat (first | exact Below.refl _ _ | refine Below.alloc ?_ (by first | exact Nat.le_refl _ | (simp <;> omega)) _ | refine Below.setCell ?_ (by first | exact Nat.le_refl _ | (simp <;> omega)) _)) hb5
          replace HB := bth HB hq5
          go_wp2
        · go_ret2
          exact ⟨none, 0, rfl, OwnV.nil, HB⟩
        · go_ret2
          exact ⟨Y2, y2, rfl, hO.later hq5, HB⟩
set_option maxHeartbeats 4000000 in
set_option maxRecDepth 100000 in
theorem sDivided_is (A : Option Addr) (c : Nat) (xs : List Cla) (D : Option Addr) (d : Nat) (ad : List Bool) (hl : ad.length ≤ 1000) (w : World) (hR : ClR w A xs) (hD : Rds 1 blC w D ad) :
  Calls Try.prog 18 #[.slice A xs.length c, .slice D ad.length d] w fun e w' => ∃ Y y, e = .returned (.tuple #[.slice Y (dvO xs ad).length y, .bool (dvB xs ad)]) ∧ OwnV w.heap.size 9 1 bC w' (.slice Y (dvO xs ad).length y) (dvO xs ad) ∧ Below w.heap.size w w' := by
  obtain ⟨i0, hi0, hz0, hz1, hz2⟩ := info_parts info_strC
  have hn := hR.len
  have HR := Lib.hid hR; have HD := Lib.hid hD; clear hR hD
  cases hv : voteB xs ad
  · have e1 : dvB xs ad = false := by rw [dvB, hv]; rfl
    have e2 : dvO xs ad = [] := by rw [dvO, e1]; rfl
    rw [e1, e2]
    have HV := Lib.hid hv; clear hv e1 e2
    go_enter Try.func18, Try.ntmps18
    go_upto_region 2 with fail
    have hO := OwnV.made (f := bC) (sz := 1) w (B := w.heap.size) (Nat.le_refl _) 9
    have hE : Below w.heap.size w (w.alloc (.cells #[] 9)) := bl1 _ _
    generalize w.alloc (.cells #[] 9) = wE at *
    have hq1 : Below w.heap.size w wE := bth (by repeat (first | exact Below.refl _ _ | refine Below.alloc ?_ (by first | exact Nat.le_refl _ | (simp <;> omega)) _ | refine Below.setCell ?_ (by first | exact Nat.le_refl _ | (simp <;> omega)) _)) hE
    have HB : Below w.heap.size w wE := hq1
    go_wp2_with fail
    refine (l19Asked_is A c xs D d ad hl _ HV.out _ (HR.out.below HB)).mono ?_
    rintro e w2 ⟨rfl, hb2⟩
    have hq2 : Below wE.heap.size wE w2 := bth (by repeat (first | exact Below.refl _ _ | refine Below.alloc ?_ (by first | exact Nat.le_refl _ | (simp <;> omega)) _ | refine Below.setCell ?_ (by first | exact Nat.le_refl _ | (simp <;> omega)) _)) hb2
    replace HB := bth HB hq2
    replace hO := hO.later hq2
    go_wp2
    go_ret2
    exact ⟨_, 0, rfl, hO, HB⟩
  · have hg : claB xs = true := by simp only [voteB, Bool.and_eq_true] at hv; exact hv.1
    have h8 := claB_len hg
    have hlen := wcN_len hg (chN (stB (ndF xs) (atP ad)) xs.length)
    have HDV : Hid (dvB xs ad = w9B (dvL xs ad) 20) := Lib.hid (by rw [dvB, hv]; rfl)
    have HDO : Hid (dvO xs ad = if w9B (dvL xs ad) 20 then dvL xs ad else []) := Lib.hid (by rw [dvO, HDV.out])
    rw [HDV.out, HDO.out]
    have hS : ∀ s, s ∈ dvL xs ad → s.size ≤ 1000 := fun s hs => by
      obtain ⟨x, hx, hsx⟩ := wcN_mem hs
      exact (HR.out.ok x hx).sw s hsx
    have hDL : (dvL xs ad).length ≤ 1000 := by
      have h1 := hlen (chN (stB (ndF xs) (atP ad)) xs.length).length
      have h2 := chN_len (stB (ndF xs) (atP ad)) xs.length
      unfold dvL; omega
    have HIT := Lib.hid (fun A c (W : World) h => l9Text_is A c (dvL xs ad) hDL hS _ rfl W h)
    have HS := Lib.hid (fun W h h' => l19Stand_is A c xs D d ad hv W h h')
    have HZM : Hid (∀ x, x ∈ chN (stB (ndF xs) (atP ad)) xs.length → ∃ k : Nat, x = k ∧ k < xs.length) := Lib.hid (fun x hx => by
      obtain ⟨k, h1, h2, _⟩ := (chN_mem _ _ x).1 hx
      exact ⟨k, h1, h2⟩)
    have hzl : (chN (stB (ndF xs) (atP ad)) xs.length).length ≤ 8 := by have := chN_len (stB (ndF xs) (atP ad)) xs.length; omega
    have HLN := Lib.hid hlen
    have HG := Lib.hid hg
    have HV := Lib.hid hv
    have HDL : Hid (dvL xs ad = wcN xs (chN (stB (ndF xs) (atP ad)) xs.length) (chN (stB (ndF xs) (atP ad)) xs.length).length) := Lib.hid rfl
    clear hv hg hlen HDV HDO hS hDL
    generalize chN (stB (ndF xs) (atP ad)) xs.length = zs at *
    generalize dvL xs ad = dl at *
    generalize hw9 : w9B dl 20 = fine at *
    clear hw9
    go_enter Try.func18, Try.ntmps18
    go_upto_region 2 with fail
    have hO := OwnV.made (f := bC) (sz := 1) w (B := w.heap.size) (Nat.le_refl _) 9
    have hE : Below w.heap.size w (w.alloc (.cells #[] 9)) := bl1 _ _
    generalize w.alloc (.cells #[] 9) = wE at *
    have hq1 : Below w.heap.size w wE := bth (by repeat (first | exact Below.refl _ _ | refine Below.alloc ?_ (by first | exact Nat.le_refl _ | (simp <;> omega)) _ | refine Below.setCell ?_ (by first | exact Nat.le_refl _ | (simp <;> omega)) _)) hE
    have HB : Below w.heap.size w wE := hq1
    go_wp2_with fail
    refine (l19Asked_is A c xs D d ad hl _ HV.out _ (HR.out.below HB)).mono ?_
    rintro e w2 ⟨rfl, hb2⟩
    have hq2 : Below wE.heap.size wE w2 := bth (by repeat (first | exact Below.refl _ _ | refine Below.alloc ?_ (by first | exact Nat.le_refl _ | (simp <;> omega)) _ | refine Below.setCell ?_ (by first | exact Nat.le_refl _ | (simp <;> omega)) _)) hb2
    replace HB := bth HB hq2
    replace hO := hO.later hq2
    go_wp2_with fail
    refine (HS.out _ (HR.out.below HB) (HD.out.below HB)).mono ?_
    rintro e w3 ⟨Z, z, rfl, OZ, hb3⟩
    have hq3 : Below w2.heap.size w2 w3 := bth (by repeat (first | exact Below.refl _ _ | refine Below.alloc ?_ (by first | exact Nat.le_refl _ | (simp <;> omega)) _ | refine Below.setCell ?_ (by first | exact Nat.le_refl _ | (simp <;> omega)) _)) hb3
    replace HB := bth HB hq3
    replace hO := hO.later hq3
    have HO := Lib.hid hO; have HOZ := Lib.hid OZ; have HBX := Lib.hid HB
    clear OZ hO
    generalize w3 = wS at *
    go_wp2
    go_loopw [6, 8] (fun y v wr => ∃ k : Nat, k ≤ zs.length ∧ v = .int .i64 k ∧ OwnV w.heap.size 9 1 bC wr y (wcN xs zs k) ∧ OwnV 0 3 1 intC wr (.slice Z zs.length z) zs ∧ Below w.heap.size w wr) (fun _ v _ => zs.length - (intOf v).toNat)
    case atStart => exact ⟨0, Nat.zero_le _, rfl, HO.out, HOZ.out.base (Nat.zero_le _), HBX.out⟩
    case round =>
      clear HO HOZ HBX HB
      obtain ⟨k, hk, rfl, hO, OZ, HB⟩ := hrel
      by_cases hlt : k < zs.length
      · obtain ⟨b2, o2, m, rfl, hb2, hm, hcm⟩ := (OZ.rds intC_len).at_ (Below.refl _ _) hlt
        obtain ⟨m, rfl, hmx⟩ := HZM.out m (List.mem_of_getElem? hm)
        have f0 := hcm 0 _ rfl
        simp only [Nat.mul_one, Nat.add_zero] at f0
        have g0 := f0 (Kin.self _)
        simp only [Kin.self] at g0
        obtain ⟨b, off, x, rfl, hbl, hx, hcx⟩ := HR.out.rds.at_ HB hmx
        have hok := HR.out.ok x (List.mem_of_getElem? hx)
        have hw5 := claB_words HG.out hx
        have hsu := wcN_succ hm hx
        have HSU := Lib.hid hsu
        obtain ⟨wa, wc, ws, na, nc, ns⟩ := x
        have f1 := hcx 0 _ rfl
        simp only [Nat.add_zero] at f1
        have g1 := f1 (Kin.self _)
        simp only [Kin.self] at g1
        have hws : ws.length ≤ 5 := hw5
        have hwl := HLN.out k
        have HRW : Hid (Rds 1 bC wr wa ws) := Lib.hid (hok.rw.below HB)
        have HNW : Hid (wa = none → ws = [] ∧ wc = 0) := Lib.hid hok.nw
        have hbs := HB.size
        have HMX := hmx
        clear hcm f0 hcx f1 hok hsu hx hm hw5
        go_wp2_with ((at_builtin; refine wpList_app rfl _ _ 36 rfl w.heap.size 9 i0 _ 1 16 Try.underlying36 hi0 hz0 hz1 hz2 rfl (by decide) bC bC_len bC_one _ (wcN xs zs k) rfl hO wa wc ws rfl HRW.out HNW.out (by unfold maxLen; omega) (by omega) hbs ?_; intro v4 w4 hO4 hg4))
        have hrs : Below w.heap.size w w4 := HB.grown hg4 hbs (fun q hq => (hO.lt q hq).1)
        have OZ4 := OZ.kept hg4 (fun q hq => apartC OZ hO (by decide) q hq)
        clear OZ hO hg4
        go_roundw
        case rel => exact ⟨k + 1, by omega, by go_num, by rw [HSU.out]; exact hO4, OZ4, hrs⟩
        case measure => simp [intOf]; omega
      · obtain rfl : k = zs.length := by omega
        obtain ⟨Y2, y2, hv2, _, _, _⟩ := hO.form bC_len
        rw [← HDL.out] at hO hv2
        subst hv2
        cases fine
        all_goals
          go_wp2_with fail
          refine (HIT.out Y2 y2 _ (hO.rds bC_len)).mono ?_
          rintro e w4 ⟨rfl, hb4⟩
          have hq4 : Below wr.heap.size wr w4 := bth (by repeat (first | exact Below.refl _ _ | refine Below.alloc ?_ (by first | exact Nat.le_refl _ | (simp <;> omega)) _ | refine Below.setCell ?_ (by first | exact Nat.le_refl _ | (simp <;> omega)) _)) hb4
          replace HB := bth HB hq4
          go_wp2
        · go_ret2
          exact ⟨_, 0, rfl, (OwnV.made (f := bC) (sz := 1) _ (B := w.heap.size) HB.size 9), bth HB (bl1 _ _)⟩
        · go_ret2
          exact ⟨Y2, y2, rfl, hO.later hq4, HB⟩
end Go.Proofs.Ytndenojanflkgaa
