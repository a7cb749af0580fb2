/- Clauses: standing and fallen ones, dependents and closures (the program). -/
import Derived.Test.YtndenojanflkgaaCl9
namespace Go.G9
open Go.RowKit
end Go.G9
namespace Go.Proofs.Ytndenojanflkgaa
open Go.RowKit Go.G9
theorem flatB (bs : List Bool) : bs.flatMap blC = bs.map Value.bool := by
  induction bs with
  | nil => rfl
  | cons a bs ih => rw [List.flatMap_cons, ih]; rfl
/-- A store into a row of truths of the call's own. -/
theorem own_setB {B g n c k : Nat} {e : TypeId} {w : World} {bs : List Bool} (b : Bool) (h : OwnV B e 1 blC w (.slice (some ⟨g, 0, none⟩) n c) bs) : OwnV B e 1 blC (w.setCell ⟨g, k, none⟩ (.bool b)) (.slice (some ⟨g, 0, none⟩) n c) (bs.set k b) := by
  have h1 := ownsRow_set (j := k) (u := .bool b) h rfl
  unfold OwnV
  rw [flatB] at h1
  rw [flatB, List.map_set, List.length_set]
  exact h1
theorem own_cellB {B g n c k : Nat} {e : TypeId} {w : World} {bs : List Bool} {b : Bool} (h : OwnV B e 1 blC w (.slice (some ⟨g, 0, none⟩) n c) bs) (hk : bs[k]? = some b) : w.cell? ⟨g, k, none⟩ = some (.bool b) ∧ w.frozen? ⟨g, k, none⟩ = false := by
  have hlt := (List.getElem?_eq_some_iff.1 hk).1
  have h1 := ownsRow_cellAt (j := k) h rfl (by rw [flatB]; simpa using hlt)
  refine ⟨h1.1.trans ?_, h1.2⟩
  have e1 : (bs.flatMap blC)[k]? = some (.bool b) := by rw [flatB, List.getElem?_map, hk]; rfl
  rw [List.getElem?_eq_getElem (by rw [flatB]; simpa using hlt)] at e1
  exact e1
theorem own_block0 {T : Type} {B sz n c : Nat} {f : T → List Value} {e : TypeId} {w : World} {A : Option Addr} {xs : List T} (h : OwnV B e sz f w (.slice A n c) xs) (h0 : 0 < n) : ∃ g, A = some ⟨g, 0, none⟩ ∧ B ≤ g ∧ g < w.heap.size := by
  rcases h.2 with ⟨hn, hx⟩ | ⟨g, cap, cur, hv, hB, hh, r⟩
  · injection hn with h1 h2 h3; omega
  · injection hv with h1 h2 h3
    exact ⟨g, h1, hB, Blk.lt (w := w) (g := g) (t := e) (cs := cur) hh⟩
theorem hO_lt {T : Type} {B sz g n c : Nat} {f : T → List Value} {e : TypeId} {w : World} {xs : List T} (h : OwnV B e sz f w (.slice (some ⟨g, 0, none⟩) n c) xs) : g < w.heap.size := (h.lt g rfl).2
theorem info_boolS : ∃ i0, Try.prog.info? 4 = some i0 ∧ i0.zero = some (.bool false) ∧ i0.size = 1 ∧ i0.bytes = 1 := by
  obtain ⟨i0, hi, a, b, c⟩ := info_parts info_bool
  exact ⟨i0, hi, a, b, c⟩
/-- make([]bool, n). -/
theorem make_bools (n : Nat) (hn : n ≤ 1000) (w : World) : ∃ C, (Instr.makeSlice 25 (.int .i64 n) (.int .i64 n)).run Try.prog w = .ok (.slice (some ⟨w.heap.size, 0, none⟩) n n) (w.alloc (.cells C 4)) ∧ OwnV w.heap.size 4 1 blC (w.alloc (.cells C 4)) (.slice (some ⟨w.heap.size, 0, none⟩) n n) (blF n (fun _ => false)) := by
  obtain ⟨i0, hi, hy0, hy1, hy2⟩ := info_boolS
  have hmk := run_make_rowN (P := Try.prog) 25 4 i0 _ Try.underlying25 hi hy0 .i64 .i64 n n (Nat.le_refl _) (by rw [hy2]; omega) (by omega) w
  rw [hy1, Nat.mul_one] at hmk
  refine ⟨_, hmk, ?_⟩
  have h := OwnV.filled (B := w.heap.size) (f := blC) (sz := 1) (xs := blF n (fun _ => false)) (Blk.new w 4 (madeCells (Value.bool false).cells n)) (Nat.le_refl _) (by simp [madeCells, blF_len]) (by rw [blF_len]; unfold maxLen; omega) (fun i x hx j u hu => by
    have hi' : i < n := by have := (List.getElem?_eq_some_iff.1 hx).1; rw [blF_len] at this; exact this
    rw [blF_at hi'] at hx
    cases hx
    cases j with
    | zero =>
      simp [blC] at hu
      subst hu
      simp [madeCells, hi', Value.cells]
      rw [Nat.mod_one]
      rfl
    | succ j => simp [blC] at hu)
  rw [blF_len] at h
  exact h
theorem chN_blF (n : Nat) (p : Nat → Bool) : chN (atP (blF n p)) n = chN p n := chN_congr fun _ hk => atP_at (blF_at hk)
/-- The standing clauses, if it can be said. -/
def stO (xs : List Cla) (ad : List Bool) : List Int := if voteB xs ad then chN (stB (ndF xs) (atP ad)) xs.length else []
theorem stO_yes {xs : List Cla} {ad : List Bool} (h : voteB xs ad = true) : stO xs ad = chN (stB (ndF xs) (atP ad)) xs.length := if_pos h
theorem stO_no {xs : List Cla} {ad : List Bool} (h : voteB xs ad = false) : stO xs ad = [] := by rw [stO, h]; rfl
theorem chosen_st (xs : List Cla) (ad : List Bool) : chN (atP (stF (ndF xs) (atP ad) xs.length)) (stF (ndF xs) (atP ad) xs.length).length = chN (stB (ndF xs) (atP ad)) xs.length := by
  rw [stF_len]
  exact chN_congr fun _ hk => atP_at (stB_at hk)
set_option maxHeartbeats 1000000 in
theorem iStanding_is (A : Option Addr) (c : Nat) (xs : List Cla) (D : Option Addr) (d : Nat) (ad : List Bool) (hl : ad.length ≤ 1000) (w : World) (hR : ClR w A xs) (hD : Rds 1 blC w D ad) :
  Calls Try.prog 6 #[.slice A xs.length c, .slice D ad.length d] w fun e w' => ∃ Y y, e = .returned (.tuple #[.slice Y (stO xs ad).length y, .bool (voteB xs ad)]) ∧ OwnV w.heap.size 3 1 intC w' (.slice Y (stO xs ad).length y) (stO xs ad) ∧ Below w.heap.size w w' := by
  have HR := Lib.hid hR; have HD := Lib.hid hD; clear hR hD
  cases hv : voteB xs ad
  · rw [stO_no hv]
    have HV := Lib.hid hv; clear hv
    go_enter Try.func6, Try.ntmps6
    go_wp2_with fail
    refine (isVote_is A c xs D d ad hl _ HV.out _ HR.out).mono ?_
    rintro e w1 ⟨rfl, hb1⟩
    have hq1 : Below w.heap.size w w1 := bth (by repeat (first | exact Below.refl _ _ | refine Below.alloc ?_ (by first | exact Nat.le_refl _ | (simp <;> omega)) _ | refine Below.setCell ?_ (by first | exact Nat.le_refl _ | (simp <;> omega)) _)) hb1
    have HB : Below w.heap.size w w1 := hq1
    go_wp2
    go_ret2
    exact ⟨none, 0, rfl, OwnV.nil, HB⟩
  · rw [stO_yes hv]
    have HS := Lib.hid (fun W h h' => standing_is A c xs D d ad hv W h h')
    have HC := Lib.hid (fun Y y W h => by
      have h := chosen_is Y y (stF (ndF xs) (atP ad) xs.length) (by rw [stF_len]; exact HR.out.len) W h
      rw [chosen_st] at h
      exact h)
    have HV := Lib.hid hv; clear hv
    have hn := HR.out.len
    have HL : Hid ((stF (ndF xs) (atP ad) xs.length).length = xs.length) := Lib.hid (stF_len _ _ _)
    generalize stF (ndF xs) (atP ad) xs.length = bs at *
    generalize chN (stB (ndF xs) (atP ad)) xs.length = zs at *
    go_enter Try.func6, Try.ntmps6
    go_wp2_with fail
    refine (isVote_is A c xs D d ad hl _ HV.out _ HR.out).mono ?_
    rintro e w1 ⟨rfl, hb1⟩
    have hq1 : Below w.heap.size w w1 := bth (by repeat (first | exact Below.refl _ _ | refine Below.alloc ?_ (by first | exact Nat.le_refl _ | (simp <;> omega)) _ | refine Below.setCell ?_ (by first | exact Nat.le_refl _ | (simp <;> omega)) _)) hb1
    have HB : Below w.heap.size w w1 := hq1
    go_wp2_with fail
    refine (HS.out _ (HR.out.below HB) (HD.out.below HB)).mono ?_
    rintro e w2 ⟨Y, y, rfl, O, hb2⟩
    have hq2 : Below w1.heap.size w1 w2 := bth (by repeat (first | exact Below.refl _ _ | refine Below.alloc ?_ (by first | exact Nat.le_refl _ | (simp <;> omega)) _ | refine Below.setCell ?_ (by first | exact Nat.le_refl _ | (simp <;> omega)) _)) hb2
    replace HB := bth HB hq2
    go_wp2_with fail
    refine (HC.out Y y _ (O.rds blC_len)).mono ?_
    rintro e w3 ⟨Z, z, rfl, OZ, hb3⟩
    have hq3 : Below w2.heap.size w2 w3 := bth (by repeat (first | exact Below.refl _ _ | refine Below.alloc ?_ (by first | exact Nat.le_refl _ | (simp <;> omega)) _ | refine Below.setCell ?_ (by first | exact Nat.le_refl _ | (simp <;> omega)) _)) hb3
    replace HB := bth HB hq3
    have s1 := hq1.size
    have s2 := hq2.size
    go_wp2
    go_ret2
    exact ⟨Z, z, rfl, OZ.base (by omega), HB⟩
/-- The fallen clauses, if it can be said. -/
def faP (xs : List Cla) (ad : List Bool) (i : Nat) : Bool := atP ad i && !stB (ndF xs) (atP ad) i
def faO (xs : List Cla) (ad : List Bool) : List Int := if voteB xs ad then chN (faP xs ad) xs.length else []
theorem faO_yes {xs : List Cla} {ad : List Bool} (h : voteB xs ad = true) : faO xs ad = chN (faP xs ad) xs.length := if_pos h
theorem faO_no {xs : List Cla} {ad : List Bool} (h : voteB xs ad = false) : faO xs ad = [] := by rw [faO, h]; rfl
def faK (xs : List Cla) (ad : List Bool) (k i : Nat) : Bool := if i < k then faP xs ad i else stB (ndF xs) (atP ad) i
theorem faK_zero (xs : List Cla) (ad : List Bool) : stF (ndF xs) (atP ad) xs.length = blF xs.length (faK xs ad 0) := by
  rw [stF_bl]; exact blF_congr fun _ _ => by simp [faK]
theorem faK_succ (xs : List Cla) (ad : List Bool) (k : Nat) : (blF xs.length (faK xs ad k)).set k (faP xs ad k) = blF xs.length (faK xs ad (k + 1)) := by
  rw [blF_set]
  refine blF_congr fun i _ => ?_
  unfold faK
  by_cases h : i = k
  · subst h; simp
  · by_cases h2 : i < k
    · simp [h, h2, show i < k + 1 by omega]
    · simp [h, h2, show ¬ i < k + 1 by omega]
theorem faK_all (xs : List Cla) (ad : List Bool) : chN (atP (blF xs.length (faK xs ad xs.length))) (blF xs.length (faK xs ad xs.length)).length = chN (faP xs ad) xs.length := by
  rw [blF_len, chN_blF]
  exact chN_congr fun _ hk => by simp [faK, hk]
set_option maxHeartbeats 2000000 in
theorem iFallen_is (A : Option Addr) (c : Nat) (xs : List Cla) (D : Option Addr) (d : Nat) (ad : List Bool) (hl : ad.length ≤ 1000) (w : World) (hR : ClR w A xs) (hD : Rds 1 blC w D ad) :
  Calls Try.prog 11 #[.slice A xs.length c, .slice D ad.length d] w fun e w' => ∃ Y y, e = .returned (.tuple #[.slice Y (faO xs ad).length y, .bool (voteB xs ad)]) ∧ OwnV w.heap.size 3 1 intC w' (.slice Y (faO xs ad).length y) (faO xs ad) ∧ Below w.heap.size w w' := by
  have HR := Lib.hid hR; have HD := Lib.hid hD; clear hR hD
  cases hv : voteB xs ad
  · rw [faO_no hv]
    have HV := Lib.hid hv; clear hv
    go_enter Try.func11, Try.ntmps11
    go_wp2_with fail
    refine (isVote_is A c xs D d ad hl _ HV.out _ HR.out).mono ?_
    rintro e w1 ⟨rfl, hb1⟩
    have hq1 : Below w.heap.size w w1 := bth (by repeat (first | exact Below.refl _ _ | refine Below.alloc ?_ (by first | exact Nat.le_refl _ | (simp <;> omega)) _ | refine Below.setCell ?_ (by first | exact Nat.le_refl _ | (simp <;> omega)) _)) hb1
    have HB : Below w.heap.size w w1 := hq1
    go_wp2
    go_ret2
    exact ⟨none, 0, rfl, OwnV.nil, HB⟩
  · rw [faO_yes hv]
    have HS := Lib.hid (fun W h h' => standing_is A c xs D d ad hv W h h')
    rw [stF_len, faK_zero] at HS
    have HC := Lib.hid (fun Y y (W : World) h => by
      have h := chosen_is Y y (blF xs.length (faK xs ad xs.length)) (by rw [blF_len]; exact HR.out.len) W h
      rw [faK_all, blF_len] at h
      exact h)
    generalize chN (faP xs ad) xs.length = zs at *
    have hla : ad.length = xs.length := by
      simp only [voteB, Bool.and_eq_true] at hv
      have := hv.2; simp at this; omega
    have HLA := Lib.hid hla; clear hla
    have HV := Lib.hid hv; clear hv
    have hn := HR.out.len
    go_enter Try.func11, Try.ntmps11
    go_wp2_with fail
    refine (isVote_is A c xs D d ad hl _ HV.out _ HR.out).mono ?_
    rintro e w1 ⟨rfl, hb1⟩
    have hq1 : Below w.heap.size w w1 := bth (by repeat (first | exact Below.refl _ _ | refine Below.alloc ?_ (by first | exact Nat.le_refl _ | (simp <;> omega)) _ | refine Below.setCell ?_ (by first | exact Nat.le_refl _ | (simp <;> omega)) _)) hb1
    have HB : Below w.heap.size w w1 := hq1
    go_wp2_with fail
    refine (HS.out _ (HR.out.below HB) (HD.out.below HB)).mono ?_
    rintro e w2 ⟨Y, y, rfl, O, hb2⟩
    have hq2 : Below w1.heap.size w1 w2 := bth (by repeat (first | exact Below.refl _ _ | refine Below.alloc ?_ (by first | exact Nat.le_refl _ | (simp <;> omega)) _ | refine Below.setCell ?_ (by first | exact Nat.le_refl _ | (simp <;> omega)) _)) hb2
    replace HB := bth HB hq2
    have s1 := hq1.size
    replace O := O.base (B' := w.heap.size) (by omega)
    clear hq1 hq2 s1 hb1 hb2
    have HB0 := Lib.hid HB
    generalize w2 = wA at *
    go_wp2
    go_loopw [17] (fun i wr => ∃ k : Nat, k ≤ xs.length ∧ i = .int .i64 k ∧ OwnV w.heap.size 4 1 blC wr (.slice Y xs.length y) (blF xs.length (faK xs ad k)) ∧ Below w.heap.size w wr) (fun i _ => xs.length - (intOf i).toNat)
    case atStart => exact ⟨0, Nat.zero_le _, rfl, O, HB⟩
    case round =>
      clear O HB
      obtain ⟨k, hk, rfl, O, HB⟩ := hrel
      have hb9 := HB
      by_cases hlt : k < xs.length
      · obtain ⟨bd, od, a, rfl, hbd, had, hcd⟩ := HD.out.at_ HB (k := k) (by have := HLA.out; omega)
        have hka : (k : Int) < (ad.length : Int) := by have := HLA.out; omega
        have f0 := hcd 0 _ rfl
        simp only [Nat.mul_one, Nat.add_zero] at f0
        have g0 := f0 (Kin.self _)
        simp only [Kin.self] at g0
        have hfa : faP xs ad k = (a && !stB (ndF xs) (atP ad) k) := by rw [faP, atP_at had]
        have HFA := Lib.hid hfa
        have hsk : faK xs ad k k = stB (ndF xs) (atP ad) k := by simp [faK]
        have HS2 := Lib.hid (faK_succ xs ad k)
        obtain ⟨g, rfl, hBg, hgl⟩ := own_block0 O (by omega)
        obtain ⟨q0, fq0⟩ := own_cellB O (blF_at hlt)
        rw [hsk] at q0
        clear hcd f0 had hfa hsk
        generalize stB (ndF xs) (atP ad) k = sv at *
        cases a
        case false =>
          have e : faP xs ad k = false := HFA.out
          have O2 := own_setB (k := k) (false) O
          rw [← e, HS2.out, e] at O2
          go_wp2
          go_roundw
          case rel => exact ⟨k + 1, by omega, by go_num, O2, HB.setCell hBg _⟩
          case measure => simp [intOf]; omega
        case true =>
          have e : faP xs ad k = !sv := HFA.out
          have O2 := own_setB (k := k) (!sv) O
          rw [← e, HS2.out, e] at O2
          go_wp2
          go_roundw
          case rel => exact ⟨k + 1, by omega, by go_num, O2, HB.setCell hBg _⟩
          case measure => simp [intOf]; omega
      · obtain rfl : k = xs.length := by omega
        have R := O.rds blC_len
        go_wp2_with fail
        refine (HC.out Y y _ R).mono ?_
        rintro e w3 ⟨Z, z, rfl, OZ, hb3⟩
        have hq3 : Below wr.heap.size wr w3 := bth (by repeat (first | exact Below.refl _ _ | refine Below.alloc ?_ (by first | exact Nat.le_refl _ | (simp <;> omega)) _ | refine Below.setCell ?_ (by first | exact Nat.le_refl _ | (simp <;> omega)) _)) hb3
        replace HB := bth HB hq3
        have s1 := hq3.size
        have s2 := hb9.size
        go_wp2
        go_ret2
        exact ⟨Z, z, rfl, OZ.base (by omega), HB⟩
end Go.Proofs.Ytndenojanflkgaa
