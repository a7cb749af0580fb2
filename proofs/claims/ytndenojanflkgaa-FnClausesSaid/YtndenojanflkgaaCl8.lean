/- Clauses: structures; whether words and clauses are valid. -/
import Derived.Test.YtndenojanflkgaaCl5
import Derived.Test.YtndenojanflkgaaCl7
import Derived.Test.YtndenojanflkgaaCl4
import Derived.Deep.Cut
import Derived.Test.YtndenojanflkgaaCl6
namespace Go.Proofs.Ytndenojanflkgaa
open Go.RowKit Go.G9
/-- A clause as a value: its two slices, with what they hold. -/
structure Cla where
  wa : Option Addr
  wc : Nat
  words : List ByteArray
  na : Option Addr
  nc : Nat
  needs : List Int
def Cla.cells (x : Cla) : List Value := [.slice x.wa x.words.length x.wc, .slice x.na x.needs.length x.nc]
theorem cla_len (x : Cla) : (Cla.cells x).length = 2 := rfl
theorem cla_one (x : Cla) : ∀ u, u ∈ Cla.cells x → u.oneCell' = true := by
  intro u hu
  simp only [Cla.cells, List.mem_cons, List.not_mem_nil, or_false] at hu
  rcases hu with rfl | rfl <;> rfl
/-- What a clause's slices are in a world. -/
structure ClOk (w : World) (x : Cla) : Prop where
  rw : Rds 1 bC w x.wa x.words
  rn : Rds 1 intC w x.na x.needs
  lw : x.words.length ≤ 1000
  ln : x.needs.length ≤ 1000
  sw : ∀ s, s ∈ x.words → s.size ≤ 1000
  nw : x.wa = none → x.words = [] ∧ x.wc = 0
theorem ClOk.below {w w' : World} {x : Cla} (h : ClOk w x) (hb : Below w.heap.size w w') : ClOk w' x := ⟨h.rw.below hb, h.rn.below hb, h.lw, h.ln, h.sw, h.nw⟩
/-- A list of clauses, each as it ought to be. -/
structure ClR (w : World) (A : Option Addr) (xs : List Cla) : Prop where
  rds : Rds 2 Cla.cells w A xs
  ok : ∀ x, x ∈ xs → ClOk w x
  len : xs.length ≤ 1000
theorem ClR.below {w w' : World} {A : Option Addr} {xs : List Cla} (h : ClR w A xs) (hb : Below w.heap.size w w') : ClR w' A xs := ⟨h.rds.below hb, fun x hx => (h.ok x hx).below hb, h.len⟩
def wordsB (ws : List ByteArray) (lo hi : Int) : Bool := inB ws.length lo hi && !(ws.any (fun s => !wordB s))
def claStep (xs : List Cla) (i : Nat) : Bool := match xs[i]? with | some x => wordsB x.words 1 5 && ascB x.needs 0 ((i : Int) - 1) | none => true
def claB (xs : List Cla) : Bool := allTo (claStep xs) xs.length && decide (xs.length ≤ 8)
def ndF (xs : List Cla) (i : Nat) : List Int := match xs[i]? with | some x => x.needs | none => []
theorem asc_memC {xs : List Int} {lo hi : Int} (h : ascB xs lo hi = true) : ∀ x ∈ xs, lo ≤ x ∧ x ≤ hi := by
  intro x hx
  obtain ⟨k, hk, rfl⟩ := List.mem_iff_getElem.1 hx
  have h0 := allTo_iff.1 h k hk
  cases k with
  | zero =>
    simp only [ascStep, List.getElem?_eq_getElem hk] at h0
    have h1 := inB_iff.1 h0
    exact ⟨h1.1, h1.2⟩
  | succ j =>
    have hj : j < xs.length := by omega
    simp only [ascStep, List.getElem?_eq_getElem hk, List.getElem?_eq_getElem hj, Bool.and_eq_true, decide_eq_true_eq] at h0
    have h1 := inB_iff.1 h0.1
    exact ⟨h1.1, h1.2⟩
theorem claB_len {xs : List Cla} (h : claB xs = true) : xs.length ≤ 8 := by
  simp only [claB, Bool.and_eq_true, decide_eq_true_eq] at h; exact h.2
theorem claB_bk {xs : List Cla} (h : claB xs = true) : Bk (ndF xs) xs.length := by
  intro i hi x hx
  simp only [claB, Bool.and_eq_true] at h
  have h1 := allTo_iff.1 h.1 i hi
  unfold claStep at h1
  unfold ndF at hx
  rw [List.getElem?_eq_getElem hi] at h1 hx
  dsimp only at h1 hx
  simp only [Bool.and_eq_true] at h1
  have := asc_memC h1.2 x hx
  omega
theorem claB_needs {xs : List Cla} (h : claB xs = true) {i : Nat} {x : Cla} (hx : xs[i]? = some x) : ∀ n, n ∈ x.needs → 0 ≤ n ∧ n < (i : Int) := by
  intro n hn
  have hi := (List.getElem?_eq_some_iff.1 hx).1
  exact claB_bk h i hi n (by simp only [ndF, hx]; exact hn)
set_option maxHeartbeats 1000000 in
set_option maxRecDepth 100000 in
theorem indexFunc_str (A : Option Addr) (c : Nat) (xs : List ByteArray) (hn : xs.length ≤ 1048576) (f : FuncId) (cv : Array Value) (hcall : ∀ args W, (callFunc f args).run Try.prog W = .ok (.enter f args) W) (p : ByteArray → Bool) (v : Int) (hv : idxB p xs = v) (w : World) (hR : Rds 1 bC w A xs)
    (hf : ∀ x, x ∈ xs → ∀ W, Below w.heap.size w W → Calls Try.prog f (#[.string x] ++ cv) W fun e w' => e = .returned (.bool (p x)) ∧ Below W.heap.size W w') :
  Calls Try.prog 54 #[.slice A xs.length c, .func (.func f) #[] cv] w fun e w' => e = .returned (.int .i64 v) ∧ Below w.heap.size w w' := by
  subst hv
  have HF := Lib.hid hf; clear hf
  go_enter Try.func54, Try.ntmps54
  go_wp2
  go_loopw [8] (fun i wr => ∃ k : Nat, k ≤ xs.length ∧ i = .int .i64 k ∧ allTo (fun i => !atB p xs i) k = true ∧ Below w.heap.size w wr) (fun i _ => xs.length - (intOf i).toNat)
  case atStart => exact ⟨0, Nat.zero_le _, rfl, rfl, Below.refl _ _⟩
  case round =>
    obtain ⟨k, hk, rfl, hl, hb⟩ := hrel
    have HL := Lib.hid hl; clear hl
    by_cases hlt : k < xs.length
    · obtain ⟨b, off, x, rfl, hbl, hx, hcx⟩ := hR.at_ hb hlt
      have HF' := Lib.hid (HF.out x (List.mem_of_getElem? hx))
      have f0 := hcx 0 _ rfl
      simp only [Nat.add_zero] at f0
      simp only [Nat.mul_one] at f0
      have g0 := f0 (Kin.self _)
      simp only [Kin.self] at g0
      have HX := Lib.hid hx; clear hx hcx
      go_wp2_with fail
      refine (HF'.out _ hb).mono ?_
      rintro e w' ⟨rfl, hb'⟩
      cases hp : p x
      · go_wp2
        go_roundw
        case rel => exact ⟨k + 1, by omega, by go_num, allTo_go HL.out (by simp [atB, HX.out, hp]), bth hb hb'⟩
        case measure => simp [intOf]; omega
      · go_wp2
        go_ret
        exact ⟨ret_int (idxB_found hlt HL.out (by simp [atB, HX.out, hp])).symm, bth hb hb'⟩
    · obtain rfl : k = xs.length := by omega
      go_wp2
      go_ret
      exact ⟨ret_int (idxB_none HL.out).symm, hb⟩
theorem containsFunc_str (A : Option Addr) (c : Nat) (xs : List ByteArray) (hn : xs.length ≤ 1048576) (f : FuncId) (cv : Array Value) (hcall : ∀ args W, (callFunc f args).run Try.prog W = .ok (.enter f args) W) (p : ByteArray → Bool) (v : Bool) (hv : xs.any p = v) (w : World) (hR : Rds 1 bC w A xs)
    (hf : ∀ x, x ∈ xs → ∀ W, Below w.heap.size w W → Calls Try.prog f (#[.string x] ++ cv) W fun e w' => e = .returned (.bool (p x)) ∧ Below W.heap.size W w') :
  Calls Try.prog 47 #[.slice A xs.length c, .func (.func f) #[] cv] w fun e w' => e = .returned (.bool v) ∧ Below w.heap.size w w' := by
  subst hv
  have HF := Lib.hid hf; clear hf
  have hg := idxB_ge p xs
  have HG := Lib.hid hg; clear hg
  go_enter Try.func47, Try.ntmps47
  go_wp2_with fail
  refine (indexFunc_str A c xs hn f cv hcall p _ rfl _ hR HF.out).mono ?_
  rintro e w' ⟨rfl, hb⟩
  go_wp2
  go_ret
  exact ⟨ret_bool HG.out, hb⟩
theorem notWord_is (x : ByteArray) (hx : x.size ≤ maxLen) (W : World) :
  Calls Try.prog 48 (#[.string x] ++ #[]) W fun e w' => e = .returned (.bool (!wordB x)) ∧ Below W.heap.size W w' := by
  have HV : Hid (wordB x = wordB x) := Lib.hid rfl
  generalize hv : wordB x = v at *
  have HV2 := Lib.hid hv; clear hv
  go_enter Try.func48, Try.ntmps48
  go_wp2_with (go_at_call 49; refine (isWord_is x hx _ HV2.out _).mono ?_; rintro e w' ⟨rfl, rfl⟩)
  go_ret
  exact ⟨rfl, Below.refl _ _⟩
set_option maxHeartbeats 1000000 in
theorem areWords_is (A : Option Addr) (c : Nat) (ws : List ByteArray) (lo hi : Int) (hn : ws.length ≤ 1000) (hs : ∀ s, s ∈ ws → s.size ≤ 1000) (v : Bool) (hv : wordsB ws lo hi = v) (w : World) (hR : Rds 1 bC w A ws) :
  Calls Try.prog 29 #[.slice A ws.length c, .int .i64 lo, .int .i64 hi] w fun e w' => e = .returned (.bool v) ∧ Below w.heap.size w w' := by
  unfold wordsB at hv
  cases h1 : inB ws.length lo hi
  · rw [h1] at hv
    subst hv
    go_enter Try.func29, Try.ntmps29
    go_wp2_with (go_at_call 34; refine (inside_is _ _ _ _ h1 _).mono ?_; rintro e w' ⟨rfl, rfl⟩)
    go_ret
    exact ⟨rfl, Below.refl _ _⟩
  · rw [h1] at hv
    subst hv
    generalize ha : ws.any (fun s => !wordB s) = a
    have HA := Lib.hid ha; clear ha
    have HS := Lib.hid hs; clear hs
    have HF : Hid (∀ x, x ∈ ws → ∀ V, Below w.heap.size w V → Calls Try.prog 48 (#[.string x] ++ #[]) V fun e w' => e = .returned (.bool ((fun s => !wordB s) x)) ∧ Below V.heap.size V w') := Lib.hid fun x hx V _ => notWord_is x (by have := HS.out x hx; unfold maxLen; omega) V
    go_enter Try.func29, Try.ntmps29
    go_wp2_with (first | (go_at_call 34; refine (inside_is _ _ _ _ h1 _).mono ?_; rintro e w' ⟨rfl, rfl⟩) | (go_at_call 47; refine (containsFunc_str A c ws (by omega) 48 #[] (run_enter Try.func48 (by kernel_rfl) (by kernel_rfl)) (fun s => !wordB s) _ HA.out _ hR HF.out).mono ?_; rintro e w' ⟨rfl, hb'⟩))
    go_ret
    exact ⟨rfl, hb'⟩
set_option maxHeartbeats 2000000 in
set_option maxRecDepth 100000 in
theorem areClauses_is (A : Option Addr) (c : Nat) (xs : List Cla) (v : Bool) (hv : claB xs = v) (w : World) (hR : ClR w A xs) :
  Calls Try.prog 9 #[.slice A xs.length c] w fun e w' => e = .returned (.bool v) ∧ Below w.heap.size w w' := by
  subst hv
  have hn := hR.len
  have HR := Lib.hid hR; clear hR
  go_enter Try.func9, Try.ntmps9
  go_wp2
  go_loopw [7] (fun i wr => ∃ k : Nat, k ≤ xs.length ∧ i = .int .i64 k ∧ allTo (claStep xs) k = true ∧ Below w.heap.size w wr) (fun i _ => xs.length - (intOf i).toNat)
  case atStart => exact ⟨0, Nat.zero_le _, rfl, rfl, Below.refl _ _⟩
  case round =>
    obtain ⟨k, hk, rfl, hl, hb⟩ := hrel
    have HL := Lib.hid hl; clear hl
    by_cases hlt : k < xs.length
    · obtain ⟨b, off, x, rfl, hbl, hx, hcx⟩ := HR.out.rds.at_ hb hlt
      have hok := (HR.out.ok x (List.mem_of_getElem? hx)).below hb
      obtain ⟨wa, wc, ws, na, nc, ns⟩ := x
      have f0 := hcx 0 _ rfl
      have f1 := hcx 1 _ rfl
      simp only [Nat.add_zero] at f0
      have g0 := f0 (Kin.self _)
      have g1 := f1 (Kin.self _)
      simp only [Kin.self] at g0
      simp only [Kin.self] at g1
      have HX := Lib.hid hx; clear hx hcx f0 f1
      have HB := hb
      go_upto_region 4 with fail
      have hq1 : Below wr.heap.size wr (World.alloc wr (.cells #[.slice wa ws.length wc, .slice na ns.length nc] 53)) := bl1 wr _
      have hX : Blk (World.alloc wr (.cells #[.slice wa ws.length wc, .slice na ns.length nc] 53)) (wr.heap.size) 53 #[.slice wa ws.length wc, .slice na ns.length nc] := by repeat (first | exact Blk.new _ _ _ | exact Blk.new2 _ _ _ _ | exact Blk.new3 _ _ _ _ _ | exact Blk.new4 _ _ _ _ _ _ | refine Blk.alloc ?_ _)
      generalize World.alloc wr (.cells #[.slice wa ws.length wc, .slice na ns.length nc] 53) = wX at *
      replace HB := bth HB hq1
      have p0 := (hX.cell 0).trans (show _ = some (.slice wa ws.length wc) from rfl)
      have p1 := (hX.cell 1).trans (show _ = some (.slice na ns.length nc) from rfl)
      have hok2 := Lib.hid (hok.below hq1); clear hok
      have hp0 := hX.lt
      clear g0 g1 hb
      cases h1 : wordsB ws 1 5
      · go_wp2_with (go_at_call 29; refine (areWords_is wa wc ws 1 5 hok2.out.lw hok2.out.sw _ h1 _ hok2.out.rw).mono ?_; rintro e w' ⟨rfl, hb'⟩)
        go_ret
        exact ⟨ret_bool (by rw [claB, allTo_not hlt (by simp [claStep, HX.out, h1])]; rfl), bth HB hb'⟩
      · have H1 := Lib.hid h1; clear h1
        cases h2 : ascB ns 0 ((k : Int) - 1)
        all_goals
          have H2 := Lib.hid h2; clear h2
          go_wp2_with fail
          refine (areWords_is wa wc ws 1 5 hok2.out.lw hok2.out.sw _ H1.out _ hok2.out.rw).mono ?_
          rintro e w2 ⟨rfl, hb2⟩
          have hq2 : Below wX.heap.size wX w2 := bth (by repeat (first | exact Below.refl _ _ | refine Below.alloc ?_ (by first | exact Nat.le_refl _ | (simp <;> omega)) _ | refine Below.setCell ?_ (by first | exact Nat.le_refl _ | (simp <;> omega)) _)) hb2
          replace HB := bth HB hq2
          replace hX := hX.below hq2 hX.lt
          replace p0 := (hX.cell 0).trans (show _ = some (.slice wa ws.length wc) from rfl)
          replace p1 := (hX.cell 1).trans (show _ = some (.slice na ns.length nc) from rfl)
          go_wp2_with fail
          refine (ascending_is na nc ns 0 ((k : Int) - 1) (by have : ns.length ≤ 1000 := hok2.out.ln; omega) _ H2.out _ (hok2.out.rn.below hq2)).mono ?_
          rintro e w3 ⟨rfl, hb3⟩
          have hq3 : Below w2.heap.size w2 w3 := bth (by repeat (first | exact Below.refl _ _ | refine Below.alloc ?_ (by first | exact Nat.le_refl _ | (simp <;> omega)) _ | refine Below.setCell ?_ (by first | exact Nat.le_refl _ | (simp <;> omega)) _)) hb3
          replace HB := bth HB hq3
          replace hX := hX.below hq3 hX.lt
          replace p0 := (hX.cell 0).trans (show _ = some (.slice wa ws.length wc) from rfl)
          replace p1 := (hX.cell 1).trans (show _ = some (.slice na ns.length nc) from rfl)
          go_wp2
        · go_ret
          exact ⟨ret_bool (by rw [claB, allTo_not hlt (by simp [claStep, HX.out, H1.out, H2.out])]; rfl), HB⟩
        · go_roundw
          case rel => exact ⟨k + 1, by omega, by go_num, allTo_go HL.out (by simp [claStep, HX.out, H1.out, H2.out]), HB⟩
          case measure => simp [intOf]; omega
    · obtain rfl : k = xs.length := by omega
      by_cases h8 : (xs.length : Int) ≤ 8
      · go_wp2
        go_ret
        exact ⟨ret_bool (by rw [claB, HL.out, decide_eq_true (by omega)]; rfl), hb⟩
      · go_wp2
        go_ret
        exact ⟨ret_bool (by rw [claB, HL.out, decide_eq_false (by omega)]; rfl), hb⟩
end Go.Proofs.Ytndenojanflkgaa
/- Clauses: whether they are valid (the reference); votes on clauses; the indices at which a list is true. -/
namespace Go.Proofs.Ytndenojanflkgaa
open Go.RowKit Go.G9
def blC (b : Bool) : List Value := [.bool b]
theorem blC_len (b : Bool) : (blC b).length = 1 := rfl
theorem blC_one (x : Bool) : ∀ u, u ∈ blC x → u.oneCell' = true := by
  intro u hu; simp only [blC, List.mem_cons, List.not_mem_nil, or_false] at hu; subst hu; rfl
theorem info_bool : (Try.prog.info? 4).map (fun i => (i.zero, i.size, i.bytes)) = some (some (.bool false), 1, 1) := by kernel_rfl
theorem any_take_no {T : Type} {p : T → Bool} {xs : List T} (h : allTo (fun i => !atB p xs i) xs.length = true) : xs.any p = false := by
  have := idxB_ge p xs
  rw [idxB_none h] at this
  exact this.symm
theorem any_at {T : Type} {p : T → Bool} {xs : List T} {k : Nat} {x : T} (hx : xs[k]? = some x) (h : p x = true) : xs.any p = true := List.any_eq_true.2 ⟨x, List.mem_of_getElem? hx, h⟩
def w9B (ws : List ByteArray) (m : Int) : Bool := decide ((ws.length : Int) ≤ m) && !(ws.any (fun s => !wordB s))
set_option maxHeartbeats 1000000 in
theorem l9Words_is (A : Option Addr) (c : Nat) (ws : List ByteArray) (m : Int) (hm : 0 ≤ m) (hn : ws.length ≤ 1000) (hs : ∀ s, s ∈ ws → s.size ≤ 1000) (v : Bool) (hv : w9B ws m = v) (w : World) (hR : Rds 1 bC w A ws) :
  Calls Try.prog 50 #[.slice A ws.length c, .int .i64 m] w fun e w' => e = .returned (.bool v) ∧ Below w.heap.size w w' := by
  subst hv
  have HS := Lib.hid hs; clear hs
  go_enter Try.func50, Try.ntmps50
  go_wp2
  go_loopw [5] (fun i wr => ∃ k : Nat, k ≤ ws.length ∧ i = .int .i64 k ∧ (k : Int) ≤ m + 1 ∧ allTo (fun i => !atB (fun s => !wordB s) ws i) k = true ∧ Below w.heap.size w wr) (fun i _ => ws.length - (intOf i).toNat)
  case atStart => exact ⟨0, Nat.zero_le _, rfl, by omega, rfl, Below.refl _ _⟩
  case round =>
    obtain ⟨k, hk, rfl, hkm, hl, hb⟩ := hrel
    have HL := Lib.hid hl; clear hl
    by_cases hlt : k < ws.length
    · by_cases hle : (k : Int) ≤ m
      · obtain ⟨b, off, x, rfl, hbl, hx, hcx⟩ := hR.at_ hb hlt
        have f0 := hcx 0 _ rfl
        simp only [Nat.mul_one, Nat.add_zero] at f0
        have g0 := f0 (Kin.self _)
        simp only [Kin.self] at g0
        have HX := Lib.hid hx; clear hx hcx f0
        have hsx : x.size ≤ maxLen := by have := HS.out x (List.mem_of_getElem? HX.out); unfold maxLen; omega
        cases hv : wordB x
        · have HV := Lib.hid hv; clear hv
          go_wp2_with (go_at_call 55; refine (l2Word_is x hsx _ HV.out _).mono ?_; rintro e w' ⟨rfl, rfl⟩)
          go_ret
          exact ⟨ret_bool (by rw [w9B, any_at (p := fun s => !wordB s) HX.out (by simp [HV.out])]; simp), hb⟩
        · have HV := Lib.hid hv; clear hv
          go_wp2_with (go_at_call 55; refine (l2Word_is x hsx _ HV.out _).mono ?_; rintro e w' ⟨rfl, rfl⟩)
          go_roundw
          case rel => exact ⟨k + 1, by omega, by go_num, by omega, allTo_go HL.out (by simp [atB, HX.out, HV.out]), hb⟩
          case measure => simp [intOf]; omega
      · have hgt : ¬ (ws.length : Int) ≤ m := by omega
        go_wp2
        go_ret
        exact ⟨ret_bool (by rw [w9B, decide_eq_false (by omega)]; rfl), hb⟩
    · obtain rfl : k = ws.length := by omega
      by_cases h8 : (ws.length : Int) ≤ m
      · go_wp2
        go_ret
        exact ⟨ret_bool (by rw [w9B, decide_eq_true (by omega), any_take_no HL.out]; rfl), hb⟩
      · go_wp2
        go_ret
        exact ⟨ret_bool (by rw [w9B, decide_eq_false (by omega)]; rfl), hb⟩
theorem words_split (ws : List ByteArray) : wordsB ws 1 5 = (!((ws.length : Int) == 0) && w9B ws 5) := by
  unfold wordsB w9B
  cases ws with
  | nil => rfl
  | cons a ws =>
    have e : (((a :: ws).length : Int) == 0) = false := by rw [beq_eq_false_iff_ne]; simp; omega
    rw [e]
    have e2 : inB ((a :: ws).length : Int) 1 5 = decide (((a :: ws).length : Int) ≤ 5) := by
      rw [Bool.eq_iff_iff, inB_iff, decide_eq_true_eq]
      constructor
      · intro h; exact h.2
      · intro h; exact ⟨by simp; omega, h⟩
    rw [e2]; simp
set_option maxHeartbeats 2000000 in
set_option maxRecDepth 100000 in
theorem l19Good_is (A : Option Addr) (c : Nat) (xs : List Cla) (v : Bool) (hv : claB xs = v) (w : World) (hR : ClR w A xs) :
  Calls Try.prog 31 #[.slice A xs.length c] w fun e w' => e = .returned (.bool v) ∧ Below w.heap.size w w' := by
  subst hv
  have hn := hR.len
  have HR := Lib.hid hR; clear hR
  go_enter Try.func31, Try.ntmps31
  go_wp2
  go_loopw [3] (fun i wr => ∃ k : Nat, k ≤ xs.length ∧ i = .int .i64 k ∧ k ≤ 9 ∧ allTo (claStep xs) k = true ∧ Below w.heap.size w wr) (fun i _ => xs.length - (intOf i).toNat)
  case atStart => exact ⟨0, Nat.zero_le _, rfl, by omega, rfl, Below.refl _ _⟩
  case round =>
    obtain ⟨k, hk, rfl, hk9, hl, hb⟩ := hrel
    have HL := Lib.hid hl; clear hl
    by_cases hlt : k < xs.length
    · by_cases hle : (k : Int) ≤ 8
      · obtain ⟨b, off, x, rfl, hbl, hx, hcx⟩ := HR.out.rds.at_ hb hlt
        have hok := (HR.out.ok x (List.mem_of_getElem? hx)).below hb
        obtain ⟨wa, wc, ws, na, nc, ns⟩ := x
        have f0 := hcx 0 _ rfl
        have f1 := hcx 1 _ rfl
        simp only [Nat.add_zero] at f0
        have g0 := f0 (Kin.self _)
        have g1 := f1 (Kin.self _)
        simp only [Kin.self] at g0
        simp only [Kin.self] at g1
        have HX := Lib.hid hx; clear hx hcx f0 f1
        have HB := hb
        go_upto_region 5 with fail
        have hq1 : Below wr.heap.size wr (World.alloc wr (.cells #[.slice wa ws.length wc, .slice na ns.length nc] 53)) := bl1 wr _
        have hX : Blk (World.alloc wr (.cells #[.slice wa ws.length wc, .slice na ns.length nc] 53)) (wr.heap.size) 53 #[.slice wa ws.length wc, .slice na ns.length nc] := by repeat (first | exact Blk.new _ _ _ | exact Blk.new2 _ _ _ _ | exact Blk.new3 _ _ _ _ _ | exact Blk.new4 _ _ _ _ _ _ | refine Blk.alloc ?_ _)
        generalize World.alloc wr (.cells #[.slice wa ws.length wc, .slice na ns.length nc] 53) = wX at *
        replace HB := bth HB hq1
        have p0 := (hX.cell 0).trans (show _ = some (.slice wa ws.length wc) from rfl)
        have p1 := (hX.cell 1).trans (show _ = some (.slice na ns.length nc) from rfl)
        have hok2 := Lib.hid (hok.below hq1); clear hok
        have hp0 := hX.lt
        have lns : ns.length ≤ 1000 := hok2.out.ln
        clear g0 g1 hb
        cases h0 : ((ws.length : Int) == 0)
        case true =>
          have H0 := Lib.hid h0
          go_wp2
          go_ret
          exact ⟨ret_bool (by rw [claB, allTo_not hlt (by simp only [claStep, HX.out, words_split, H0.out]; rfl)]; rfl), HB⟩
        case false =>
          have H0 := Lib.hid h0
          cases h1 : w9B ws 5
          case false =>
            have H1 := Lib.hid h1; clear h1
            go_wp2_with fail
            refine (l9Words_is wa wc ws 5 (by omega) hok2.out.lw hok2.out.sw _ H1.out _ hok2.out.rw).mono ?_
            rintro e w2 ⟨rfl, hb2⟩
            have hq2 : Below wX.heap.size wX w2 := bth (by repeat (first | exact Below.refl _ _ | refine Below.alloc ?_ (by first | exact Nat.le_refl _ | (simp <;> omega)) _ | refine Below.setCell ?_ (by first | exact Nat.le_refl _ | (simp <;> omega)) _)) hb2
            replace HB := bth HB hq2
            replace hX := hX.below hq2 hX.lt
            replace p0 := (hX.cell 0).trans (show _ = some (.slice wa ws.length wc) from rfl)
            replace p1 := (hX.cell 1).trans (show _ = some (.slice na ns.length nc) from rfl)
            go_wp2
            go_ret
            exact ⟨ret_bool (by rw [claB, allTo_not hlt (by simp only [claStep, HX.out, words_split, H0.out, H1.out]; rfl)]; rfl), HB⟩
          case true =>
            have H1 := Lib.hid h1; clear h1
            cases h2 : ascB ns 0 ((k : Int) - 1)
            all_goals
              have H2 := Lib.hid h2; clear h2
              go_wp2_with fail
              refine (l9Words_is wa wc ws 5 (by omega) hok2.out.lw hok2.out.sw _ H1.out _ hok2.out.rw).mono ?_
              rintro e w2 ⟨rfl, hb2⟩
              have hq2 : Below wX.heap.size wX w2 := bth (by repeat (first | exact Below.refl _ _ | refine Below.alloc ?_ (by first | exact Nat.le_refl _ | (simp <;> omega)) _ | refine Below.setCell ?_ (by first | exact Nat.le_refl _ | (simp <;> omega)) _)) hb2
              replace HB := bth HB hq2
              replace hX := hX.below hq2 hX.lt
              replace p0 := (hX.cell 0).trans (show _ = some (.slice wa ws.length wc) from rfl)
              replace p1 := (hX.cell 1).trans (show _ = some (.slice na ns.length nc) from rfl)
              go_wp2_with fail
              refine (l1Rising_is na nc ns 0 ((k : Int) - 1) (by omega) _ H2.out _ (hok2.out.rn.below hq2)).mono ?_
              rintro e w3 ⟨rfl, hb3⟩
              have hq3 : Below w2.heap.size w2 w3 := bth (by repeat (first | exact Below.refl _ _ | refine Below.alloc ?_ (by first | exact Nat.le_refl _ | (simp <;> omega)) _ | refine Below.setCell ?_ (by first | exact Nat.le_refl _ | (simp <;> omega)) _)) hb3
              replace HB := bth HB hq3
              replace hX := hX.below hq3 hX.lt
              replace p0 := (hX.cell 0).trans (show _ = some (.slice wa ws.length wc) from rfl)
              replace p1 := (hX.cell 1).trans (show _ = some (.slice na ns.length nc) from rfl)
              go_wp2
            · go_ret
              exact ⟨ret_bool (by rw [claB, allTo_not hlt (by simp only [claStep, HX.out, words_split, H0.out, H1.out, H2.out]; rfl)]; rfl), HB⟩
            · go_roundw
              case rel => exact ⟨k + 1, by omega, by go_num, by omega, allTo_go HL.out (by simp only [claStep, HX.out, words_split, H0.out, H1.out, H2.out]; rfl), HB⟩
              case measure => simp [intOf]; omega
      · have hgt : ¬ (xs.length : Int) ≤ 8 := by omega
        go_wp2
        go_ret
        exact ⟨ret_bool (by rw [claB, decide_eq_false (by omega)]; simp), hb⟩
    · obtain rfl : k = xs.length := by omega
      by_cases h8 : (xs.length : Int) ≤ 8
      · go_wp2
        go_ret
        exact ⟨ret_bool (by rw [claB, HL.out, decide_eq_true (by omega)]; rfl), hb⟩
      · go_wp2
        go_ret
        exact ⟨ret_bool (by rw [claB, HL.out, decide_eq_false (by omega)]; rfl), hb⟩
theorem sAreClauses_is (A : Option Addr) (c : Nat) (xs : List Cla) (v : Bool) (hv : claB xs = v) (w : World) (hR : ClR w A xs) :
  Calls Try.prog 10 #[.slice A xs.length c] w fun e w' => e = .returned (.bool v) ∧ Below w.heap.size w w' := by
  have HR := Lib.hid hR; clear hR
  have HV := Lib.hid hv; clear hv
  go_enter Try.func10, Try.ntmps10
  go_wp2_with (go_at_call 31; refine (l19Good_is A c xs _ HV.out _ HR.out).mono ?_; rintro e w' ⟨rfl, hb'⟩)
  go_ret
  exact ⟨rfl, hb'⟩
def voteB (xs : List Cla) (ad : List Bool) : Bool := claB xs && ((ad.length : Int) == (xs.length : Int))
theorem isVote_is (A : Option Addr) (c : Nat) (xs : List Cla) (D : Option Addr) (d : Nat) (ad : List Bool) (_ : ad.length ≤ 1000) (v : Bool) (hv : voteB xs ad = v) (w : World) (hR : ClR w A xs) :
  Calls Try.prog 24 #[.slice A xs.length c, .slice D ad.length d] w fun e w' => e = .returned (.bool v) ∧ Below w.heap.size w w' := by
  subst hv
  have HR := Lib.hid hR; clear hR
  unfold voteB
  cases h1 : claB xs
  all_goals
    have H1 := Lib.hid h1; clear h1
    cases h2 : ((ad.length : Int) == (xs.length : Int))
    all_goals
      have H2 := Lib.hid h2
      go_enter Try.func24, Try.ntmps24
      go_wp2_with (go_at_call 9; refine (areClauses_is A c xs _ H1.out _ HR.out).mono ?_; rintro e w' ⟨rfl, hb'⟩)
      go_ret
      exact ⟨rfl, hb'⟩
theorem l19Asked_is (A : Option Addr) (c : Nat) (xs : List Cla) (D : Option Addr) (d : Nat) (ad : List Bool) (_ : ad.length ≤ 1000) (v : Bool) (hv : voteB xs ad = v) (w : World) (hR : ClR w A xs) :
  Calls Try.prog 27 #[.slice A xs.length c, .slice D ad.length d] w fun e w' => e = .returned (.bool v) ∧ Below w.heap.size w w' := by
  subst hv
  have HR := Lib.hid hR; clear hR
  unfold voteB
  cases h1 : claB xs
  all_goals
    have H1 := Lib.hid h1; clear h1
    cases h2 : ((ad.length : Int) == (xs.length : Int))
    all_goals
      have H2 := Lib.hid h2
      go_enter Try.func27, Try.ntmps27
      go_wp2_with (go_at_call 31; refine (l19Good_is A c xs _ H1.out _ HR.out).mono ?_; rintro e w' ⟨rfl, hb'⟩)
      go_ret
      exact ⟨rfl, hb'⟩
/-- The truth at an index. -/
def atP (bs : List Bool) (i : Nat) : Bool := (bs[i]?).getD false
theorem atP_at {bs : List Bool} {i : Nat} {b : Bool} (h : bs[i]? = some b) : atP bs i = b := by rw [atP, h]; rfl
set_option maxHeartbeats 2000000 in
theorem chosen_is (A : Option Addr) (c : Nat) (bs : List Bool) (hn : bs.length ≤ 1000) (w : World) (hR : Rds 1 blC w A bs) :
  Calls Try.prog 25 #[.slice A bs.length c] w fun e w' => ∃ Y y, e = .returned (.slice Y (chN (atP bs) bs.length).length y) ∧ OwnV w.heap.size 3 1 intC w' (.slice Y (chN (atP bs) bs.length).length y) (chN (atP bs) bs.length) ∧ Below w.heap.size w w' := by
  obtain ⟨i0, hi, hz0, hz1, hz2⟩ := info_parts info_int
  have hO0 := OwnV.made (f := intC) (sz := 1) w (B := w.heap.size) (Nat.le_refl _) 3
  go_enter Try.func25, Try.ntmps25
  go_wp2
  go_loopw [3, 9] (fun y i wr => ∃ k : Nat, k ≤ bs.length ∧ i = .int .i64 k ∧ OwnV w.heap.size 3 1 intC wr y (chN (atP bs) k) ∧ Below w.heap.size w wr) (fun _ i _ => bs.length - (intOf i).toNat)
  case atStart => exact ⟨0, Nat.zero_le _, rfl, hO0, bl1 _ _⟩
  case round =>
    obtain ⟨k, hk, rfl, hO, hb⟩ := hrel
    by_cases hlt : k < bs.length
    · obtain ⟨b, off, x, rfl, hbl, hx, hcx⟩ := hR.at_ hb hlt
      have f0 := hcx 0 _ rfl
      simp only [Nat.mul_one, Nat.add_zero] at f0
      have g0 := f0 (Kin.self _)
      simp only [Kin.self] at g0
      have HX := Lib.hid hx; clear hx hcx f0
      cases x
      · have ha : chN (atP bs) (k + 1) = chN (atP bs) k := by rw [chN, atP_at HX.out]; rfl
        have HA := Lib.hid ha; clear ha
        go_wp2
        go_roundw
        case rel => exact ⟨k + 1, by omega, by go_num, by rw [HA.out]; exact hO, hb⟩
        case measure => simp [intOf]; omega
      · have ha : chN (atP bs) (k + 1) = chN (atP bs) k ++ [(k : Int)] := by rw [chN, atP_at HX.out]; rfl
        have HA := Lib.hid ha; clear ha
        go_wp2_with ((at_builtin; refine wpList_app1 rfl _ _ 28 rfl w.heap.size 3 i0 _ 1 8 Try.underlying28 hi hz0 hz1 hz2 rfl (by decide) intC intC_len intC_one _ (chN (atP bs) k) rfl (hO.alloc _) ⟨wr.heap.size, 0, none⟩ 1 (k : Int) rfl (Rds.one _ _) (by have := chN_len (atP bs) k; unfold maxLen; omega) (by have := chN_len (atP bs) k; omega) (by have := hb.size; simp; omega) ?_; intro v4 w4 hO4 hg4 ha4))
        have hrs : Below w.heap.size w w4 := (hb.alloc hb.size _).grown hg4 (by have := hb.size; simp; omega) (fun q hq => (hO.lt q hq).1)
        go_roundw
        case rel => exact ⟨k + 1, by omega, by go_num, by rw [HA.out]; exact hO4, hrs⟩
        case measure => simp [intOf]; omega
    · obtain rfl : k = bs.length := by omega
      obtain ⟨Y, yc, rfl, _, _, _⟩ := hO.form intC_len
      go_wp2
      go_ret
      exact ⟨Y, yc, rfl, hO, hb⟩
end Go.Proofs.Ytndenojanflkgaa
