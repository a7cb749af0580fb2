/- The floor: the share of a member, who is entitled. -/
import Derived.Test.YtpkagohflkcnkaaGreatDoorIv5
import Derived.Test.YtpkagohflkcnkaaGreatDoorIv2
import Derived.Deep.Cut
namespace Go.Proofs.YtpkagohflkcnkaaGreatDoor
open Go.RowKit Go.G9
def memP (m : Int) (s : Sha) : Bool := s.mem == m
def shareF (xs : List Sha) (m : Int) : Sha := match xs.find? (memP m) with | some s => s | none => ⟨m, 0, 0⟩
def entB (tu se : Int) (s : Sha) : Bool := decide (s.turns < tu) && decide (s.secs < se)
theorem shareF_none {xs : List Sha} {m : Int} (h : xs.find? (memP m) = none) : shareF xs m = ⟨m, 0, 0⟩ := by simp [shareF, h]
theorem shareF_some {xs : List Sha} {m : Int} {s : Sha} (h : xs.find? (memP m) = some s) : shareF xs m = s := by simp [shareF, h]
theorem find_found {T : Type} {p : T → Bool} : ∀ {xs : List T} {k : Nat} {x : T}, allTo (fun i => !atB p xs i) k = true → xs[k]? = some x → p x = true → xs.find? p = some x
  | [], k, x, _, h, _ => by simp at h
  | y :: ys, 0, x, _, h, hp => by simp at h; subst h; simp [List.find?_cons, hp]
  | y :: ys, k + 1, x, ha, h, hp => by
    have h0 := allTo_iff.1 ha 0 (by omega)
    have hy : p y = false := by simpa [atB] using h0
    rw [List.find?_cons, hy]
    refine find_found (k := k) (allTo_iff.2 fun i hi => ?_) (by simpa using h) hp
    have := allTo_iff.1 ha (i + 1) (by omega)
    simpa [atB] using this
theorem find_nil {T : Type} {p : T → Bool} {xs : List T} (h : allTo (fun i => !atB p xs i) xs.length = true) : xs.find? p = none := by
  rw [List.find?_eq_none]
  intro x hx
  obtain ⟨i, hi⟩ := List.mem_iff_getElem?.1 hx
  have := allTo_iff.1 h i (List.getElem?_eq_some_iff.1 hi).1
  simpa [atB, hi] using this
set_option maxHeartbeats 1000000 in
set_option maxRecDepth 100000 in
theorem indexFunc_Sha (A : Option Addr) (c : Nat) (xs : List Sha) (hn : xs.length ≤ 1048576) (f : FuncId) (cv : Array Value) (hcall : ∀ args W, (callFunc f args).run Tryz.prog W = .ok (.enter f args) W) (p : Sha → Bool) (v : Int) (hv : idxB p xs = v) (w : World) (hR : Rds 3 Sha.cells w A xs)
    (hf : ∀ x, x ∈ xs → ∀ W, Below w.heap.size w W → Calls Tryz.prog f (#[.agg #[.int .i64 x.mem, .int .i64 x.turns, .int .i64 x.secs]] ++ cv) W fun e w' => e = .returned (.bool (p x)) ∧ Below W.heap.size W w') :
  Calls Tryz.prog 97 #[.slice A xs.length c, .func (.func f) #[] cv] w fun e w' => e = .returned (.int .i64 v) ∧ Below w.heap.size w w' := by
  subst hv
  have HF := Lib.hid hf; clear hf
  go_enter Tryz.func97, Tryz.ntmps97
  go_wp2
  go_loopw [8] (fun i wr => ∃ k : Nat, k ≤ xs.length ∧ i = .int .i64 k ∧ allTo (fun i => !atB p xs i) k = true ∧ Below w.heap.size w wr) (fun i _ => xs.length - (intOf i).toNat)
  case atStart => exact ⟨0, Nat.zero_le _, rfl, rfl, Below.refl _ _⟩
  case round =>
    obtain ⟨k, hk, rfl, hl, hb⟩ := hrel
    have HL := Lib.hid hl; clear hl
    by_cases hlt : k < xs.length
    · obtain ⟨b, off, x, rfl, hbl, hx, hcx⟩ := hR.at_ hb hlt
      have HF' := Lib.hid (HF.out x (List.mem_of_getElem? hx))
      obtain ⟨sm, st, ss⟩ := x
      have f0 := hcx 0 _ rfl
      have f1 := hcx 1 _ rfl
      have f2 := hcx 2 _ rfl
      simp only [Nat.add_zero] at f0
      have g0 := f0 (Kin.self _)
      have g1 := f1 (Kin.self _)
      have g2 := f2 (Kin.self _)
      simp only [Kin.self] at g0
      simp only [Kin.self] at g1
      simp only [Kin.self] at g2
      have HX := Lib.hid hx; clear hx hcx
      go_wp2_with fail
      refine (HF'.out _ hb).mono ?_
      rintro e w' ⟨rfl, hb'⟩
      cases hp : p ⟨sm, st, ss⟩
      · go_wp2
        go_roundw
        case rel => exact ⟨k + 1, by omega, by go_num, allTo_go HL.out (by simp [atB, HX.out, hp]), bth hb hb'⟩
        case measure => simp [intOf]; omega
      · go_wp2
        go_ret
        exact ⟨ret_int (idxB_found hlt HL.out (by simp [atB, HX.out, hp])).symm, bth hb hb'⟩
    · obtain rfl : k = xs.length := by omega
      go_wp2
      go_ret
      exact ⟨ret_int (idxB_none HL.out).symm, hb⟩
theorem shareOfF_is (m : Int) (g : Nat) (x : Sha) (W : World) (hg : W.cell? ⟨g, 0, none⟩ = some (.int .i64 m)) (hl : g < W.heap.size) :
  Calls Tryz.prog 98 (#[.agg #[.int .i64 x.mem, .int .i64 x.turns, .int .i64 x.secs]] ++ #[.pointer (some ⟨g, 0, none⟩)]) W fun e w' => e = .returned (.bool (x.mem == m)) ∧ Below W.heap.size W w' := by
  cases hb : x.mem == m
  all_goals
    have hb2 := Lib.hid hb
    go_enter Tryz.func98, Tryz.ntmps98
    go_wp2
    go_ret
    exact ⟨rfl, bl1 _ _⟩
set_option maxHeartbeats 2000000 in
set_option maxRecDepth 100000 in
theorem shareOf_is (tu se sp : Int) (W : Option Addr) (wl wc : Nat) (S : Option Addr) (sc : Nat) (sh : List Sha) (hn : sh.length ≤ 1048576) (m : Int) (s : Sha) (hs : shareF sh m = s) (w : World) (hS : Rds 3 Sha.cells w S sh) :
  Calls Tryz.prog 70 #[.agg #[.int .i64 tu, .int .i64 se, .int .i64 sp, .slice W wl wc, .slice S sh.length sc], .int .i64 m] w fun e w' => e = .returned (.agg #[.int .i64 s.mem, .int .i64 s.turns, .int .i64 s.secs]) ∧ Below w.heap.size w w' := by
  cases hfd : sh.find? (memP m) with
  | none =>
    obtain rfl : (⟨m, 0, 0⟩ : Sha) = s := (shareF_none hfd).symm.trans hs
    have HI := Lib.hid (idxB_nil hfd); clear hfd hs
    go_enter Tryz.func70, Tryz.ntmps70
    go_upto_region 1 with fail
    have hq1 : Below w.heap.size w (World.alloc (World.alloc (World.alloc w (.cells #[.int .i64 tu, .int .i64 se, .int .i64 sp, .slice W wl wc, .slice S sh.length sc] 41)) (.cells #[.int .i64 m] 3)) (.cells #[.int .i64 0, .int .i64 0, .int .i64 0] 109)) := bl3 w _ _ _
    have hF : Blk (World.alloc (World.alloc (World.alloc w (.cells #[.int .i64 tu, .int .i64 se, .int .i64 sp, .slice W wl wc, .slice S sh.length sc] 41)) (.cells #[.int .i64 m] 3)) (.cells #[.int .i64 0, .int .i64 0, .int .i64 0] 109)) (w.heap.size) 41 #[.int .i64 tu, .int .i64 se, .int .i64 sp, .slice W wl wc, .slice S sh.length sc] := by repeat (first | exact Blk.new _ _ _ | exact Blk.new2 _ _ _ _ | exact Blk.new3 _ _ _ _ _ | exact Blk.new4 _ _ _ _ _ _ | refine Blk.alloc ?_ _)
    have hM : Blk (World.alloc (World.alloc (World.alloc w (.cells #[.int .i64 tu, .int .i64 se, .int .i64 sp, .slice W wl wc, .slice S sh.length sc] 41)) (.cells #[.int .i64 m] 3)) (.cells #[.int .i64 0, .int .i64 0, .int .i64 0] 109)) (w.heap.size + 1) 3 #[.int .i64 m] := by repeat (first | exact Blk.new _ _ _ | exact Blk.new2 _ _ _ _ | exact Blk.new3 _ _ _ _ _ | exact Blk.new4 _ _ _ _ _ _ | refine Blk.alloc ?_ _)
    have hZ : Blk (World.alloc (World.alloc (World.alloc w (.cells #[.int .i64 tu, .int .i64 se, .int .i64 sp, .slice W wl wc, .slice S sh.length sc] 41)) (.cells #[.int .i64 m] 3)) (.cells #[.int .i64 0, .int .i64 0, .int .i64 0] 109)) (w.heap.size + 1 + 1) 109 #[.int .i64 0, .int .i64 0, .int .i64 0] := by repeat (first | exact Blk.new _ _ _ | exact Blk.new2 _ _ _ _ | exact Blk.new3 _ _ _ _ _ | exact Blk.new4 _ _ _ _ _ _ | refine Blk.alloc ?_ _)
    replace hS := hS.below hq1
    generalize World.alloc (World.alloc (World.alloc w (.cells #[.int .i64 tu, .int .i64 se, .int .i64 sp, .slice W wl wc, .slice S sh.length sc] 41)) (.cells #[.int .i64 m] 3)) (.cells #[.int .i64 0, .int .i64 0, .int .i64 0] 109) = wX at *
    have HB := hq1
    have f0 := (hF.cell 0).trans (show _ = some (.int .i64 tu) from rfl)
    have f1 := (hF.cell 1).trans (show _ = some (.int .i64 se) from rfl)
    have f2 := (hF.cell 2).trans (show _ = some (.int .i64 sp) from rfl)
    have f3 := (hF.cell 3).trans (show _ = some (.slice W wl wc) from rfl)
    have f4 := (hF.cell 4).trans (show _ = some (.slice S sh.length sc) from rfl)
    have mm0 := (hM.cell 0).trans (show _ = some (.int .i64 m) from rfl)
    have z0 := (hZ.cell 0).trans (show _ = some (.int .i64 0) from rfl)
    have z1 := (hZ.cell 1).trans (show _ = some (.int .i64 0) from rfl)
    have z2 := (hZ.cell 2).trans (show _ = some (.int .i64 0) from rfl)
    have hz0 := hZ.lt
    have HQ : Hid (∀ x, x ∈ sh → ∀ V, Below wX.heap.size wX V → Calls Tryz.prog 98 (#[.agg #[.int .i64 x.mem, .int .i64 x.turns, .int .i64 x.secs]] ++ #[.pointer (some ⟨w.heap.size + 1, 0, none⟩)]) V fun e w' => e = .returned (.bool (memP m x)) ∧ Below V.heap.size V w') := Lib.hid fun x _ V hV => shareOfF_is m (w.heap.size + 1) x V ((hM.below hV hM.lt).cell 0) (hM.below hV hM.lt).lt
    go_wp2_with fail
    refine (indexFunc_Sha S sc sh hn 98 #[.pointer (some ⟨w.heap.size + 1, 0, none⟩)] (run_enter Tryz.func98 (by kernel_rfl) (by kernel_rfl)) (memP m) _ HI.out _ (hS.below (by repeat (first | exact Below.refl _ _ | refine Below.alloc ?_ (by first | exact Nat.le_refl _ | (simp <;> omega)) _ | refine Below.setCell ?_ (by first | exact Nat.le_refl _ | (simp <;> omega)) _))) HQ.out).mono ?_
    rintro e w2 ⟨rfl, hb2⟩
    have hq2 : Below wX.heap.size wX w2 := bth (by repeat (first | exact Below.refl _ _ | refine Below.alloc ?_ (by first | exact Nat.le_refl _ | (simp <;> omega)) _ | refine Below.setCell ?_ (by first | exact Nat.le_refl _ | (simp <;> omega)) _)) hb2
    replace HB := bth HB hq2
    replace hS := hS.below hq2
    replace hF := hF.below hq2 hF.lt
    replace f0 := (hF.cell 0).trans (show _ = some (.int .i64 tu) from rfl)
    replace f1 := (hF.cell 1).trans (show _ = some (.int .i64 se) from rfl)
    replace f2 := (hF.cell 2).trans (show _ = some (.int .i64 sp) from rfl)
    replace f3 := (hF.cell 3).trans (show _ = some (.slice W wl wc) from rfl)
    replace f4 := (hF.cell 4).trans (show _ = some (.slice S sh.length sc) from rfl)
    replace hM := hM.below hq2 hM.lt
    replace mm0 := (hM.cell 0).trans (show _ = some (.int .i64 m) from rfl)
    replace hZ := hZ.below hq2 hZ.lt
    replace z0 := (hZ.cell 0).trans (show _ = some (.int .i64 0) from rfl)
    replace z1 := (hZ.cell 1).trans (show _ = some (.int .i64 0) from rfl)
    replace z2 := (hZ.cell 2).trans (show _ = some (.int .i64 0) from rfl)
    have fhZ0 := hZ.frozen 0
    have fhZ1 := hZ.frozen 1
    have fhZ2 := hZ.frozen 2
    have yhF := hF.lt
    have yhM := hM.lt
    have yhZ := hZ.lt
    go_wp2
    clear f0 f1 f2 f3 f4 mm0 z0 z1 z2
    replace HB : Below w.heap.size w (World.setCell (World.setCell (World.setCell w2 ⟨w.heap.size + 1 + 1, 0, none⟩ (.int .i64 m)) ⟨w.heap.size + 1 + 1, 1, none⟩ (.int .i64 0)) ⟨w.heap.size + 1 + 1, 2, none⟩ (.int .i64 0)) := (((HB.setCell (by show w.heap.size ≤ w.heap.size + 1 + 1; omega) (.int .i64 m) (p := ⟨w.heap.size + 1 + 1, 0, none⟩)).setCell (by show w.heap.size ≤ w.heap.size + 1 + 1; omega) (.int .i64 0) (p := ⟨w.heap.size + 1 + 1, 1, none⟩)).setCell (by show w.heap.size ≤ w.heap.size + 1 + 1; omega) (.int .i64 0) (p := ⟨w.heap.size + 1 + 1, 2, none⟩))
    replace hF := (((hF.far' (p := ⟨w.heap.size + 1 + 1, 0, none⟩) (by show _ ≠ w.heap.size + 1 + 1; omega) (.int .i64 m)).far' (p := ⟨w.heap.size + 1 + 1, 1, none⟩) (by show _ ≠ w.heap.size + 1 + 1; omega) (.int .i64 0)).far' (p := ⟨w.heap.size + 1 + 1, 2, none⟩) (by show _ ≠ w.heap.size + 1 + 1; omega) (.int .i64 0))
    replace hM := (((hM.far' (p := ⟨w.heap.size + 1 + 1, 0, none⟩) (by show _ ≠ w.heap.size + 1 + 1; omega) (.int .i64 m)).far' (p := ⟨w.heap.size + 1 + 1, 1, none⟩) (by show _ ≠ w.heap.size + 1 + 1; omega) (.int .i64 0)).far' (p := ⟨w.heap.size + 1 + 1, 2, none⟩) (by show _ ≠ w.heap.size + 1 + 1; omega) (.int .i64 0))
    replace hZ : Blk (World.setCell (World.setCell (World.setCell w2 ⟨w.heap.size + 1 + 1, 0, none⟩ (.int .i64 m)) ⟨w.heap.size + 1 + 1, 1, none⟩ (.int .i64 0)) ⟨w.heap.size + 1 + 1, 2, none⟩ (.int .i64 0)) (w.heap.size + 1 + 1) 109 #[.int .i64 m, .int .i64 0, .int .i64 0] := (((hZ.set_ 0 (.int .i64 m)).set_ 1 (.int .i64 0)).set_ 2 (.int .i64 0))
    generalize World.setCell (World.setCell (World.setCell w2 ⟨w.heap.size + 1 + 1, 0, none⟩ (.int .i64 m)) ⟨w.heap.size + 1 + 1, 1, none⟩ (.int .i64 0)) ⟨w.heap.size + 1 + 1, 2, none⟩ (.int .i64 0) = W9 at *
    have f0 := (hF.cell 0).trans (show _ = some (.int .i64 tu) from rfl)
    have f1 := (hF.cell 1).trans (show _ = some (.int .i64 se) from rfl)
    have f2 := (hF.cell 2).trans (show _ = some (.int .i64 sp) from rfl)
    have f3 := (hF.cell 3).trans (show _ = some (.slice W wl wc) from rfl)
    have f4 := (hF.cell 4).trans (show _ = some (.slice S sh.length sc) from rfl)
    have mm0 := (hM.cell 0).trans (show _ = some (.int .i64 m) from rfl)
    have z0 := (hZ.cell 0).trans (show _ = some (.int .i64 m) from rfl)
    have z1 := (hZ.cell 1).trans (show _ = some (.int .i64 0) from rfl)
    have z2 := (hZ.cell 2).trans (show _ = some (.int .i64 0) from rfl)
    refine bodyPost_ret (v := .agg #[.int .i64 m, .int .i64 0, .int .i64 0]) (by simp [results, Tryz.results70, go_sem, z0, z1, z2]) rfl ?_
    exact ⟨rfl, HB⟩
  | some t =>
    obtain rfl : t = s := (shareF_some hfd).symm.trans hs
    obtain ⟨k, hk, hkx⟩ := idxB_some hfd
    have hlt : k < sh.length := (List.getElem?_eq_some_iff.1 hkx).1
    have HI := Lib.hid hk; clear hfd hs hk
    go_enter Tryz.func70, Tryz.ntmps70
    go_upto_region 1 with fail
    have hq1 : Below w.heap.size w (World.alloc (World.alloc (World.alloc w (.cells #[.int .i64 tu, .int .i64 se, .int .i64 sp, .slice W wl wc, .slice S sh.length sc] 41)) (.cells #[.int .i64 m] 3)) (.cells #[.int .i64 0, .int .i64 0, .int .i64 0] 109)) := bl3 w _ _ _
    have hF : Blk (World.alloc (World.alloc (World.alloc w (.cells #[.int .i64 tu, .int .i64 se, .int .i64 sp, .slice W wl wc, .slice S sh.length sc] 41)) (.cells #[.int .i64 m] 3)) (.cells #[.int .i64 0, .int .i64 0, .int .i64 0] 109)) (w.heap.size) 41 #[.int .i64 tu, .int .i64 se, .int .i64 sp, .slice W wl wc, .slice S sh.length sc] := by repeat (first | exact Blk.new _ _ _ | exact Blk.new2 _ _ _ _ | exact Blk.new3 _ _ _ _ _ | exact Blk.new4 _ _ _ _ _ _ | refine Blk.alloc ?_ _)
    have hM : Blk (World.alloc (World.alloc (World.alloc w (.cells #[.int .i64 tu, .int .i64 se, .int .i64 sp, .slice W wl wc, .slice S sh.length sc] 41)) (.cells #[.int .i64 m] 3)) (.cells #[.int .i64 0, .int .i64 0, .int .i64 0] 109)) (w.heap.size + 1) 3 #[.int .i64 m] := by repeat (first | exact Blk.new _ _ _ | exact Blk.new2 _ _ _ _ | exact Blk.new3 _ _ _ _ _ | exact Blk.new4 _ _ _ _ _ _ | refine Blk.alloc ?_ _)
    have hZ : Blk (World.alloc (World.alloc (World.alloc w (.cells #[.int .i64 tu, .int .i64 se, .int .i64 sp, .slice W wl wc, .slice S sh.length sc] 41)) (.cells #[.int .i64 m] 3)) (.cells #[.int .i64 0, .int .i64 0, .int .i64 0] 109)) (w.heap.size + 1 + 1) 109 #[.int .i64 0, .int .i64 0, .int .i64 0] := by repeat (first | exact Blk.new _ _ _ | exact Blk.new2 _ _ _ _ | exact Blk.new3 _ _ _ _ _ | exact Blk.new4 _ _ _ _ _ _ | refine Blk.alloc ?_ _)
    replace hS := hS.below hq1
    generalize World.alloc (World.alloc (World.alloc w (.cells #[.int .i64 tu, .int .i64 se, .int .i64 sp, .slice W wl wc, .slice S sh.length sc] 41)) (.cells #[.int .i64 m] 3)) (.cells #[.int .i64 0, .int .i64 0, .int .i64 0] 109) = wX at *
    have HB := hq1
    have f0 := (hF.cell 0).trans (show _ = some (.int .i64 tu) from rfl)
    have f1 := (hF.cell 1).trans (show _ = some (.int .i64 se) from rfl)
    have f2 := (hF.cell 2).trans (show _ = some (.int .i64 sp) from rfl)
    have f3 := (hF.cell 3).trans (show _ = some (.slice W wl wc) from rfl)
    have f4 := (hF.cell 4).trans (show _ = some (.slice S sh.length sc) from rfl)
    have mm0 := (hM.cell 0).trans (show _ = some (.int .i64 m) from rfl)
    have z0 := (hZ.cell 0).trans (show _ = some (.int .i64 0) from rfl)
    have z1 := (hZ.cell 1).trans (show _ = some (.int .i64 0) from rfl)
    have z2 := (hZ.cell 2).trans (show _ = some (.int .i64 0) from rfl)
    have hz0 := hZ.lt
    have HQ : Hid (∀ x, x ∈ sh → ∀ V, Below wX.heap.size wX V → Calls Tryz.prog 98 (#[.agg #[.int .i64 x.mem, .int .i64 x.turns, .int .i64 x.secs]] ++ #[.pointer (some ⟨w.heap.size + 1, 0, none⟩)]) V fun e w' => e = .returned (.bool (memP m x)) ∧ Below V.heap.size V w') := Lib.hid fun x _ V hV => shareOfF_is m (w.heap.size + 1) x V ((hM.below hV hM.lt).cell 0) (hM.below hV hM.lt).lt
    go_wp2_with fail
    refine (indexFunc_Sha S sc sh hn 98 #[.pointer (some ⟨w.heap.size + 1, 0, none⟩)] (run_enter Tryz.func98 (by kernel_rfl) (by kernel_rfl)) (memP m) _ HI.out _ (hS.below (by repeat (first | exact Below.refl _ _ | refine Below.alloc ?_ (by first | exact Nat.le_refl _ | (simp <;> omega)) _ | refine Below.setCell ?_ (by first | exact Nat.le_refl _ | (simp <;> omega)) _))) HQ.out).mono ?_
    rintro e w2 ⟨rfl, hb2⟩
    have hq2 : Below wX.heap.size wX w2 := bth (by repeat (first | exact Below.refl _ _ | refine Below.alloc ?_ (by first | exact Nat.le_refl _ | (simp <;> omega)) _ | refine Below.setCell ?_ (by first | exact Nat.le_refl _ | (simp <;> omega)) _)) hb2
    replace HB := bth HB hq2
    replace hS := hS.below hq2
    replace hF := hF.below hq2 hF.lt
    replace f0 := (hF.cell 0).trans (show _ = some (.int .i64 tu) from rfl)
    replace f1 := (hF.cell 1).trans (show _ = some (.int .i64 se) from rfl)
    replace f2 := (hF.cell 2).trans (show _ = some (.int .i64 sp) from rfl)
    replace f3 := (hF.cell 3).trans (show _ = some (.slice W wl wc) from rfl)
    replace f4 := (hF.cell 4).trans (show _ = some (.slice S sh.length sc) from rfl)
    replace hM := hM.below hq2 hM.lt
    replace mm0 := (hM.cell 0).trans (show _ = some (.int .i64 m) from rfl)
    replace hZ := hZ.below hq2 hZ.lt
    replace z0 := (hZ.cell 0).trans (show _ = some (.int .i64 0) from rfl)
    replace z1 := (hZ.cell 1).trans (show _ = some (.int .i64 0) from rfl)
    replace z2 := (hZ.cell 2).trans (show _ = some (.int .i64 0) from rfl)
    obtain ⟨b, off, r', rfl, hbl, hx, hcx⟩ := hS.at_ (Below.refl _ _) hlt
    clear f0 f1 f2 f3 f4
    have f0 := (hF.cell 0).trans (show _ = some (.int .i64 tu) from rfl)
    have f1 := (hF.cell 1).trans (show _ = some (.int .i64 se) from rfl)
    have f2 := (hF.cell 2).trans (show _ = some (.int .i64 sp) from rfl)
    have f3 := (hF.cell 3).trans (show _ = some (.slice W wl wc) from rfl)
    have f4 := (hF.cell 4).trans (show _ = some (.slice (some ⟨b, off, none⟩) sh.length sc) from rfl)
    obtain rfl : t = r' := Option.some.inj (hkx.symm.trans hx)
    have p0 := hcx 0 _ rfl
    have p1 := hcx 1 _ rfl
    have p2 := hcx 2 _ rfl
    simp only [Nat.add_zero] at p0
    have g0 := p0 (Kin.self _)
    have g1 := p1 (Kin.self _)
    have g2 := p2 (Kin.self _)
    simp only [Kin.self] at g0
    simp only [Kin.self] at g1
    simp only [Kin.self] at g2
    clear hx hcx hkx
    have fhZ0 := hZ.frozen 0
    have fhZ1 := hZ.frozen 1
    have fhZ2 := hZ.frozen 2
    have yhM := hM.lt
    have yhZ := hZ.lt
    have yhF := hF.lt
    go_wp2
    clear mm0 z0 z1 z2 f0 f1 f2 f3 f4
    replace HB : Below w.heap.size w (World.setCell (World.setCell (World.setCell w2 ⟨w.heap.size + 1 + 1, 0, none⟩ (.int .i64 t.mem)) ⟨w.heap.size + 1 + 1, 1, none⟩ (.int .i64 t.turns)) ⟨w.heap.size + 1 + 1, 2, none⟩ (.int .i64 t.secs)) := (((HB.setCell (by show w.heap.size ≤ w.heap.size + 1 + 1; omega) (.int .i64 t.mem) (p := ⟨w.heap.size + 1 + 1, 0, none⟩)).setCell (by show w.heap.size ≤ w.heap.size + 1 + 1; omega) (.int .i64 t.turns) (p := ⟨w.heap.size + 1 + 1, 1, none⟩)).setCell (by show w.heap.size ≤ w.heap.size + 1 + 1; omega) (.int .i64 t.secs) (p := ⟨w.heap.size + 1 + 1, 2, none⟩))
    replace hM := (((hM.far' (p := ⟨w.heap.size + 1 + 1, 0, none⟩) (by show _ ≠ w.heap.size + 1 + 1; omega) (.int .i64 t.mem)).far' (p := ⟨w.heap.size + 1 + 1, 1, none⟩) (by show _ ≠ w.heap.size + 1 + 1; omega) (.int .i64 t.turns)).far' (p := ⟨w.heap.size + 1 + 1, 2, none⟩) (by show _ ≠ w.heap.size + 1 + 1; omega) (.int .i64 t.secs))
    replace hZ : Blk (World.setCell (World.setCell (World.setCell w2 ⟨w.heap.size + 1 + 1, 0, none⟩ (.int .i64 t.mem)) ⟨w.heap.size + 1 + 1, 1, none⟩ (.int .i64 t.turns)) ⟨w.heap.size + 1 + 1, 2, none⟩ (.int .i64 t.secs)) (w.heap.size + 1 + 1) 109 #[.int .i64 t.mem, .int .i64 t.turns, .int .i64 t.secs] := (((hZ.set_ 0 (.int .i64 t.mem)).set_ 1 (.int .i64 t.turns)).set_ 2 (.int .i64 t.secs))
    replace hF := (((hF.far' (p := ⟨w.heap.size + 1 + 1, 0, none⟩) (by show _ ≠ w.heap.size + 1 + 1; omega) (.int .i64 t.mem)).far' (p := ⟨w.heap.size + 1 + 1, 1, none⟩) (by show _ ≠ w.heap.size + 1 + 1; omega) (.int .i64 t.turns)).far' (p := ⟨w.heap.size + 1 + 1, 2, none⟩) (by show _ ≠ w.heap.size + 1 + 1; omega) (.int .i64 t.secs))
    generalize World.setCell (World.setCell (World.setCell w2 ⟨w.heap.size + 1 + 1, 0, none⟩ (.int .i64 t.mem)) ⟨w.heap.size + 1 + 1, 1, none⟩ (.int .i64 t.turns)) ⟨w.heap.size + 1 + 1, 2, none⟩ (.int .i64 t.secs) = W9 at *
    have mm0 := (hM.cell 0).trans (show _ = some (.int .i64 m) from rfl)
    have z0 := (hZ.cell 0).trans (show _ = some (.int .i64 t.mem) from rfl)
    have z1 := (hZ.cell 1).trans (show _ = some (.int .i64 t.turns) from rfl)
    have z2 := (hZ.cell 2).trans (show _ = some (.int .i64 t.secs) from rfl)
    have f0 := (hF.cell 0).trans (show _ = some (.int .i64 tu) from rfl)
    have f1 := (hF.cell 1).trans (show _ = some (.int .i64 se) from rfl)
    have f2 := (hF.cell 2).trans (show _ = some (.int .i64 sp) from rfl)
    have f3 := (hF.cell 3).trans (show _ = some (.slice W wl wc) from rfl)
    have f4 := (hF.cell 4).trans (show _ = some (.slice (some ⟨b, off, none⟩) sh.length sc) from rfl)
    refine bodyPost_ret (v := .agg #[.int .i64 t.mem, .int .i64 t.turns, .int .i64 t.secs]) (by simp [results, Tryz.results70, go_sem, z0, z1, z2]) rfl ?_
    exact ⟨rfl, HB⟩
set_option maxHeartbeats 2000000 in
set_option maxRecDepth 100000 in
theorem l8Share_is (tu se sp : Int) (W : Option Addr) (wl wc : Nat) (S : Option Addr) (sc : Nat) (sh : List Sha) (hn : sh.length ≤ 1048576) (m : Int) (s : Sha) (hs : shareF sh m = s) (w : World) (hS : Rds 3 Sha.cells w S sh) :
  Calls Tryz.prog 89 #[.agg #[.int .i64 tu, .int .i64 se, .int .i64 sp, .slice W wl wc, .slice S sh.length sc], .int .i64 m] w fun e w' => e = .returned (.agg #[.int .i64 s.mem, .int .i64 s.turns, .int .i64 s.secs]) ∧ Below w.heap.size w w' := by
  have HS := Lib.hid hs; clear hs
  go_enter Tryz.func89, Tryz.ntmps89
  go_upto_region 1 with fail
  have hq1 : Below w.heap.size w (World.alloc (World.alloc w (.cells #[.int .i64 tu, .int .i64 se, .int .i64 sp, .slice W wl wc, .slice S sh.length sc] 41)) (.cells #[.int .i64 0, .int .i64 0, .int .i64 0] 109)) := bl2 w _ _
  have hF : Blk (World.alloc (World.alloc w (.cells #[.int .i64 tu, .int .i64 se, .int .i64 sp, .slice W wl wc, .slice S sh.length sc] 41)) (.cells #[.int .i64 0, .int .i64 0, .int .i64 0] 109)) (w.heap.size) 41 #[.int .i64 tu, .int .i64 se, .int .i64 sp, .slice W wl wc, .slice S sh.length sc] := by repeat (first | exact Blk.new _ _ _ | exact Blk.new2 _ _ _ _ | exact Blk.new3 _ _ _ _ _ | exact Blk.new4 _ _ _ _ _ _ | refine Blk.alloc ?_ _)
  have hZ : Blk (World.alloc (World.alloc w (.cells #[.int .i64 tu, .int .i64 se, .int .i64 sp, .slice W wl wc, .slice S sh.length sc] 41)) (.cells #[.int .i64 0, .int .i64 0, .int .i64 0] 109)) (w.heap.size + 1) 109 #[.int .i64 0, .int .i64 0, .int .i64 0] := by repeat (first | exact Blk.new _ _ _ | exact Blk.new2 _ _ _ _ | exact Blk.new3 _ _ _ _ _ | exact Blk.new4 _ _ _ _ _ _ | refine Blk.alloc ?_ _)
  replace hS := hS.below hq1
  generalize World.alloc (World.alloc w (.cells #[.int .i64 tu, .int .i64 se, .int .i64 sp, .slice W wl wc, .slice S sh.length sc] 41)) (.cells #[.int .i64 0, .int .i64 0, .int .i64 0] 109) = wX at *
  have HB := hq1
  have f0 := (hF.cell 0).trans (show _ = some (.int .i64 tu) from rfl)
  have f1 := (hF.cell 1).trans (show _ = some (.int .i64 se) from rfl)
  have f2 := (hF.cell 2).trans (show _ = some (.int .i64 sp) from rfl)
  have f3 := (hF.cell 3).trans (show _ = some (.slice W wl wc) from rfl)
  have f4 := (hF.cell 4).trans (show _ = some (.slice S sh.length sc) from rfl)
  have z0 := (hZ.cell 0).trans (show _ = some (.int .i64 0) from rfl)
  have z1 := (hZ.cell 1).trans (show _ = some (.int .i64 0) from rfl)
  have z2 := (hZ.cell 2).trans (show _ = some (.int .i64 0) from rfl)
  have hz0 := hZ.lt
  go_wp2
  go_loop [5] (fun i => ∃ k : Nat, k ≤ sh.length ∧ i = .int .i64 k ∧ allTo (fun i => !atB (memP m) sh i) k = true) (fun i => sh.length - (intOf i).toNat)
  case atStart => exact ⟨0, Nat.zero_le _, rfl, rfl⟩
  case round =>
    obtain ⟨k, hk, rfl, hl⟩ := hrel
    have HL := Lib.hid hl; clear hl
    by_cases hlt : k < sh.length
    · obtain ⟨b, off, t, rfl, hbl, hx, hcx⟩ := hS.at_ (Below.refl _ _) hlt
      clear f0 f1 f2 f3 f4
      have f0 := (hF.cell 0).trans (show _ = some (.int .i64 tu) from rfl)
      have f1 := (hF.cell 1).trans (show _ = some (.int .i64 se) from rfl)
      have f2 := (hF.cell 2).trans (show _ = some (.int .i64 sp) from rfl)
      have f3 := (hF.cell 3).trans (show _ = some (.slice W wl wc) from rfl)
      have f4 := (hF.cell 4).trans (show _ = some (.slice (some ⟨b, off, none⟩) sh.length sc) from rfl)
      have p0 := hcx 0 _ rfl
      have p1 := hcx 1 _ rfl
      have p2 := hcx 2 _ rfl
      simp only [Nat.add_zero] at p0
      have g0 := p0 (Kin.self _)
      have g1 := p1 (Kin.self _)
      have g2 := p2 (Kin.self _)
      simp only [Kin.self] at g0
      simp only [Kin.self] at g1
      simp only [Kin.self] at g2
      have HX := Lib.hid hx; clear hx hcx
      cases he : t.mem == m
      · go_wp2
        go_round
        case rel => exact ⟨k + 1, by omega, by go_num, allTo_go HL.out (by simp [atB, HX.out, memP, he])⟩
        case measure => simp [intOf]; omega
      · have HE := Lib.hid he
        obtain rfl : t = s := (shareF_some (find_found HL.out HX.out (p := memP m) HE.out)).symm.trans HS.out
        have fhZ0 := hZ.frozen 0
        have fhZ1 := hZ.frozen 1
        have fhZ2 := hZ.frozen 2
        have yhZ := hZ.lt
        have yhF := hF.lt
        go_wp2
        clear z0 z1 z2 f0 f1 f2 f3 f4
        replace HB : Below w.heap.size w (World.setCell (World.setCell (World.setCell wX ⟨w.heap.size + 1, 0, none⟩ (.int .i64 t.mem)) ⟨w.heap.size + 1, 1, none⟩ (.int .i64 t.turns)) ⟨w.heap.size + 1, 2, none⟩ (.int .i64 t.secs)) := (((HB.setCell (by show w.heap.size ≤ w.heap.size + 1; omega) (.int .i64 t.mem) (p := ⟨w.heap.size + 1, 0, none⟩)).setCell (by show w.heap.size ≤ w.heap.size + 1; omega) (.int .i64 t.turns) (p := ⟨w.heap.size + 1, 1, none⟩)).setCell (by show w.heap.size ≤ w.heap.size + 1; omega) (.int .i64 t.secs) (p := ⟨w.heap.size + 1, 2, none⟩))
        replace hZ : Blk (World.setCell (World.setCell (World.setCell wX ⟨w.heap.size + 1, 0, none⟩ (.int .i64 t.mem)) ⟨w.heap.size + 1, 1, none⟩ (.int .i64 t.turns)) ⟨w.heap.size + 1, 2, none⟩ (.int .i64 t.secs)) (w.heap.size + 1) 109 #[.int .i64 t.mem, .int .i64 t.turns, .int .i64 t.secs] := (((hZ.set_ 0 (.int .i64 t.mem)).set_ 1 (.int .i64 t.turns)).set_ 2 (.int .i64 t.secs))
        replace hF := (((hF.far' (p := ⟨w.heap.size + 1, 0, none⟩) (by show _ ≠ w.heap.size + 1; omega) (.int .i64 t.mem)).far' (p := ⟨w.heap.size + 1, 1, none⟩) (by show _ ≠ w.heap.size + 1; omega) (.int .i64 t.turns)).far' (p := ⟨w.heap.size + 1, 2, none⟩) (by show _ ≠ w.heap.size + 1; omega) (.int .i64 t.secs))
        generalize World.setCell (World.setCell (World.setCell wX ⟨w.heap.size + 1, 0, none⟩ (.int .i64 t.mem)) ⟨w.heap.size + 1, 1, none⟩ (.int .i64 t.turns)) ⟨w.heap.size + 1, 2, none⟩ (.int .i64 t.secs) = W9 at *
        have z0 := (hZ.cell 0).trans (show _ = some (.int .i64 t.mem) from rfl)
        have z1 := (hZ.cell 1).trans (show _ = some (.int .i64 t.turns) from rfl)
        have z2 := (hZ.cell 2).trans (show _ = some (.int .i64 t.secs) from rfl)
        have f0 := (hF.cell 0).trans (show _ = some (.int .i64 tu) from rfl)
        have f1 := (hF.cell 1).trans (show _ = some (.int .i64 se) from rfl)
        have f2 := (hF.cell 2).trans (show _ = some (.int .i64 sp) from rfl)
        have f3 := (hF.cell 3).trans (show _ = some (.slice W wl wc) from rfl)
        have f4 := (hF.cell 4).trans (show _ = some (.slice (some ⟨b, off, none⟩) sh.length sc) from rfl)
        refine bodyPost_ret (v := .agg #[.int .i64 t.mem, .int .i64 t.turns, .int .i64 t.secs]) (by simp [results, Tryz.results89, go_sem, z0, z1, z2]) rfl ?_
        exact ⟨rfl, HB⟩
    · obtain rfl : k = sh.length := by omega
      obtain rfl : (⟨m, 0, 0⟩ : Sha) = s := (shareF_none (find_nil HL.out)).symm.trans HS.out
      have fhZ0 := hZ.frozen 0
      have fhZ1 := hZ.frozen 1
      have fhZ2 := hZ.frozen 2
      have yhF := hF.lt
      have yhZ := hZ.lt
      go_wp2
      clear f0 f1 f2 f3 f4 z0 z1 z2
      replace HB : Below w.heap.size w (World.setCell (World.setCell (World.setCell wX ⟨w.heap.size + 1, 0, none⟩ (.int .i64 m)) ⟨w.heap.size + 1, 1, none⟩ (.int .i64 0)) ⟨w.heap.size + 1, 2, none⟩ (.int .i64 0)) := (((HB.setCell (by show w.heap.size ≤ w.heap.size + 1; omega) (.int .i64 m) (p := ⟨w.heap.size + 1, 0, none⟩)).setCell (by show w.heap.size ≤ w.heap.size + 1; omega) (.int .i64 0) (p := ⟨w.heap.size + 1, 1, none⟩)).setCell (by show w.heap.size ≤ w.heap.size + 1; omega) (.int .i64 0) (p := ⟨w.heap.size + 1, 2, none⟩))
      replace hF := (((hF.far' (p := ⟨w.heap.size + 1, 0, none⟩) (by show _ ≠ w.heap.size + 1; omega) (.int .i64 m)).far' (p := ⟨w.heap.size + 1, 1, none⟩) (by show _ ≠ w.heap.size + 1; omega) (.int .i64 0)).far' (p := ⟨w.heap.size + 1, 2, none⟩) (by show _ ≠ w.heap.size + 1; omega) (.int .i64 0))
      replace hZ : Blk (World.setCell (World.setCell (World.setCell wX ⟨w.heap.size + 1, 0, none⟩ (.int .i64 m)) ⟨w.heap.size + 1, 1, none⟩ (.int .i64 0)) ⟨w.heap.size + 1, 2, none⟩ (.int .i64 0)) (w.heap.size + 1) 109 #[.int .i64 m, .int .i64 0, .int .i64 0] := (((hZ.set_ 0 (.int .i64 m)).set_ 1 (.int .i64 0)).set_ 2 (.int .i64 0))
      generalize World.setCell (World.setCell (World.setCell wX ⟨w.heap.size + 1, 0, none⟩ (.int .i64 m)) ⟨w.heap.size + 1, 1, none⟩ (.int .i64 0)) ⟨w.heap.size + 1, 2, none⟩ (.int .i64 0) = W9 at *
      have f0 := (hF.cell 0).trans (show _ = some (.int .i64 tu) from rfl)
      have f1 := (hF.cell 1).trans (show _ = some (.int .i64 se) from rfl)
      have f2 := (hF.cell 2).trans (show _ = some (.int .i64 sp) from rfl)
      have f3 := (hF.cell 3).trans (show _ = some (.slice W wl wc) from rfl)
      have f4 := (hF.cell 4).trans (show _ = some (.slice S sh.length sc) from rfl)
      have z0 := (hZ.cell 0).trans (show _ = some (.int .i64 m) from rfl)
      have z1 := (hZ.cell 1).trans (show _ = some (.int .i64 0) from rfl)
      have z2 := (hZ.cell 2).trans (show _ = some (.int .i64 0) from rfl)
      refine bodyPost_ret (v := .agg #[.int .i64 m, .int .i64 0, .int .i64 0]) (by simp [results, Tryz.results89, go_sem, z0, z1, z2]) rfl ?_
      exact ⟨rfl, HB⟩
set_option maxHeartbeats 1000000 in
set_option maxRecDepth 100000 in
theorem isEntitled_is (tu se sp : Int) (W : Option Addr) (wl wc : Nat) (S : Option Addr) (sc : Nat) (sh : List Sha) (hn : sh.length ≤ 1048576) (m : Int) (v : Bool) (hv : entB tu se (shareF sh m) = v) (w : World) (hS : Rds 3 Sha.cells w S sh) :
  Calls Tryz.prog 69 #[.agg #[.int .i64 tu, .int .i64 se, .int .i64 sp, .slice W wl wc, .slice S sh.length sc], .int .i64 m] w fun e w' => e = .returned (.bool v) ∧ Below w.heap.size w w' := by
  subst hv
  obtain ⟨s, hs⟩ : ∃ s, shareF sh m = s := ⟨_, rfl⟩
  rw [hs]
  have HS := Lib.hid hs; clear hs
  obtain ⟨sm, st, ss⟩ := s
  by_cases h1 : st < tu
  · by_cases h2 : ss < se
    all_goals
      go_enter Tryz.func69, Tryz.ntmps69
      go_wp2_with fail
      refine (shareOf_is tu se sp W wl wc S sc sh hn m _ HS.out _ (hS.below (bl1 _ _))).mono ?_
      rintro e w1 ⟨rfl, hb1⟩
      have hF := (Blk.new w 41 #[.int .i64 tu, .int .i64 se, .int .i64 sp, .slice W wl wc, .slice S sh.length sc]).below hb1 (by simp)
      have f0 := (hF.cell 0).trans (show _ = some (.int .i64 tu) from rfl)
      have f1 := (hF.cell 1).trans (show _ = some (.int .i64 se) from rfl)
      have hFl := hF.lt
      go_wp2
      go_ret
      exact ⟨by simp [entB, h1, h2], bth (bth (bl1 _ _) hb1) (bl1 _ _)⟩
  · go_enter Tryz.func69, Tryz.ntmps69
    go_wp2_with fail
    refine (shareOf_is tu se sp W wl wc S sc sh hn m _ HS.out _ (hS.below (bl1 _ _))).mono ?_
    rintro e w1 ⟨rfl, hb1⟩
    have hF := (Blk.new w 41 #[.int .i64 tu, .int .i64 se, .int .i64 sp, .slice W wl wc, .slice S sh.length sc]).below hb1 (by simp)
    have f0 := (hF.cell 0).trans (show _ = some (.int .i64 tu) from rfl)
    have f1 := (hF.cell 1).trans (show _ = some (.int .i64 se) from rfl)
    have hFl := hF.lt
    go_wp2
    go_ret
    exact ⟨by simp [entB, h1] <;> omega, bth (bth (bl1 _ _) hb1) (bl1 _ _)⟩
set_option maxHeartbeats 1000000 in
set_option maxRecDepth 100000 in
theorem l8Entitled_is (tu se sp : Int) (W : Option Addr) (wl wc : Nat) (S : Option Addr) (sc : Nat) (sh : List Sha) (hn : sh.length ≤ 1048576) (m : Int) (v : Bool) (hv : entB tu se (shareF sh m) = v) (w : World) (hS : Rds 3 Sha.cells w S sh) :
  Calls Tryz.prog 88 #[.agg #[.int .i64 tu, .int .i64 se, .int .i64 sp, .slice W wl wc, .slice S sh.length sc], .int .i64 m] w fun e w' => e = .returned (.bool v) ∧ Below w.heap.size w w' := by
  subst hv
  obtain ⟨s, hs⟩ : ∃ s, shareF sh m = s := ⟨_, rfl⟩
  rw [hs]
  have HS := Lib.hid hs; clear hs
  obtain ⟨sm, st, ss⟩ := s
  by_cases h1 : st < tu
  · by_cases h2 : ss < se
    all_goals
      go_enter Tryz.func88, Tryz.ntmps88
      go_wp2_with fail
      refine (l8Share_is tu se sp W wl wc S sc sh hn m _ HS.out _ (hS.below (bl1 _ _))).mono ?_
      rintro e w1 ⟨rfl, hb1⟩
      have hF := (Blk.new w 41 #[.int .i64 tu, .int .i64 se, .int .i64 sp, .slice W wl wc, .slice S sh.length sc]).below hb1 (by simp)
      have f0 := (hF.cell 0).trans (show _ = some (.int .i64 tu) from rfl)
      have f1 := (hF.cell 1).trans (show _ = some (.int .i64 se) from rfl)
      have hFl := hF.lt
      go_wp2
      go_ret
      exact ⟨by simp [entB, h1, h2], bth (bth (bl1 _ _) hb1) (bl1 _ _)⟩
  · go_enter Tryz.func88, Tryz.ntmps88
    go_wp2_with fail
    refine (l8Share_is tu se sp W wl wc S sc sh hn m _ HS.out _ (hS.below (bl1 _ _))).mono ?_
    rintro e w1 ⟨rfl, hb1⟩
    have hF := (Blk.new w 41 #[.int .i64 tu, .int .i64 se, .int .i64 sp, .slice W wl wc, .slice S sh.length sc]).below hb1 (by simp)
    have f0 := (hF.cell 0).trans (show _ = some (.int .i64 tu) from rfl)
    have f1 := (hF.cell 1).trans (show _ = some (.int .i64 se) from rfl)
    have hFl := hF.lt
    go_wp2
    go_ret
    exact ⟨by simp [entB, h1] <;> omega, bth (bth (bl1 _ _) hb1) (bl1 _ _)⟩
end Go.Proofs.YtpkagohflkcnkaaGreatDoor
