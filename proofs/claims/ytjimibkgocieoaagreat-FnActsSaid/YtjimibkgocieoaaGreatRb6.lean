/- Texts of the proof: walks of the functions, and what they compute. -/
import Derived.Deep.Cut
import Derived.Test.YtjimibkgocieoaaGreatRb3
import Derived.Test.YtjimibkgocieoaaGreatRb4
import Derived.Test.YtjimibkgocieoaaGreatRb0
set_option maxHeartbeats 16000000
set_option maxRecDepth 100000
namespace Go.Proofs.YtjimibkgocieoaaGreat
open Go.RowKit Go.G9
def memP (m : Int) (s : Sha) : Bool := s.mem == m
def shareF (xs : List Sha) (m : Int) : Sha := match xs.find? (memP m) with | some s => s | none => ⟨m, 0, 0⟩
def entB (tu se : Int) (s : Sha) : Bool := decide (s.turns < tu) && decide (s.secs < se)
theorem shareF_none {xs : List Sha} {m : Int} (h : xs.find? (memP m) = none) : shareF xs m = ⟨m, 0, 0⟩ := by simp [shareF, h]
theorem shareF_some {xs : List Sha} {m : Int} {s : Sha} (h : xs.find? (memP m) = some s) : shareF xs m = s := by simp [shareF, h]
theorem find_found {T : Type} {p : T → Bool} : ∀ {xs : List T} {k : Nat} {x : T}, allTo (fun i => !atB p xs i) k = true → xs[k]? = some x → p x = true → xs.find? p = some x
 | [], k, x, _, h, _ => by simp at h
 | y :: ys, 0, x, _, h, hp => by simp at h; subst h; simp [List.find?_cons, hp]
 | y :: ys, k + 1, x, ha, h, hp => by
  have h0 := allTo_iff.1 ha 0 (by omega)
  have hy : p y = false := by simpa [atB] using h0
  rw [List.find?_cons, hy]
  refine find_found (k := k) (allTo_iff.2 fun i hi => ?_) (by simpa using h) hp
  have := allTo_iff.1 ha (i + 1) (by omega)
  simpa [atB] using this
theorem find_nil {T : Type} {p : T → Bool} {xs : List T} (h : allTo (fun i => !atB p xs i) xs.length = true) : xs.find? p = none := by
 rw [List.find?_eq_none]
 intro x hx
 obtain ⟨i, hi⟩ := List.mem_iff_getElem?.1 hx
 have := allTo_iff.1 h i (List.getElem?_eq_some_iff.1 hi).1
 simpa [atB, hi] using this
theorem indexFunc_Sha (A : Option Addr) (c : Nat) (xs : List Sha) (hn : xs.length ≤ 1048576) (f : FuncId) (cv : Array Value) (hcall : ∀ args W, (callFunc f args).run Tryz.prog W = .ok (.enter f args) W) (p : Sha → Bool) (v : Int) (hv : idxB p xs = v) (w : World) (hR : Rds 3 Sha.cells w A xs)
  (hf : ∀ x, x ∈ xs → ∀ W, Below w.heap.size w W → Calls Tryz.prog f (#[.agg #[.int .i64 x.mem, .int .i64 x.turns, .int .i64 x.secs]] ++ cv) W fun e w' => e = .returned (.bool (p x)) ∧ Below W.heap.size W w') :
 Calls Tryz.prog 181 #[.slice A xs.length c, .func (.func f) #[] cv] w fun e w' => e = .returned (.int .i64 v) ∧ Below w.heap.size w w' := by
 subst hv
 have HF := lh hf; clear hf
 go_in
 go_wp2
 go_loopw [8] (fun i wr => ∃ k : Nat, k ≤ xs.length ∧ i = .int .i64 k ∧ allTo (fun i => !atB p xs i) k = true ∧ Below w.heap.size w wr) (fun i _ => xs.length - (intOf i).toNat)
 case atStart => exact ⟨0, Nat.zero_le _, rfl, rfl, Below.refl _ _⟩
 case round =>
  obtain ⟨k, hk, rfl, hl, hb⟩ := hrel
  have HL := lh hl; clear hl
  by_cases hlt : k < xs.length
  ·obtain ⟨b, off, x, rfl, hbl, hx, hcx⟩ := hR.at_ hb hlt
   have HF' := lh (HF.out x (List.mem_of_getElem? hx))
   obtain ⟨sm, st, ss⟩ := x
   have f0 := hcx 0 _ rfl; have f1 := hcx 1 _ rfl; have f2 := hcx 2 _ rfl
   simp only [Nat.add_zero] at f0
   have g0 := f0 (Kin.self _); have g1 := f1 (Kin.self _); have g2 := f2 (Kin.self _)
   simp only [Kin.self] at g0
   simp only [Kin.self] at g1
   simp only [Kin.self] at g2
   have HX := lh hx; clear hx hcx
   go_wp2_with fail
   refine (HF'.out _ hb).mono ?_
   rintro e w' ⟨rfl, hb'⟩
   cases hp : p ⟨sm, st, ss⟩
   ·exact zb112
   ·exact zb144
  ·exact zb146
theorem shareOfF_is (m : Int) (g : Nat) (x : Sha) (W : World) (hg : W.cell? ⟨g, 0, none⟩ = some (.int .i64 m)) (hl : g < W.heap.size) :
 Calls Tryz.prog 182 (#[.agg #[.int .i64 x.mem, .int .i64 x.turns, .int .i64 x.secs]] ++ #[.pointer (some ⟨g, 0, none⟩)]) W fun e w' => e = .returned (.bool (x.mem == m)) ∧ Below W.heap.size W w' := by
 cases hb : x.mem == m
 all_goals
  have hb2 := lh hb
  go_in
  go_wp2
  go_ret
  exact ⟨rfl, bl1 _ _⟩
theorem shareOf_is (tu se sp : Int) (W : Option Addr) (wl wc : Nat) (S : Option Addr) (sc : Nat) (sh : List Sha) (hn : sh.length ≤ 1048576) (m : Int) (s : Sha) (hs : shareF sh m = s) (w : World) (hS : Rds 3 Sha.cells w S sh) :
 Calls Tryz.prog 121 #[.agg #[.int .i64 tu, .int .i64 se, .int .i64 sp, .slice W wl wc, .slice S sh.length sc], .int .i64 m] w fun e w' => e = .returned (.agg #[.int .i64 s.mem, .int .i64 s.turns, .int .i64 s.secs]) ∧ Below w.heap.size w w' := by
 cases hfd : sh.find? (memP m) with
 | none =>
  obtain rfl : (⟨m, 0, 0⟩ : Sha) = s := (shareF_none hfd).symm.trans hs
  have HI := lh (idxB_nil hfd); clear hfd hs
  go_in
  go_upto_region 1 with fail
  refine lay3 fun wX hq1 hF hM hZ => ?_
  replace hS := hS.below hq1; have HB := hq1; have f' := hF.cs5; have mm0 := (hM.cell 0).trans (show _ = some (.int .i64 m) from rfl); have z' := hZ.cs3; have hz0 := hZ.lt
  have HQ : Hid (∀ x, x ∈ sh → ∀ V, Below wX.heap.size wX V → Calls Tryz.prog 182 (#[.agg #[.int .i64 x.mem, .int .i64 x.turns, .int .i64 x.secs]] ++ #[.pointer (some ⟨w.heap.size + 1, 0, none⟩)]) V fun e w' => e = .returned (.bool (memP m x)) ∧ Below V.heap.size V w') := lh fun x _ V hV => shareOfF_is m (w.heap.size + 1) x V ((hM.to hV).cell 0) (hM.to hV).lt
  go_wp2_with fail
  refine (indexFunc_Sha S sc sh hn 182 #[.pointer (some ⟨w.heap.size + 1, 0, none⟩)] (run_enter Tryz.func182 (by kernel_rfl) (by kernel_rfl)) (memP m) _ HI.out _ (hS.below bel) HQ.out).mono ?_
  rintro e w2 ⟨rfl, hb2⟩
  have hq2 := be wX hb2; replace HB := bth HB hq2; replace hS := hS.below hq2; replace hF := hF.to hq2; clear f'; have f' := hF.cs5; replace hM := hM.to hq2; replace mm0 := (hM.cell 0).trans (show _ = some (.int .i64 m) from rfl); replace hZ := hZ.to hq2; clear z'; have z' := hZ.cs3; have fhZ' := hZ.fz3; have yhF := hF.lt; have yhM := hM.lt; have yhZ := hZ.lt
  go_wp2
  clear f' mm0 z'
  refine st3 0 fun W9 tW9 => ?_
  replace HB := tW9.hc HB; replace hF := tW9.fa hF; replace hM := tW9.fa hM; replace hZ := tW9.all3 hZ; have f' := hF.cs5; have mm0 := (hM.cell 0).trans (show _ = some (.int .i64 m) from rfl); have z' := hZ.cs3
  refine bodyPost_ret (v := .agg #[.int .i64 m, .int .i64 0, .int .i64 0]) (by simp [results, Tryz.results121, go_sem, z']) rfl ?_
  exact ⟨rfl, HB⟩
 | some t =>
  obtain rfl : t = s := (shareF_some hfd).symm.trans hs
  obtain ⟨k, hk, hkx⟩ := idxB_some hfd
  have hlt : k < sh.length := (List.getElem?_eq_some_iff.1 hkx).1; have HI := lh hk; clear hfd hs hk
  go_in
  go_upto_region 1 with fail
  refine lay3 fun wX hq1 hF hM hZ => ?_
  replace hS := hS.below hq1; have HB := hq1; have f' := hF.cs5; have mm0 := (hM.cell 0).trans (show _ = some (.int .i64 m) from rfl); have z' := hZ.cs3; have hz0 := hZ.lt
  have HQ : Hid (∀ x, x ∈ sh → ∀ V, Below wX.heap.size wX V → Calls Tryz.prog 182 (#[.agg #[.int .i64 x.mem, .int .i64 x.turns, .int .i64 x.secs]] ++ #[.pointer (some ⟨w.heap.size + 1, 0, none⟩)]) V fun e w' => e = .returned (.bool (memP m x)) ∧ Below V.heap.size V w') := lh fun x _ V hV => shareOfF_is m (w.heap.size + 1) x V ((hM.to hV).cell 0) (hM.to hV).lt
  go_wp2_with fail
  refine (indexFunc_Sha S sc sh hn 182 #[.pointer (some ⟨w.heap.size + 1, 0, none⟩)] (run_enter Tryz.func182 (by kernel_rfl) (by kernel_rfl)) (memP m) _ HI.out _ (hS.below bel) HQ.out).mono ?_
  rintro e w2 ⟨rfl, hb2⟩
  have hq2 := be wX hb2; replace HB := bth HB hq2; replace hS := hS.below hq2; replace hF := hF.to hq2; clear f'; have f' := hF.cs5; replace hM := hM.to hq2; replace mm0 := (hM.cell 0).trans (show _ = some (.int .i64 m) from rfl); replace hZ := hZ.to hq2; clear z'; have z' := hZ.cs3
  obtain ⟨b, off, r', rfl, hbl, hx, hcx⟩ := hS.at_ (Below.refl _ _) hlt
  clear f'; have f' := hF.cs5
  obtain rfl : t = r' := Option.some.inj (hkx.symm.trans hx)
  have p0 := hcx 0 _ rfl; have p1 := hcx 1 _ rfl; have p2 := hcx 2 _ rfl
  simp only [Nat.add_zero] at p0
  have g0 := p0 (Kin.self _); have g1 := p1 (Kin.self _); have g2 := p2 (Kin.self _)
  simp only [Kin.self] at g0
  simp only [Kin.self] at g1
  simp only [Kin.self] at g2
  clear hx hcx hkx; have fhZ' := hZ.fz3; have yhM := hM.lt; have yhZ := hZ.lt; have yhF := hF.lt
  go_wp2
  clear mm0 z' f'
  refine st3 0 fun W9 tW9 => ?_
  replace HB := tW9.hc HB; replace hM := tW9.fa hM; replace hZ := tW9.all3 hZ; replace hF := tW9.fa hF; have mm0 := (hM.cell 0).trans (show _ = some (.int .i64 m) from rfl); have z' := hZ.cs3; have f' := hF.cs5
  refine bodyPost_ret (v := .agg #[.int .i64 t.mem, .int .i64 t.turns, .int .i64 t.secs]) (by simp [results, Tryz.results121, go_sem, z']) rfl ?_
  exact ⟨rfl, HB⟩
theorem l8Share_is (tu se sp : Int) (W : Option Addr) (wl wc : Nat) (S : Option Addr) (sc : Nat) (sh : List Sha) (hn : sh.length ≤ 1048576) (m : Int) (s : Sha) (hs : shareF sh m = s) (w : World) (hS : Rds 3 Sha.cells w S sh) :
 Calls Tryz.prog 176 #[.agg #[.int .i64 tu, .int .i64 se, .int .i64 sp, .slice W wl wc, .slice S sh.length sc], .int .i64 m] w fun e w' => e = .returned (.agg #[.int .i64 s.mem, .int .i64 s.turns, .int .i64 s.secs]) ∧ Below w.heap.size w w' := by
 have HS := lh hs; clear hs
 go_in
 go_upto_region 1 with fail
 refine lay2 fun wX hq1 hF hZ => ?_
 replace hS := hS.below hq1; have HB := hq1; have f' := hF.cs5; have z' := hZ.cs3; have hz0 := hZ.lt
 go_wp2
 go_loop [5] (fun i => ∃ k : Nat, k ≤ sh.length ∧ i = .int .i64 k ∧ allTo (fun i => !atB (memP m) sh i) k = true) (fun i => sh.length - (intOf i).toNat)
 case atStart => exact ⟨0, Nat.zero_le _, rfl, rfl⟩
 case round =>
  obtain ⟨k, hk, rfl, hl⟩ := hrel
  have HL := lh hl; clear hl
  by_cases hlt : k < sh.length
  ·obtain ⟨b, off, t, rfl, hbl, hx, hcx⟩ := hS.at_ (Below.refl _ _) hlt
   clear f'; have f' := hF.cs5; have p0 := hcx 0 _ rfl; have p1 := hcx 1 _ rfl; have p2 := hcx 2 _ rfl
   simp only [Nat.add_zero] at p0
   have g0 := p0 (Kin.self _); have g1 := p1 (Kin.self _); have g2 := p2 (Kin.self _)
   simp only [Kin.self] at g0
   simp only [Kin.self] at g1
   simp only [Kin.self] at g2
   have HX := lh hx; clear hx hcx
   cases he : t.mem == m
   ·go_wp2
    go_round
    case rel => exact ⟨k + 1, by omega, by go_num, allTo_go HL.out (by simp [atB, HX.out, memP, he])⟩
    case measure => simp [intOf]; omega
   ·have HE := lh he
    obtain rfl : t = s := (shareF_some (find_found HL.out HX.out (p := memP m) HE.out)).symm.trans HS.out
    have fhZ' := hZ.fz3; have yhZ := hZ.lt; have yhF := hF.lt
    go_wp2
    clear z' f'
    refine st3 0 fun W9 tW9 => ?_
    replace HB := tW9.hc HB; replace hZ := tW9.all3 hZ; replace hF := tW9.fa hF; have z' := hZ.cs3; have f' := hF.cs5
    refine bodyPost_ret (v := .agg #[.int .i64 t.mem, .int .i64 t.turns, .int .i64 t.secs]) (by simp [results, Tryz.results176, go_sem, z']) rfl ?_
    exact ⟨rfl, HB⟩
  ·obtain rfl : k = sh.length := by omega
   obtain rfl : (⟨m, 0, 0⟩ : Sha) = s := (shareF_none (find_nil HL.out)).symm.trans HS.out
   have fhZ' := hZ.fz3; have yhF := hF.lt; have yhZ := hZ.lt
   go_wp2
   clear f' z'
   refine st3 0 fun W9 tW9 => ?_
   replace HB := tW9.hc HB; replace hF := tW9.fa hF; replace hZ := tW9.all3 hZ; have f' := hF.cs5; have z' := hZ.cs3
   refine bodyPost_ret (v := .agg #[.int .i64 m, .int .i64 0, .int .i64 0]) (by simp [results, Tryz.results176, go_sem, z']) rfl ?_
   exact ⟨rfl, HB⟩
theorem zb48 {p : Prop} (h : p := by
 rintro e w1 ⟨rfl, hb1⟩
 have hF := (Blk.new w 29 #[.int .i64 tu, .int .i64 se, .int .i64 sp, .slice W wl wc, .slice S sh.length sc]).below hb1 (by simp); have f0 := (hF.cell 0).trans (show _ = some (.int .i64 tu) from rfl); have f1 := (hF.cell 1).trans (show _ = some (.int .i64 se) from rfl); have hFl := hF.lt
 go_wp2
 go_ret
 exact ⟨by simp [entB, h1] <;> omega, bth (bth (bl1 _ _) hb1) (bl1 _ _)⟩) : p := h
theorem isEntitled_is (tu se sp : Int) (W : Option Addr) (wl wc : Nat) (S : Option Addr) (sc : Nat) (sh : List Sha) (hn : sh.length ≤ 1048576) (m : Int) (v : Bool) (hv : entB tu se (shareF sh m) = v) (w : World) (hS : Rds 3 Sha.cells w S sh) :
 Calls Tryz.prog 120 #[.agg #[.int .i64 tu, .int .i64 se, .int .i64 sp, .slice W wl wc, .slice S sh.length sc], .int .i64 m] w fun e w' => e = .returned (.bool v) ∧ Below w.heap.size w w' := by
 subst hv
 obtain ⟨s, hs⟩ : ∃ s, shareF sh m = s := ⟨_, rfl⟩
 rw [hs]
 have HS := lh hs; clear hs
 obtain ⟨sm, st, ss⟩ := s
 by_cases h1 : st < tu
 ·by_cases h2 : ss < se
  all_goals
   go_in
   go_wp2_with fail
   refine (shareOf_is tu se sp W wl wc S sc sh hn m _ HS.out _ (hS.below (bl1 _ _))).mono ?_
   rintro e w1 ⟨rfl, hb1⟩
   have hF := (Blk.new w 29 #[.int .i64 tu, .int .i64 se, .int .i64 sp, .slice W wl wc, .slice S sh.length sc]).below hb1 (by simp); have f0 := (hF.cell 0).trans (show _ = some (.int .i64 tu) from rfl); have f1 := (hF.cell 1).trans (show _ = some (.int .i64 se) from rfl); have hFl := hF.lt
   go_wp2
   go_ret
   exact ⟨by simp [entB, h1, h2], bth (bth (bl1 _ _) hb1) (bl1 _ _)⟩
 ·go_in
  go_wp2_with fail
  refine (shareOf_is tu se sp W wl wc S sc sh hn m _ HS.out _ (hS.below (bl1 _ _))).mono ?_
  exact zb48
theorem l8Entitled_is (tu se sp : Int) (W : Option Addr) (wl wc : Nat) (S : Option Addr) (sc : Nat) (sh : List Sha) (hn : sh.length ≤ 1048576) (m : Int) (v : Bool) (hv : entB tu se (shareF sh m) = v) (w : World) (hS : Rds 3 Sha.cells w S sh) :
 Calls Tryz.prog 175 #[.agg #[.int .i64 tu, .int .i64 se, .int .i64 sp, .slice W wl wc, .slice S sh.length sc], .int .i64 m] w fun e w' => e = .returned (.bool v) ∧ Below w.heap.size w w' := by
 subst hv
 obtain ⟨s, hs⟩ : ∃ s, shareF sh m = s := ⟨_, rfl⟩
 rw [hs]
 have HS := lh hs; clear hs
 obtain ⟨sm, st, ss⟩ := s
 by_cases h1 : st < tu
 ·by_cases h2 : ss < se
  all_goals
   go_in
   go_wp2_with fail
   refine (l8Share_is tu se sp W wl wc S sc sh hn m _ HS.out _ (hS.below (bl1 _ _))).mono ?_
   rintro e w1 ⟨rfl, hb1⟩
   have hF := (Blk.new w 29 #[.int .i64 tu, .int .i64 se, .int .i64 sp, .slice W wl wc, .slice S sh.length sc]).below hb1 (by simp); have f0 := (hF.cell 0).trans (show _ = some (.int .i64 tu) from rfl); have f1 := (hF.cell 1).trans (show _ = some (.int .i64 se) from rfl); have hFl := hF.lt
   go_wp2
   go_ret
   exact ⟨by simp [entB, h1, h2], bth (bth (bl1 _ _) hb1) (bl1 _ _)⟩
 ·go_in
  go_wp2_with fail
  refine (l8Share_is tu se sp W wl wc S sc sh hn m _ HS.out _ (hS.below (bl1 _ _))).mono ?_
  exact zb48
open Go.RowKit Go.G9
def shaOk (tu se : Int) (s : Sha) : Bool := memB s.mem && (inB s.turns 0 tu && inB s.secs 0 se)
def shaStep (tu se : Int) (xs : List Sha) : Nat → Bool
 | 0 => match xs[0]? with | some x => shaOk tu se x | none => true
 | j + 1 => match xs[j]?, xs[j + 1]? with | some y, some x => shaOk tu se x && decide (y.mem < x.mem) | _, _ => true
def waitStep (tu se sp : Int) (ws : List Int) (sh : List Sha) (i : Nat) : Bool := match ws[i]? with | some m => memB m && (!(m == sp) && (!hasB (ws.take i) m && entB tu se (shareF sh m))) | none => true
def spkB (tu sp : Int) (sh : List Sha) : Bool := (sp == 0) || decide ((shareF sh sp).turns < tu)
def sharesB (tu se : Int) (sh : List Sha) : Bool := allTo (shaStep tu se sh) sh.length
def floB (tu se sp : Int) (ws : List Int) (sh : List Sha) : Bool :=
 inB tu 1 3 && (inB se 1 3600 && (((sp == 0) || memB sp) && (decide (ws.length ≤ 10) && (sharesB tu se sh && (allTo (waitStep tu se sp ws sh) ws.length && spkB tu sp sh)))))
theorem shaStep_zero {tu se : Int} {xs : List Sha} {x : Sha} (hx : xs[0]? = some x) : shaStep tu se xs 0 = shaOk tu se x := by simp only [shaStep, hx]
theorem shaStep_succ {tu se : Int} {xs : List Sha} {j : Nat} {x y : Sha} (hy : xs[j]? = some y) (hx : xs[j + 1]? = some x) : shaStep tu se xs (j + 1) = (shaOk tu se x && decide (y.mem < x.mem)) := by simp only [shaStep, hx, hy]
theorem waitStep_at {tu se sp : Int} {ws : List Int} {sh : List Sha} {i : Nat} {m : Int} (hm : ws[i]? = some m) : waitStep tu se sp ws sh i = (memB m && (!(m == sp) && (!hasB (ws.take i) m && entB tu se (shareF sh m)))) := by simp only [waitStep, hm]
theorem sharesB_not {tu se : Int} {xs : List Sha} {k : Nat} (hk : k < xs.length) (h : shaStep tu se xs k = false) : sharesB tu se xs = false := allTo_not hk h
theorem floB_sh {tu se sp : Int} {ws : List Int} {sh : List Sha} (h : sharesB tu se sh = false) : floB tu se sp ws sh = false := by rw [floB, h]; simp
theorem floB_wait {tu se sp : Int} {ws : List Int} {sh : List Sha} {k : Nat} (hk : k < ws.length) (h : waitStep tu se sp ws sh k = false) : floB tu se sp ws sh = false := by rw [floB, allTo_not hk h]; simp
theorem l8Shares_is (tu se sp : Int) (W : Option Addr) (ws : List Int) (wc : Nat) (S : Option Addr) (sc : Nat) (sh : List Sha) (hw : ws.length ≤ 1048576) (hn : sh.length ≤ 1048576) (v : Bool) (hv : sharesB tu se sh = v) (w : World) (hW : Rds 1 intC w W ws) (hS : Rds 3 Sha.cells w S sh) :
 Calls Tryz.prog 173 #[.agg #[.int .i64 tu, .int .i64 se, .int .i64 sp, .slice W ws.length wc, .slice S sh.length sc]] w fun e w' => e = .returned (.bool v) ∧ Below w.heap.size w w' := by
 subst hv
 go_in
 have hS0 := lh hS
 go_upto_region 1 with fail
 refine lay1 fun wX hq1 hF => ?_
 replace hS := hS.below hq1; have HB := hq1
 obtain ⟨f0, f1, f2, f3, f4⟩ := hF.cs5
 go_wp2
 go_loopw [3] (fun i wr => ∃ k : Nat, k ≤ sh.length ∧ i = .int .i64 k ∧ allTo (shaStep tu se sh) k = true ∧ Below w.heap.size w wr ∧ Blk wr w.heap.size 29 #[.int .i64 tu, .int .i64 se, .int .i64 sp, .slice W ws.length wc, .slice S sh.length sc]) (fun i _ => sh.length - (intOf i).toNat)
 case atStart => exact ⟨0, Nat.zero_le _, rfl, rfl, HB, hF⟩
 case round =>
  clear hS hW HB f0 f1 f2 f3 f4 hF
  obtain ⟨k, hk, rfl, hl, hb, hF⟩ := hrel
  have HL := lh hl; clear hl; have hS := hS0.out; have hq1 := be w hb; have HB : Below w.heap.size w wr := hq1; replace hS := hS.below hq1
  by_cases hlt : k < sh.length
  ·obtain ⟨b, off, x, rfl, hbl, hx, hcx⟩ := hS.at_ (Below.refl _ _) hlt
   obtain ⟨xm, xt, xs⟩ := x
   have f4 := (hF.cell 4).trans (show _ = some (.slice (some ⟨b, off, none⟩) sh.length sc) from rfl); have p0 := hcx 0 _ rfl; have p1 := hcx 1 _ rfl; have p2 := hcx 2 _ rfl
   simp only [Nat.add_zero] at p0
   have g0 := p0 (Kin.self _); have g1 := p1 (Kin.self _); have g2 := p2 (Kin.self _)
   simp only [Kin.self] at g0
   simp only [Kin.self] at g1
   simp only [Kin.self] at g2
   have HX := lh hx; clear hx hcx
   go_upto_region 5 with fail
   clear f4
   refine lay1 fun wX hq2 hX => ?_
   replace hS := hS.below hq2; replace HB := bth HB hq2; have x' := hX.cs3; replace hF := hF.to hq2
   obtain ⟨f0, f1, f2, f3, f4⟩ := hF.cs5
   clear p0 p1 p2 g0 g1 g2
   cases h1 : memB xm
   ·have H1 := lh h1; clear h1
    clear x'; have x' := Blk.cs3K (fun K : Kin wX.heap.size wX => (hX.below K.below hX.lt)); clear f0 f1 f2 f3 f4
    refine wp_region_kin (by kernel_rfl) (by kernel_rfl) ?_
    repeat (go_big_quiet_step (fail))
    go_big_quiet_step ((go_at_call 77; exact Kin.same _ (l7Member_is xm _ H1.out _)))
    repeat (go_big_quiet_step (fail))
    refine wpQuiet_nil ?_
    intro K
    go_wp2
    go_ret
    exact ⟨ret_bool (sharesB_not hlt (by cases k with | zero => (rw [shaStep_zero HX.out, shaOk]; simp only [H1.out]; simp) | succ j => (have hy : sh[j]? = some sh[j] := List.getElem?_eq_getElem (by omega); rw [shaStep_succ hy HX.out, shaOk]; simp only [H1.out]; simp))).symm, bth HB K.below⟩
   have H1 := lh h1; clear h1
   cases h2 : inB xt 0 tu
   ·have H2 := lh h2; clear h2
    clear x'; have x' := Blk.cs3K (fun K : Kin wX.heap.size wX => (hX.below K.below hX.lt)); clear f0 f1 f2 f3 f4
    obtain ⟨f0, f1, f2, f3, f4⟩ := Blk.cs5K (fun K : Kin wX.heap.size wX => (hF.below K.below hF.lt))
    refine wp_region_kin (by kernel_rfl) (by kernel_rfl) ?_
    repeat (go_big_quiet_step (fail))
    go_big_quiet_step ((go_at_call 77; exact Kin.same _ (l7Member_is xm _ H1.out _)))
    repeat (go_big_quiet_step (fail))
    go_big_quiet_step ((go_at_call 136; exact Kin.same _ (l1In_is xt 0 tu _ H2.out _)))
    repeat (go_big_quiet_step (fail))
    refine wpQuiet_nil ?_
    intro K
    go_wp2
    go_ret
    exact ⟨ret_bool (sharesB_not hlt (by cases k with | zero => (rw [shaStep_zero HX.out, shaOk]; simp only [H1.out, H2.out]; simp) | succ j => (have hy : sh[j]? = some sh[j] := List.getElem?_eq_getElem (by omega); rw [shaStep_succ hy HX.out, shaOk]; simp only [H1.out, H2.out]; simp))).symm, bth HB K.below⟩
   have H2 := lh h2; clear h2
   cases h3 : inB xs 0 se
   ·have H3 := lh h3; clear h3
    clear x'; have x' := Blk.cs3K (fun K : Kin wX.heap.size wX => (hX.below K.below hX.lt)); clear f0 f1 f2 f3 f4
    obtain ⟨f0, f1, f2, f3, f4⟩ := Blk.cs5K (fun K : Kin wX.heap.size wX => (hF.below K.below hF.lt))
    refine wp_region_kin (by kernel_rfl) (by kernel_rfl) ?_
    repeat (go_big_quiet_step (fail))
    go_big_quiet_step ((go_at_call 77; exact Kin.same _ (l7Member_is xm _ H1.out _)))
    repeat (go_big_quiet_step (fail))
    go_big_quiet_step ((go_at_call 136; exact Kin.same _ (l1In_is xt 0 tu _ H2.out _)))
    repeat (go_big_quiet_step (fail))
    go_big_quiet_step ((go_at_call 136; exact Kin.same _ (l1In_is xs 0 se _ H3.out _)))
    repeat (go_big_quiet_step (fail))
    refine wpQuiet_nil ?_
    intro K
    go_wp2
    go_ret
    exact ⟨ret_bool (sharesB_not hlt (by cases k with | zero => (rw [shaStep_zero HX.out, shaOk]; simp only [H1.out, H2.out, H3.out]; simp) | succ j => (have hy : sh[j]? = some sh[j] := List.getElem?_eq_getElem (by omega); rw [shaStep_succ hy HX.out, shaOk]; simp only [H1.out, H2.out, H3.out]; simp))).symm, bth HB K.below⟩
   have H3 := lh h3; clear h3; have HO : Hid (shaOk tu se ⟨xm, xt, xs⟩ = true) := lh (by rw [shaOk]; simp only [H1.out, H2.out, H3.out]; rfl)
   cases k with
   | zero =>
    clear x'; have x' := Blk.cs3K (fun K : Kin wX.heap.size wX => (hX.below K.below hX.lt)); clear f0 f1 f2 f3 f4
    obtain ⟨f0, f1, f2, f3, f4⟩ := Blk.cs5K (fun K : Kin wX.heap.size wX => (hF.below K.below hF.lt))
    refine wp_region_kin (by kernel_rfl) (by kernel_rfl) ?_
    repeat (go_big_quiet_step (fail))
    go_big_quiet_step ((go_at_call 77; exact Kin.same _ (l7Member_is xm _ H1.out _)))
    repeat (go_big_quiet_step (fail))
    go_big_quiet_step ((go_at_call 136; exact Kin.same _ (l1In_is xt 0 tu _ H2.out _)))
    repeat (go_big_quiet_step (fail))
    go_big_quiet_step ((go_at_call 136; exact Kin.same _ (l1In_is xs 0 se _ H3.out _)))
    repeat (go_big_quiet_step (fail))
    refine wpQuiet_nil ?_
    intro K
    go_wp2
    go_roundw
    case rel => exact ⟨1, by omega, by go_num, allTo_go HL.out (by rw [shaStep_zero HX.out]; exact HO.out), bth HB K.below, hF.below K.below hF.lt⟩
    case measure => simp [intOf]; omega
   | succ j =>
    obtain ⟨b', off', y, e', _, hy, hcy⟩ := hS.at_ (Below.refl _ _) (k := j) (by omega)
    simp only [Option.some.injEq, Addr.mk.injEq, and_true] at e'
    obtain ⟨rfl, rfl⟩ := e'
    obtain ⟨ym, yt, ys⟩ := y
    have q0 := hcy 0 _ rfl
    simp only [Nat.add_zero] at q0
    have HY := lh hy; clear hy hcy
    by_cases hlt2 : ym < xm
    ·have hle : decide (xm ≤ ym) = false := decide_eq_false (by omega)
     clear x'; have x' := Blk.cs3K (fun K : Kin wX.heap.size wX => (hX.below K.below hX.lt)); clear f0 f1 f2 f3 f4
     obtain ⟨f0, f1, f2, f3, f4⟩ := Blk.cs5K (fun K : Kin wX.heap.size wX => (hF.below K.below hF.lt))
     refine wp_region_kin (by kernel_rfl) (by kernel_rfl) ?_
     repeat (go_big_quiet_step (fail))
     go_big_quiet_step ((go_at_call 77; exact Kin.same _ (l7Member_is xm _ H1.out _)))
     repeat (go_big_quiet_step (fail))
     go_big_quiet_step ((go_at_call 136; exact Kin.same _ (l1In_is xt 0 tu _ H2.out _)))
     repeat (go_big_quiet_step (fail))
     go_big_quiet_step ((go_at_call 136; exact Kin.same _ (l1In_is xs 0 se _ H3.out _)))
     repeat (go_big_quiet_step (fail))
     refine wpQuiet_nil ?_
     intro K
     go_wp2
     go_roundw
     case rel => exact ⟨j + 1 + 1, by omega, by go_num, allTo_go HL.out (by rw [shaStep_succ HY.out HX.out, HO.out, decide_eq_true (show (Sha.mem ⟨ym, yt, ys⟩) < (Sha.mem ⟨xm, xt, xs⟩) from hlt2)]; rfl), bth HB K.below, hF.below K.below hF.lt⟩
     case measure => simp [intOf]; omega
    ·have hle : decide (xm ≤ ym) = true := decide_eq_true (by omega)
     clear x'; have x' := Blk.cs3K (fun K : Kin wX.heap.size wX => (hX.below K.below hX.lt)); clear f0 f1 f2 f3 f4
     obtain ⟨f0, f1, f2, f3, f4⟩ := Blk.cs5K (fun K : Kin wX.heap.size wX => (hF.below K.below hF.lt))
     refine wp_region_kin (by kernel_rfl) (by kernel_rfl) ?_
     repeat (go_big_quiet_step (fail))
     go_big_quiet_step ((go_at_call 77; exact Kin.same _ (l7Member_is xm _ H1.out _)))
     repeat (go_big_quiet_step (fail))
     go_big_quiet_step ((go_at_call 136; exact Kin.same _ (l1In_is xt 0 tu _ H2.out _)))
     repeat (go_big_quiet_step (fail))
     go_big_quiet_step ((go_at_call 136; exact Kin.same _ (l1In_is xs 0 se _ H3.out _)))
     repeat (go_big_quiet_step (fail))
     refine wpQuiet_nil ?_
     intro K
     go_wp2
     go_ret
     exact ⟨ret_bool (sharesB_not hlt (by rw [shaStep_succ HY.out HX.out, HO.out, decide_eq_false (show ¬ (Sha.mem ⟨ym, yt, ys⟩) < (Sha.mem ⟨xm, xt, xs⟩) from by show ¬ ym < xm; omega)]; rfl)).symm, bth HB K.below⟩
  ·obtain ⟨f0, f1, f2, f3, f4⟩ := hF.cs5
   obtain rfl : k = sh.length := by omega
   go_wp2
   go_ret
   exact ⟨ret_bool HL.out.symm, (bth HB bel)⟩
open Go.RowKit Go.G9
structure Fl where
 tu : Int
 se : Int
 sp : Int
 ws : List Int
 sh : List Sha
def Fl.ok (f : Fl) : Bool := floB f.tu f.se f.sp f.ws f.sh
structure FlOk (tu se sp : Int) (ws : List Int) (sh : List Sha) : Prop where
 t : 1 ≤ tu ∧ tu ≤ 3
 s : 1 ≤ se ∧ se ≤ 3600
 p : sp = 0 ∨ memB sp = true
 l : ws.length ≤ 10
 ok : ∀ x, x ∈ sh → shaOk tu se x = true
 ord : sh.Pairwise (fun a b => a.mem < b.mem)
 w : ∀ m, m ∈ ws → memB m = true ∧ m ≠ sp ∧ entB tu se (shareF sh m) = true
 nd : ws.Nodup
 k : sp = 0 ∨ (shareF sh sp).turns < tu
theorem shares_iff {tu se : Int} {sh : List Sha} : sharesB tu se sh = true ↔ (∀ x, x ∈ sh → shaOk tu se x = true) ∧ sh.Pairwise (fun a b => a.mem < b.mem) := by
 unfold sharesB
 rw [allTo_iff]
 constructor
 ·intro h
  have hok : ∀ (k : Nat) (x : Sha), sh[k]? = some x → shaOk tu se x = true := by
   intro k x hx
   have hk := (List.getElem?_eq_some_iff.1 hx).1; have hs := h k hk
   cases k with
   | zero => simpa only [shaStep, hx] using hs
   | succ j =>
    have hy : sh[j]? = some sh[j] := List.getElem?_eq_getElem (by omega)
    simp only [shaStep, hx, hy, Bool.and_eq_true] at hs
    exact hs.1
  have hst : ∀ (j : Nat) (y x : Sha), sh[j]? = some y → sh[j + 1]? = some x → y.mem < x.mem := by
   intro j y x hy hx
   have hs := h (j + 1) (List.getElem?_eq_some_iff.1 hx).1
   simp only [shaStep, hx, hy, Bool.and_eq_true, decide_eq_true_eq] at hs
   exact hs.2
  have hm : ∀ (d j : Nat) (y x : Sha), sh[j]? = some y → sh[j + 1 + d]? = some x → y.mem < x.mem := by
   intro d
   induction d with
   | zero => exact hst
   | succ d ih =>
    intro j y x hy hx
    have hl := (List.getElem?_eq_some_iff.1 hx).1; have hz : sh[j + 1 + d]? = some sh[j + 1 + d] := List.getElem?_eq_getElem (by omega); have h1 := ih j y _ hy hz; have h2 := hst (j + 1 + d) _ x hz hx
    omega
  refine ⟨fun x hx => ?_, List.pairwise_iff_getElem.2 fun i j hi hj hij => ?_⟩
  ·obtain ⟨k, hk⟩ := List.mem_iff_getElem?.1 hx
   exact hok k x hk
  ·have e : i + 1 + (j - i - 1) = j := by omega
   exact hm (j - i - 1) i _ _ (List.getElem?_eq_getElem hi) (by rw [e]; exact List.getElem?_eq_getElem hj)
 ·rintro ⟨h1, h2⟩ k hk
  have hx : sh[k]? = some sh[k] := List.getElem?_eq_getElem hk
  cases k with
  | zero => simp only [shaStep, hx]; exact h1 _ (List.getElem_mem _)
  | succ j =>
   have hy : sh[j]? = some sh[j] := List.getElem?_eq_getElem (by omega)
   simp only [shaStep, hx, hy, Bool.and_eq_true, decide_eq_true_eq]
   exact ⟨h1 _ (List.getElem_mem _), List.pairwise_iff_getElem.1 h2 j (j + 1) _ _ (by omega)⟩
theorem floOk_iff {tu se sp : Int} {ws : List Int} {sh : List Sha} : floB tu se sp ws sh = true ↔ FlOk tu se sp ws sh := by
 unfold floB
 simp only [Bool.and_eq_true, Bool.or_eq_true, beq_iff_eq, decide_eq_true_eq, inB_iff, shares_iff, allTo_iff, spkB]
 constructor
 ·rintro ⟨h1, h2, h3, h4, ⟨h5, h6⟩, h7, h8⟩
  have hw : ∀ (k : Nat) (m : Int), ws[k]? = some m → memB m = true ∧ m ≠ sp ∧ hasB (ws.take k) m = false ∧ entB tu se (shareF sh m) = true := by
   intro k m hm
   have := h7 k (List.getElem?_eq_some_iff.1 hm).1
   simpa only [waitStep, hm, Bool.and_eq_true, Bool.not_eq_true', beq_eq_false_iff_ne] using this
  refine ⟨h1, h2, h3, h4, h5, h6, fun m hm => ?_, List.pairwise_iff_getElem.2 fun i j hi hj hij e => ?_, h8⟩
  ·obtain ⟨k, hk⟩ := List.mem_iff_getElem?.1 hm
   have := hw k m hk
   exact ⟨this.1, this.2.1, this.2.2.2⟩
  ·have := (hw j _ (List.getElem?_eq_getElem hj)).2.2.1
   unfold hasB at this
   rw [List.any_eq_false] at this
   refine this ws[i] (List.mem_iff_getElem.2 ⟨i, by simp; omega, by simp⟩) ?_
   rw [e]; simp
 ·rintro ⟨h1, h2, h3, h4, h5, h6, h7, h8, h9⟩
  refine ⟨h1, h2, h3, h4, ⟨h5, h6⟩, fun k hk => ?_, h9⟩
  have hx : ws[k]? = some ws[k] := List.getElem?_eq_getElem hk
  simp only [waitStep, hx, Bool.and_eq_true, Bool.not_eq_true', beq_eq_false_iff_ne]
  have := h7 _ (List.getElem_mem hk)
  refine ⟨this.1, this.2.1, ?_, this.2.2⟩
  unfold hasB
  rw [List.any_eq_false]
  intro x hx e
  obtain ⟨i, hi, e2⟩ := List.mem_iff_getElem.1 hx
  simp at hi e2 e
  exact List.pairwise_iff_getElem.1 h8 i k (by omega) hk (by omega) (e2.trans e)
theorem fl_ok {f : Fl} : f.ok = true ↔ FlOk f.tu f.se f.sp f.ws f.sh := floOk_iff
def akB (f : Fl) (m : Int) : Bool := f.ok && (memB m && (!(m == f.sp) && (!hasB f.ws m && (entB f.tu f.se (shareF f.sh m) && !decide (f.ws.length = 10)))))
def akF (f : Fl) (m : Int) : Fl := { f with ws := f.ws ++ [m] }
theorem akF_ok {f : Fl} {m : Int} (h : akB f m = true) : (akF f m).ok = true := by
 simp only [akB, Bool.and_eq_true, Bool.not_eq_true', beq_eq_false_iff_ne, decide_eq_false_iff_not] at h
 obtain ⟨h0, h1, h2, h3, h4, h5⟩ := h
 have H := fl_ok.1 h0
 refine fl_ok.2 ⟨H.t, H.s, H.p, ?_, H.ok, H.ord, ?_, ?_, H.k⟩
 ·have := H.l; simp [akF]; omega
 ·intro x hx
  simp only [akF, List.mem_append, List.mem_cons, List.not_mem_nil, or_false] at hx
  rcases hx with hx | rfl
  ·exact H.w x hx
  ·exact ⟨h1, h2, h4⟩
 ·simp only [akF]
  refine List.nodup_append.2 ⟨H.nd, by simp, ?_⟩
  intro a ha b hb e
  simp at hb
  subst e; subst hb
  unfold hasB at h3
  rw [List.any_eq_false] at h3
  exact h3 _ ha (by simp)
def nxI (f : Fl) : Nat → Nat
 | 0 => 0
 | k + 1 => match f.ws[k]?, f.ws[nxI f k]? with | some x, some y => if (shareF f.sh x).turns < (shareF f.sh y).turns then k else nxI f k | _, _ => nxI f k
theorem nxI_lt (f : Fl) : ∀ k, 0 < k → nxI f k < k
 | 0, h => absurd h (by omega)
 | k + 1, _ => by
  have ih : nxI f k ≤ k := by
   cases k with
   | zero => simp [nxI]
   | succ j => have := nxI_lt f (j + 1) (by omega); omega
  unfold nxI
  split
  ·split <;> omega
  ·omega
def nxM (f : Fl) : Option Int := f.ws[nxI f f.ws.length]?
def nxB (f : Fl) : Bool := f.ok && ((f.sp == 0) && decide (0 < f.ws.length))
def nxF (f : Fl) (m : Int) : Fl := { f with sp := m, ws := f.ws.filter (fun x => !(x == m)) }
theorem nxM_some {f : Fl} (h : 0 < f.ws.length) : ∃ m, nxM f = some m ∧ m ∈ f.ws := by
 have := nxI_lt f f.ws.length h
 exact ⟨f.ws[nxI f f.ws.length], List.getElem?_eq_getElem this, List.getElem_mem _⟩
theorem memB_ne {m : Int} (h : memB m = true) : m ≠ 0 := by
 have := inB_iff.1 h
 omega
theorem nxF_ok {f : Fl} {m : Int} (h : nxB f = true) (hm : m ∈ f.ws) : (nxF f m).ok = true := by
 simp only [nxB, Bool.and_eq_true, beq_iff_eq, decide_eq_true_eq] at h
 obtain ⟨h0, h1, h2⟩ := h
 have H := fl_ok.1 h0; have Hm := H.w m hm
 refine fl_ok.2 ⟨H.t, H.s, Or.inr Hm.1, ?_, H.ok, H.ord, ?_, ?_, Or.inr ?_⟩
 ·have := List.length_filter_le (fun x => !(x == m)) f.ws
  have := H.l
  simp only [nxF]
  omega
 ·intro x hx
  simp only [nxF, List.mem_filter, Bool.not_eq_true', beq_eq_false_iff_ne] at hx
  have := H.w x hx.1
  exact ⟨this.1, hx.2, this.2.2⟩
 ·exact H.nd.sublist List.filter_sublist
 ·have := Hm.2.2
  simp only [entB, Bool.and_eq_true, decide_eq_true_eq] at this
  exact this.1
theorem filter_cut {xs : List Int} (h : xs.Nodup) {k : Nat} {m : Int} (hm : xs[k]? = some m) : xs.filter (fun x => !(x == m)) = xs.take k ++ xs.drop (k + 1) := by
 obtain ⟨hk, he⟩ := List.getElem?_eq_some_iff.1 hm
 have e : xs = xs.take k ++ m :: xs.drop (k + 1) := by rw [← he, ← List.drop_eq_getElem_cons hk, List.take_append_drop]
 clear hm he; have hp := h
 rw [e] at hp
 have hp2 := List.nodup_append.1 hp; have hp3 := List.nodup_cons.1 hp2.2.1
 conv => lhs; rw [e]
 rw [List.filter_append, List.filter_cons]
 simp only [BEq.rfl, Bool.not_true, Bool.false_eq_true, if_false]
 congr 1
 ·rw [List.filter_eq_self]
  intro a ha
  simp only [Bool.not_eq_true', beq_eq_false_iff_ne]
  exact hp2.2.2 a ha _ List.mem_cons_self
 ·rw [List.filter_eq_self]
  intro a ha
  simp only [Bool.not_eq_true', beq_eq_false_iff_ne]
  intro e2; subst e2; exact hp3.1 ha
def setSh : List Sha → Sha → List Sha
 | [], s => [s]
 | x :: xs, s => if x.mem < s.mem then x :: setSh xs s else if x.mem = s.mem then s :: xs else s :: x :: xs
theorem setSh_len : ∀ (xs : List Sha) (s : Sha), (setSh xs s).length ≤ xs.length + 1
 | [], s => by simp [setSh]
 | x :: xs, s => by
  unfold setSh
  split
  ·have := setSh_len xs s; simp; omega
  ·split <;> simp
theorem setSh_mem : ∀ {xs : List Sha} {s x : Sha}, x ∈ setSh xs s → x = s ∨ x ∈ xs
 | [], s, x, h => by simp [setSh] at h; exact Or.inl h
 | y :: xs, s, x, h => by
  unfold setSh at h
  split at h
  ·rcases List.mem_cons.1 h with rfl | h
   ·exact Or.inr List.mem_cons_self
   ·rcases setSh_mem h with e | e
    ·exact Or.inl e
    ·exact Or.inr (List.mem_cons_of_mem _ e)
  ·split at h
   ·rcases List.mem_cons.1 h with rfl | h
    ·exact Or.inl rfl
    ·exact Or.inr (List.mem_cons_of_mem _ h)
   ·rcases List.mem_cons.1 h with rfl | h
    ·exact Or.inl rfl
    ·exact Or.inr h
theorem setSh_ord : ∀ {xs : List Sha} {s : Sha}, xs.Pairwise (fun a b => a.mem < b.mem) → (setSh xs s).Pairwise (fun a b => a.mem < b.mem)
 | [], s, _ => by simp [setSh]
 | y :: xs, s, h => by
  obtain ⟨h1, h2⟩ := List.pairwise_cons.1 h
  unfold setSh
  split
  ·next hlt =>
   refine List.pairwise_cons.2 ⟨fun a ha => ?_, setSh_ord h2⟩
   rcases setSh_mem ha with rfl | ha
   ·exact hlt
   ·exact h1 a ha
  ·split
   ·next hlt he =>
    refine List.pairwise_cons.2 ⟨fun a ha => ?_, h2⟩
    rw [← he]; exact h1 a ha
   ·next hlt he =>
    refine List.pairwise_cons.2 ⟨fun a ha => ?_, h⟩
    rcases List.mem_cons.1 ha with rfl | ha
    ·omega
    ·have := h1 a ha; omega
theorem shareF_cons (x : Sha) (xs : List Sha) (m : Int) : shareF (x :: xs) m = if x.mem = m then x else shareF xs m := by
 unfold shareF
 rw [List.find?_cons]
 by_cases h : x.mem = m
 ·simp [memP, h]
 ·have : memP m x = false := by simp [memP, h]
  simp [this, h]
theorem setSh_share : ∀ {xs : List Sha} {s : Sha} (m : Int), xs.Pairwise (fun a b => a.mem < b.mem) → shareF (setSh xs s) m = if m = s.mem then s else shareF xs m
 | [], s, m, _ => by
  simp only [setSh, shareF_cons]
  by_cases h : s.mem = m
  ·rw [if_pos h, if_pos h.symm]
  ·rw [if_neg h, if_neg (fun e => h e.symm)]
 | y :: xs, s, m, h => by
  obtain ⟨h1, h2⟩ := List.pairwise_cons.1 h
  unfold setSh
  split
  ·next hlt =>
   rw [shareF_cons, shareF_cons, setSh_share m h2]
   by_cases hm : m = s.mem
   ·rw [if_pos hm, if_pos hm, if_neg (by omega)]
   ·rw [if_neg hm, if_neg hm]
  ·split
   ·next hlt he =>
    rw [shareF_cons, shareF_cons]
    by_cases hm : m = s.mem
    ·rw [if_pos hm.symm, if_pos hm]
    ·rw [if_neg (fun e => hm e.symm), if_neg hm, if_neg (by omega)]
   ·next hlt he =>
    rw [shareF_cons]
    by_cases hm : m = s.mem
    ·rw [if_pos hm.symm, if_pos hm]
    ·rw [if_neg (fun e => hm e.symm), if_neg hm]
theorem shareF_mem {xs : List Sha} {m : Int} : (shareF xs m).mem = m := by
 unfold shareF
 cases h : xs.find? (memP m) with
 | none => rfl
 | some s => have := List.find?_some h; simpa [memP] using this
theorem shareF_ok {tu se : Int} {xs : List Sha} {m : Int} (h : ∀ x, x ∈ xs → shaOk tu se x = true) (ht : 0 ≤ tu) (hs : 0 ≤ se) (hm : memB m = true) : shaOk tu se (shareF xs m) = true := by
 unfold shareF
 cases hf : xs.find? (memP m) with
 | none => simp [shaOk, hm, inB, ht, hs]
 | some s => exact h s (List.mem_of_find?_eq_some hf)
def yldS (f : Fl) : Sha := ⟨f.sp, (shareF f.sh f.sp).turns + 1, (shareF f.sh f.sp).secs⟩
def yldF (f : Fl) : Fl := { f with sp := 0, sh := setSh f.sh (yldS f) }
def yldB (f : Fl) : Bool := f.ok && !(f.sp == 0)
theorem ok_share {f : Fl} (h : f.ok = true) (h0 : f.sp ≠ 0) : memB f.sp = true ∧ shaOk f.tu f.se (shareF f.sh f.sp) = true ∧ (shareF f.sh f.sp).turns < f.tu := by
 have H := fl_ok.1 h; have hp : memB f.sp = true := H.p.resolve_left h0; have := H.t; have := H.s
 exact ⟨hp, shareF_ok H.ok (by omega) (by omega) hp, H.k.resolve_left h0⟩
theorem shaOk_iff {tu se : Int} {s : Sha} : shaOk tu se s = true ↔ memB s.mem = true ∧ (0 ≤ s.turns ∧ s.turns ≤ tu) ∧ 0 ≤ s.secs ∧ s.secs ≤ se := by
 simp [shaOk, inB]
theorem yldF_ok {f : Fl} (h : yldB f = true) : (yldF f).ok = true := by
 simp only [yldB, Bool.and_eq_true, Bool.not_eq_true', beq_eq_false_iff_ne] at h
 obtain ⟨h0, h1⟩ := h
 obtain ⟨hp, hs, ht⟩ := ok_share h0 h1
 have H := fl_ok.1 h0
 refine fl_ok.2 ⟨H.t, H.s, Or.inl rfl, H.l, ?_, setSh_ord H.ord, ?_, H.nd, Or.inl rfl⟩
 ·intro x hx
  rcases setSh_mem hx with rfl | hx
  ·have := shaOk_iff.1 hs
   exact shaOk_iff.2 ⟨hp, ⟨by simp only [yldS]; omega, by simp only [yldS, yldF]; omega⟩, by simp only [yldS]; omega, by simp only [yldS, yldF]; omega⟩
  ·exact H.ok x hx
 ·intro m hm
  have := H.w m hm
  refine ⟨this.1, memB_ne this.1, ?_⟩
  simp only [yldF]
  rw [setSh_share m H.ord, if_neg (by simp only [yldS]; exact this.2.1)]
  exact this.2.2
def spU (f : Fl) (n : Int) : Int := if n < f.se - (shareF f.sh f.sp).secs then n else f.se - (shareF f.sh f.sp).secs
def spS (f : Fl) (n : Int) : Sha := ⟨f.sp, (shareF f.sh f.sp).turns, (shareF f.sh f.sp).secs + spU f n⟩
def spG (f : Fl) (n : Int) : Fl := { f with sh := setSh f.sh (spS f n) }
def spF (f : Fl) (n : Int) : Fl := if (spS f n).secs = f.se then yldF (spG f n) else spG f n
def spB (f : Fl) (n : Int) : Bool := f.ok && (!(f.sp == 0) && inB n 1 3600)
theorem spB_parts {f : Fl} {n : Int} (h : spB f n = true) : f.ok = true ∧ f.sp ≠ 0 ∧ 1 ≤ n ∧ n ≤ 3600 := by
 simpa only [spB, Bool.and_eq_true, Bool.not_eq_true', beq_eq_false_iff_ne, inB_iff] using h
theorem spG_ok {f : Fl} {n : Int} (h : spB f n = true) : (spG f n).ok = true := by
 obtain ⟨h0, h1, h2, h3⟩ := spB_parts h
 obtain ⟨hp, hs, ht⟩ := ok_share h0 h1
 have H := fl_ok.1 h0; have hk := shaOk_iff.1 hs
 have hu : 0 ≤ spU f n ∧ (shareF f.sh f.sp).secs + spU f n ≤ f.se := by unfold spU; split <;> omega
 refine fl_ok.2 ⟨H.t, H.s, H.p, H.l, ?_, setSh_ord H.ord, ?_, H.nd, ?_⟩
 ·intro x hx
  rcases setSh_mem hx with rfl | hx
  ·exact shaOk_iff.2 ⟨hp, ⟨by simp only [spS]; omega, by simp only [spS, spG]; omega⟩, by simp only [spS]; omega, by simp only [spS, spG]; omega⟩
  ·exact H.ok x hx
 ·intro m hm
  have := H.w m hm
  refine ⟨this.1, this.2.1, ?_⟩
  simp only [spG]
  rw [setSh_share m H.ord, if_neg (by simp only [spS]; exact this.2.1)]
  exact this.2.2
 ·right
  simp only [spG]
  rw [setSh_share f.sp H.ord, if_pos (show f.sp = (spS f n).mem from rfl)]
  exact ht
theorem spF_ok {f : Fl} {n : Int} (h : spB f n = true) : (spF f n).ok = true := by
 have := spG_ok h
 unfold spF
 split
 ·refine yldF_ok ?_
  have h1 := (spB_parts h).2.1
  simp only [yldB, this, Bool.true_and, Bool.not_eq_true', beq_eq_false_iff_ne]
  exact h1
 ·exact this
theorem setSh_cut : ∀ {xs : List Sha} {s : Sha} {k : Nat}, k ≤ xs.length → (∀ i x, i < k → xs[i]? = some x → x.mem < s.mem) → (∀ x, xs[k]? = some x → ¬ x.mem < s.mem) →
  setSh xs s = xs.take k ++ s :: (match xs[k]? with | some x => if x.mem = s.mem then xs.drop (k + 1) else xs.drop k | none => [])
 | [], s, k, hk, _, _ => by
  have : k = 0 := by simpa using hk
  subst this; rfl
 | x :: xs, s, 0, _, _, h2 => by
  have := h2 x rfl
  unfold setSh
  rw [if_neg this]
  simp only [List.take_zero, List.nil_append, List.getElem?_cons_zero, List.drop_succ_cons, List.drop_zero]
  split <;> rfl
 | x :: xs, s, k + 1, hk, h1, h2 => by
  have hx := h1 0 x (by omega) rfl
  unfold setSh
  rw [if_pos hx, setSh_cut (k := k) (by simpa using hk) (fun i y hi hy => h1 (i + 1) y (by omega) (by simpa using hy)) (fun y hy => h2 y (by simpa using hy))]
  simp
open Go.RowKit Go.G9
def cmpZ (a b : Int) : Int := if a < b then -1 else if b < a then 1 else 0
theorem cmpZ_lt (a b : Int) : cmpZ a b < 0 ↔ a < b := by
 unfold cmpZ
 by_cases h : a < b
 ·simp [h]
 ·rw [if_neg h]; split <;> simp [h]
section
variable {t : Int → Int}
def cT (t : Int → Int) (x z : Int) : Int := cmpZ (t x) (t z)
theorem scn_spec {p : Int → Bool} {S : List Int} : ∀ n, n ≤ S.length → (∀ i z, scn p S n ≤ i → i < n → S[i]? = some z → p z = true) ∧ (∀ j z, scn p S n = j + 1 → S[j]? = some z → p z = false)
 | 0, _ => ⟨fun i z _ h => absurd h (by omega), fun j z h => by simp [scn] at h⟩
 | n + 1, h => by
  obtain ⟨h1, h2⟩ := scn_spec (p := p) (S := S) n (by omega)
  have hz : S[n]? = some S[n] := List.getElem?_eq_getElem (by omega)
  cases hp : p S[n] with
  | true =>
   rw [scn_yes hz hp]
   refine ⟨fun i z hi hin hx => ?_, h2⟩
   by_cases e : i = n
   ·subst e; rw [hz] at hx; cases hx; exact hp
   ·exact h1 i z hi (by omega) hx
  | false =>
   rw [scn_no hz hp]
   refine ⟨fun i z hi hin hx => by omega, fun j z hj hx => ?_⟩
   obtain rfl : n = j := by omega
   rw [hz] at hx; cases hx; exact hp
theorem ins_parts {S : List Int} {x : Int} (hS : S.Pairwise (fun a b => t a ≤ t b)) : ∃ A B, S = A ++ B ∧ insP (fun z => decide (cT t x z < 0)) S x = A ++ x :: B ∧ (∀ z ∈ A, t z ≤ t x) ∧ (∀ z ∈ B, t x < t z) := by
 obtain ⟨h1, h2⟩ := scn_spec (p := fun z => decide (cT t x z < 0)) (S := S) S.length (Nat.le_refl _)
 have hle := scn_le (fun z => decide (cT t x z < 0)) S S.length
 unfold insP
 generalize scn (fun z => decide (cT t x z < 0)) S S.length = j at *
 refine ⟨S.take j, S.drop j, (List.take_append_drop _ _).symm, rfl, fun z hz => ?_, fun z hz => ?_⟩
 ·obtain ⟨i, hi⟩ := List.mem_iff_getElem?.1 hz
  rw [List.getElem?_take] at hi
  split at hi
  ·rename_i hij
   obtain ⟨j', rfl⟩ : ∃ j', j = j' + 1 := ⟨j - 1, by omega⟩
   have hy : S[j']? = some S[j'] := List.getElem?_eq_getElem (by omega); have h3 := h2 j' _ rfl hy
   have h3 : ¬ t x < t S[j'] := fun h => of_decide_eq_false h3 ((cmpZ_lt _ _).2 h)
   by_cases e : i = j'
   ·subst e; rw [hy] at hi; cases hi; omega
   ·obtain ⟨hi1, hi2⟩ := List.getElem?_eq_some_iff.1 hi
    have := List.pairwise_iff_getElem.1 hS i j' hi1 (by omega) (by omega)
    rw [hi2] at this; omega
  ·cases hi
 ·obtain ⟨i, hi⟩ := List.mem_iff_getElem?.1 hz
  rw [List.getElem?_drop] at hi
  have h3 := h1 (j + i) z (by omega) (List.getElem?_eq_some_iff.1 hi).1 hi
  exact (cmpZ_lt _ _).1 (of_decide_eq_true h3)
theorem sto_sorted {xs : List Int} : ∀ k, k ≤ xs.length → (sto (cT t) xs k).Pairwise (fun a b => t a ≤ t b) ∧ ∀ v : Int, (sto (cT t) xs k).filter (fun z => t z == v) = (xs.take k).filter (fun z => t z == v)
 | 0, _ => ⟨List.Pairwise.nil, fun v => rfl⟩
 | k + 1, h => by
  obtain ⟨h1, h2⟩ := sto_sorted (xs := xs) k (by omega)
  have hx : xs[k]? = some xs[k] := List.getElem?_eq_getElem (by omega)
  generalize xs[k] = x at *
  rw [sto_at hx]
  obtain ⟨A, B, e1, e2, e3, e4⟩ := ins_parts (x := x) h1
  rw [e2]
  rw [e1] at h1 h2
  obtain ⟨p1, p2, p3⟩ := List.pairwise_append.1 h1
  refine ⟨List.pairwise_append.2 ⟨p1, List.pairwise_cons.2 ⟨fun z hz => by have := e4 z hz; omega, p2⟩, fun a ha b hb => ?_⟩, fun v => ?_⟩
  ·rcases List.mem_cons.1 hb with rfl | hb
   ·exact e3 a ha
   ·exact p3 a ha b hb
  ·have h3 := h2 v
   rw [List.take_add_one, hx, Option.toList_some]
   simp only [List.filter_append] at h3 ⊢
   rw [← h3, List.filter_cons]
   by_cases hv : t x = v
   ·have hB : B.filter (fun z => t z == v) = [] := by
     rw [List.filter_eq_nil_iff]
     intro z hz
     have := e4 z hz
     simp; omega
    rw [hB]
    simp [hv]
   ·simp [hv]
end
def tnF (f : Fl) (x : Int) : Int := (shareF f.sh x).turns
def spO (f : Fl) : List Int := sto (cT (tnF f)) f.ws f.ws.length
theorem spO_len (f : Fl) : (spO f).length = f.ws.length := sto_len _ (Nat.le_refl _)
theorem nxI_spec (f : Fl) : ∀ k, 0 < k → k ≤ f.ws.length → ∃ m, f.ws[nxI f k]? = some m ∧ (∀ i x, i < k → f.ws[i]? = some x → tnF f m ≤ tnF f x) ∧ (∀ i x, i < nxI f k → f.ws[i]? = some x → tnF f m < tnF f x)
 | 0, h, _ => absurd h (by omega)
 | 1, _, hl => by
  have hx : f.ws[0]? = some f.ws[0] := List.getElem?_eq_getElem (by omega)
  have e : nxI f 1 = 0 := by
   have := nxI_lt f 1 (by omega)
   omega
  rw [e]
  refine ⟨_, hx, fun i x hi h => ?_, fun i x hi => absurd hi (by omega)⟩
  obtain rfl : i = 0 := by omega
  rw [hx] at h; cases h; exact Int.le_refl _
 | k + 2, _, hl => by
  obtain ⟨m, h1, h2, h3⟩ := nxI_spec f (k + 1) (by omega) (by omega)
  have hx : f.ws[k + 1]? = some f.ws[k + 1] := List.getElem?_eq_getElem (by omega)
  generalize f.ws[k + 1] = x at *
  have hlt := nxI_lt f (k + 1) (by omega)
  rw [nxI, hx, h1]
  dsimp only
  by_cases hc : (shareF f.sh x).turns < (shareF f.sh m).turns
  ·rw [if_pos hc]
   have hc' : tnF f x < tnF f m := hc
   refine ⟨x, hx, fun i y hi hy => ?_, fun i y hi hy => ?_⟩
   ·by_cases e : i = k + 1
    ·subst e; rw [hx] at hy; cases hy; exact Int.le_refl _
    ·have := h2 i y (by omega) hy; omega
   ·have := h2 i y hi hy; omega
  ·rw [if_neg hc]
   have hc' : ¬ tnF f x < tnF f m := hc
   refine ⟨m, h1, fun i y hi hy => ?_, h3⟩
   by_cases e : i = k + 1
   ·subst e; rw [hx] at hy; cases hy; omega
   ·exact h2 i y (by omega) hy
theorem filter_first {P : Int → Bool} : ∀ {xs : List Int} {j : Nat} {m : Int}, xs[j]? = some m → P m = true → (∀ i x, i < j → xs[i]? = some x → P x = false) → ∃ r, xs.filter P = m :: r
 | [], j, m, h, _, _ => by simp at h
 | y :: xs, 0, m, h, hp, _ => by
  simp at h; subst h
  exact ⟨xs.filter P, by simp [hp]⟩
 | y :: xs, j + 1, m, h, hp, hn => by
  have hy := hn 0 y (by omega) rfl
  obtain ⟨r, hr⟩ := filter_first (xs := xs) (j := j) (m := m) (by simpa using h) hp (fun i x hi hx => hn (i + 1) x (by omega) (by simpa using hx))
  exact ⟨r, by rw [List.filter_cons, hy]; simpa using hr⟩
theorem spO_head {f : Fl} (h : 0 < f.ws.length) : (spO f)[0]? = nxM f := by
 obtain ⟨m, h1, h2, h3⟩ := nxI_spec f f.ws.length h (Nat.le_refl _)
 obtain ⟨s1, s2⟩ := sto_sorted (t := tnF f) (xs := f.ws) f.ws.length (Nat.le_refl _)
 have hl := spO_len f
 unfold nxM
 rw [h1]
 have e0 : sto (cT (tnF f)) f.ws f.ws.length = spO f := rfl
 rw [e0] at s1 s2
 generalize spO f = S at *
 cases S with
 | nil => simp at hl; omega
 | cons a S =>
  obtain ⟨a1, a2⟩ := List.pairwise_cons.1 s1
  rw [List.take_length] at s2
  have ham : a ∈ f.ws := by
   have h5 := s2 (tnF f a)
   rw [List.filter_cons] at h5
   simp only [BEq.rfl, if_true] at h5
   have : a ∈ f.ws.filter (fun z => tnF f z == tnF f a) := by rw [← h5]; exact List.mem_cons_self
   exact (List.mem_filter.1 this).1
  obtain ⟨i, hi⟩ := List.mem_iff_getElem?.1 ham
  have k1 := h2 i a (List.getElem?_eq_some_iff.1 hi).1 hi
  obtain ⟨r, hr⟩ := filter_first (P := fun z => tnF f z == tnF f m) h1 (by simp) (fun i x hi hx => by have := h3 i x hi hx; simp; omega)
  have h5 := s2 (tnF f m)
  rw [hr] at h5
  have hm : m ∈ a :: S := by
   have : m ∈ (a :: S).filter (fun z => tnF f z == tnF f m) := by rw [h5]; exact List.mem_cons_self
   exact (List.mem_filter.1 this).1
  have k2 : tnF f a ≤ tnF f m := by
   rcases List.mem_cons.1 hm with rfl | hm
   ·exact Int.le_refl _
   ·exact a1 m hm
  rw [List.filter_cons] at h5
  have : (tnF f a == tnF f m) = true := by simp; omega
  rw [this] at h5
  simp only [if_true] at h5
  injection h5 with h6 h7
  subst h6; rfl
end Go.Proofs.YtjimibkgocieoaaGreat
