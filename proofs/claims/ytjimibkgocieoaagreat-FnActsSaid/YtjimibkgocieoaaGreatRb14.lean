/- Texts of the proof: walks of the functions, and what they compute. -/
import Derived.Test.YtjimibkgocieoaaGreatRb13
import Derived.Test.YtjimibkgocieoaaGreatRb3
import Derived.Test.YtjimibkgocieoaaGreatRb0
set_option maxHeartbeats 16000000
set_option maxRecDepth 100000
namespace Go.Proofs.YtjimibkgocieoaaGreat
open Go.RowKit Go.G9
theorem rds_dropz {T : Type} {sz : Nat} {f : T → List Value} {w : World} {b off : Nat} {xs : List T} (h : Rds sz f w (some ⟨b, off, none⟩) xs) (k : Nat) : Rds sz f w (some ⟨b, off + k * sz, none⟩) (xs.drop k) := by
 intro h0
 obtain ⟨b', off', h1, h2, h3⟩ := h (by rw [List.length_drop] at h0; omega)
 injection h1 with h1; injection h1 with h4 h5; subst h4; subst h5
 refine ⟨b, off + k * sz, rfl, h2, fun i x hx j u hu => ?_⟩
 rw [List.getElem?_drop] at hx
 have h6 := h3 (k + i) x hx j u hu
 rw [Nat.add_mul] at h6
 rw [← h6]; congr 2; omega
theorem rds_cellz {T : Type} {sz : Nat} {f : T → List Value} {w : World} {b off : Nat} {xs : List T} (h : Rds sz f w (some ⟨b, off, none⟩) xs) {k : Nat} {x : T} (hx : xs[k]? = some x) {i : Nat} {u : Value} (hu : (f x)[i]? = some u) : w.cell? ⟨b, off + k * sz + i, none⟩ = some u := by
 obtain ⟨b', off', h1, h2, h3⟩ := h (by have := (List.getElem?_eq_some_iff.1 hx).1; omega)
 injection h1 with h1; injection h1 with h4 h5; subst h4; subst h5
 exact h3 k x hx i u hu
def wiT {T : Type} (e : TypeId) (sz : Nat) (f : T → List Value) (m1 m2 : Nat) (xs : List T) (k : Nat) (cs : Array Value) : MkSpec (Option Addr × Nat) where
 par := fun n => if n = m1 then [0] else []
 val := fun n p => if n = 0 then .slice p.1 0 0 else if n = m1 then .slice p.1 k p.2 else if n = m2 then .slice p.1 1 1 else undef
 post := fun n σ p V0 V => (n = 0 → p.1 = some ⟨V0.heap.size, 0, none⟩ ∧ Blk V V0.heap.size e #[]) ∧
  (n = m1 → ∃ g g', (σ 0).1 = some ⟨g, 0, none⟩ ∧ p.1 = some ⟨g', 0, none⟩ ∧ OwnV g e sz f V (.slice p.1 (xs.take k).length p.2) (xs.take k)) ∧
  (n = m2 → ∃ g, p.1 = some ⟨g, 0, none⟩ ∧ V0.heap.size = g ∧ Blk V g e cs)
theorem endA {A : Option Addr} {c k : Nat} {sh : List Sha} {f : Addr → Addr} (hn : A = none → sh = [] ∧ c = 0) (hk : k = sh.length) (h : (if c = k then A else A.map f) = none) : sh.drop k = [] ∧ c - k = 0 := by
 refine ⟨List.drop_of_length_le (by omega), ?_⟩
 cases A with
 | none => have := (hn rfl).2; omega
 | some ad => split at h <;> cases h
theorem l8With_is (tu se sp : Int) (A2 : Option Addr) (c2 : Nat) (ws : List Int) (A3 : Option Addr) (c3 : Nat) (sh : List Sha) (h2 : ws.length ≤ 1048576) (h3 : sh.length ≤ 1048576) (n2 : A2 = none → ws = [] ∧ c2 = 0) (n3 : A3 = none → sh = [] ∧ c3 = 0) (k3 : sh.length ≤ c3) (sm st ss : Int) (w : World) (R2 : Rds 1 intC w A2 ws) (R3 : Rds 3 Sha.cells w A3 sh) :
 Calls Tryz.prog 193 #[.agg #[.int .i64 tu, .int .i64 se, .int .i64 sp, .slice A2 ws.length c2, .slice A3 sh.length c3], .agg #[.int .i64 sm, .int .i64 st, .int .i64 ss]] w fun e w' => ∃ D2 d2 D3 d3, e = .returned (.agg #[.int .i64 tu, .int .i64 se, .int .i64 sp, .slice D2 ws.length d2, .slice D3 (setSh sh ⟨sm, st, ss⟩).length d3]) ∧ FlO w.heap.size w' D2 d2 D3 d3 ws (setSh sh ⟨sm, st, ss⟩) ∧ Below w.heap.size w w' := by
 obtain ⟨i0, hi, hz0, hz1, hz2⟩ := info_parts info_Sha
 have HR2 := lh R2; have HR3 := lh R3; have HN2 := lh n2; have HN3 := lh n3; clear R2 R3 n2 n3
 go_in
 go_upto_region 1 with fail
 refine lay3 fun wX hq1 hF hS hZ => ?_
 have HB := hq1
 obtain ⟨f0, f1, f2, f3, f4⟩ := hF.cs5
 obtain ⟨s0, s1, s2⟩ := hS.cs3
 have z' := hZ.cs5; have hz0' := hZ.lt
 go_wp2_with fail
 refine (l8Own_is tu se sp A2 c2 ws A3 c3 sh h2 h3 HN2.out HN3.out _ (HR2.out.below (bth HB bel)) (HR3.out.below (bth HB bel))).mono ?_
 rintro e w2 ⟨D2, d2, D3, d3, rfl, OO, hb2⟩
 have hq2 := be wX hb2; replace HB := bth HB hq2; replace hF := hF.to hq2; clear f0 f1 f2 f3 f4
 obtain ⟨f0, f1, f2, f3, f4⟩ := hF.cs5
 replace hS := hS.to hq2; clear s0 s1 s2
 obtain ⟨s0, s1, s2⟩ := hS.cs3
 replace hZ := hZ.to hq2; clear z'; have z' := hZ.cs5; have szq := hq2.size; have szh := HB.size
 go_upto_region 2 with fail
 have O2' := (OO.o2.later (bl1 w2 (.cells #[.int .i64 tu, .int .i64 se, .int .i64 sp, .slice D2 ws.length d2, .slice D3 sh.length d3] 29))).base (B' := w.heap.size) (by omega); clear OO; have hq3 : Below w2.heap.size w2 (World.alloc w2 (.cells #[.int .i64 tu, .int .i64 se, .int .i64 sp, .slice D2 ws.length d2, .slice D3 sh.length d3] 29)) := bl1 w2 _
 have hX : Blk (World.alloc w2 (.cells #[.int .i64 tu, .int .i64 se, .int .i64 sp, .slice D2 ws.length d2, .slice D3 sh.length d3] 29)) (w2.heap.size) 29 #[.int .i64 tu, .int .i64 se, .int .i64 sp, .slice D2 ws.length d2, .slice D3 sh.length d3] := by repeat (first | exact Blk.new _ _ _ | exact Blk.new2 _ _ _ _ | exact Blk.new3 _ _ _ _ _ | exact Blk.new4 _ _ _ _ _ _ | refine Blk.alloc ?_ _)
 generalize World.alloc w2 (.cells #[.int .i64 tu, .int .i64 se, .int .i64 sp, .slice D2 ws.length d2, .slice D3 sh.length d3] 29) = wO at *
 replace HB := bth HB hq3
 obtain ⟨x0, x1, x2, x3, x4⟩ := hX.cs5
 clear f0 f1 f2 f3 f4; replace hF := hF.to hq3
 obtain ⟨f0, f1, f2, f3, f4⟩ := hF.cs5
 clear s0 s1 s2; replace hS := hS.to hq3
 obtain ⟨s0, s1, s2⟩ := hS.cs3
 clear z'; replace hZ := hZ.to hq3; have z' := hZ.cs5; have hx0 := hX.lt; have O2 := O2'; clear O2'; have HF := lh hF; have HS := lh hS; have HZ := lh hZ; have HX := lh hX; have HO2 := lh O2; have HBO := lh HB; clear hF hS hZ hX O2 f0 f1 f2 f3 f4 s0 s1 s2 z' x0 x1 x2 x3 x4
 go_wp2
 go_loopw [6] (fun i wr => ∃ k : Nat, k ≤ sh.length ∧ i = .int .i64 k ∧ (∀ j x, j < k → sh[j]? = some x → x.mem < sm) ∧ Below wO.heap.size wO wr) (fun i _ => sh.length - (intOf i).toNat)
 case atStart => exact ⟨0, Nat.zero_le _, rfl, fun j x h => absurd h (by omega), Below.refl _ _⟩
 case round =>
  obtain ⟨k, hk, rfl, hl, hb⟩ := hrel
  have HL := lh hl; clear hl; have hFr := HF.out.below hb HF.out.lt; have hSr := HS.out.below hb HS.out.lt
  have c4 := fun K : Kin wr.heap.size wr => ((hFr.below K.below hFr.lt).cell 4).trans (show _ = some (.slice A3 sh.length c3) from rfl)
  have s0 := fun K : Kin wr.heap.size wr => ((hSr.below K.below hSr.lt).cell 0).trans (show _ = some (.int .i64 sm) from rfl)
  rcases (show (∃ x, sh[k]? = some x ∧ x.mem < sm) ∨ (∃ x, sh[k]? = some x ∧ x.mem = sm) ∨ (∃ x, sh[k]? = some x ∧ sm < x.mem) ∨ k = sh.length by
   by_cases hlt : k < sh.length
   ·have h := List.getElem?_eq_getElem hlt
    rcases (show (sh[k]).mem < sm ∨ (sh[k]).mem = sm ∨ sm < (sh[k]).mem by omega) with g | g | g
    ·exact .inl ⟨_, h, g⟩
    ·exact .inr (.inl ⟨_, h, g⟩)
    ·exact .inr (.inr (.inl ⟨_, h, g⟩))
   ·exact .inr (.inr (.inr (by omega)))) with ⟨⟨xm, xt, xc⟩, hx, hm⟩ | ⟨⟨xm, xt, xc⟩, hx, hm⟩ | ⟨⟨xm, xt, xc⟩, hx, hm⟩ | hke
  case' inl =>
   have hlt : k < sh.length := (List.getElem?_eq_some_iff.1 hx).1
   obtain ⟨b3, o3, x', hA3, _, hx', hcx'⟩ := (HR3.out.below HBO.out).at_ hb hlt
   clear hcx' hx' x'
   subst hA3
   have x0 := fun K : Kin wr.heap.size wr => (rds_cellz (HR3.out.below (bth (bth HBO.out hb) K.below)) hx (i := 0) (u := .int .i64 xm) rfl)
   simp only [Nat.add_zero] at x0
   have HX3 := lh hx; clear hx
   go_wp2
   refine wp_region_kin (by kernel_rfl) (by kernel_rfl) ?_
   repeat (go_big_quiet_step ((fail)))
   refine wpQuiet_nil ?_
   intro K
   clear c4 s0 x0 hFr hSr
   go_wp2
   go_roundw
   case rel => exact ⟨k + 1, by omega, by go_num, fun j y hj hy => by
    by_cases e : j = k
    ·subst e; rw [HX3.out] at hy; cases hy; exact hm
    ·exact HL.out j y (by omega) hy, bth hb K.below⟩
   case measure => simp [intOf]; omega
  case' inr.inl =>
   have hlt : k < sh.length := (List.getElem?_eq_some_iff.1 hx).1
   obtain ⟨b3, o3, x', hA3, _, hx', hcx'⟩ := (HR3.out.below HBO.out).at_ hb hlt
   clear hcx' hx' x'
   subst hA3
   have x0 := fun K : Kin wr.heap.size wr => (rds_cellz (HR3.out.below (bth (bth HBO.out hb) K.below)) hx (i := 0) (u := .int .i64 xm) rfl)
   simp only [Nat.add_zero] at x0
   have HX3 := lh hx; clear hx
   go_wp2
   refine wp_region_kin (by kernel_rfl) (by kernel_rfl) ?_
   repeat (go_big_quiet_step ((fail)))
   refine wpQuiet_nil ?_
   intro K
   clear c4 s0 x0 hFr hSr; have hbk := bth hb K.below
   generalize K.world = wk at *
   have hFr := HF.out.below hbk HF.out.lt; have hSr := HS.out.below hbk HS.out.lt; have f4 := (hFr.cell 4).trans (show _ = some (.slice (some ⟨b3, o3, none⟩) sh.length c3) from rfl)
   have hck : ¬ c3 = k := by omega
   go_upto_region 6 with fail
   have x0 := fun K : Kin wk.heap.size wk => (rds_cellz (HR3.out.below (bth (bth HBO.out hbk) K.below)) HX3.out (i := 0) (u := .int .i64 xm) rfl)
   have s0 := fun K : Kin wk.heap.size wk => ((hSr.below K.below hSr.lt).cell 0).trans (show _ = some (.int .i64 sm) from rfl)
   simp only [Nat.add_zero] at x0
   have hgt : decide (0 < sh.length - k) = true := decide_eq_true (by omega)
   have hkc : k ≤ c3 := by omega
   clear f4 hFr hSr
   refine wp_region_kin (by kernel_rfl) (by kernel_rfl) ?_
   repeat (go_big_quiet_step ((fail)))
   refine wpQuiet_nil ?_
   intro K
   clear s0 x0 hgt; have hbv := bth hbk K.below
   generalize K.world = wv at *
   go_upto_region 8 with fail
   obtain ⟨rest, hrest⟩ : ∃ l, l = sh.drop (k + 1) := ⟨_, rfl⟩
   have HE1 : Hid (setSh sh ⟨sm, st, ss⟩ = sh.take k ++ [(⟨sm, st, ss⟩ : Sha)] ++ rest) := lh (by rw [hrest]; rw [setSh_cut (k := k) (by omega) HL.out (fun y hy => by rw [HX3.out] at hy; cases hy; have h : xm = sm := hm; show ¬ xm < sm; omega), HX3.out]; have h : xm = sm := hm; simp [h]); have HRL : Hid (rest.length = (sh.length - k - 1)) := lh (by rw [hrest]; rw [List.length_drop]; omega); have HRR : Hid (Rds 3 Sha.cells w (if c3 - k = 1 then (some ⟨b3, o3 + k * 3, none⟩ : Option Addr) else some ⟨b3, o3 + k * 3 + 3, none⟩) rest) := lh (by rw [hrest]; split <;> first | (rw [List.drop_of_length_le (by omega)]; exact Rds.nil) | (have h := rds_dropz HR3.out (k + 1); rw [Nat.add_mul, Nat.one_mul, ← Nat.add_assoc] at h; exact h))
   have HNR : Hid ((if c3 - k = 1 then (some ⟨b3, o3 + k * 3, none⟩ : Option Addr) else some ⟨b3, o3 + k * 3 + 3, none⟩) = none → rest = [] ∧ (c3 - k - 1) = 0) := lh (fun h => by split at h <;> cases h); clear hrest
   generalize (if c3 - k = 1 then (some ⟨b3, o3 + k * 3, none⟩ : Option Addr) else some ⟨b3, o3 + k * 3 + 3, none⟩) = RA at *
   have hrl0 : (sh.length - k - 1) ≤ 1048576 := by omega
   generalize (sh.length - k - 1) = rl at *
   generalize (c3 - k - 1) = rc at *
   generalize (some ⟨b3, o3, none⟩ : Option Addr) = A3 at *
   clear HX3 hlt hck hm
  case' inr.inr.inl =>
   have hlt : k < sh.length := (List.getElem?_eq_some_iff.1 hx).1
   obtain ⟨b3, o3, x', hA3, _, hx', hcx'⟩ := (HR3.out.below HBO.out).at_ hb hlt
   clear hcx' hx' x'
   subst hA3
   have x0 := fun K : Kin wr.heap.size wr => (rds_cellz (HR3.out.below (bth (bth HBO.out hb) K.below)) hx (i := 0) (u := .int .i64 xm) rfl)
   simp only [Nat.add_zero] at x0
   have HX3 := lh hx; clear hx; have hm' : decide (xm < sm) = false := decide_eq_false (by have h : sm < xm := hm; omega)
   go_wp2
   refine wp_region_kin (by kernel_rfl) (by kernel_rfl) ?_
   repeat (go_big_quiet_step ((fail)))
   refine wpQuiet_nil ?_
   intro K
   clear c4 s0 x0 hm' hFr hSr; have hbk := bth hb K.below
   generalize K.world = wk at *
   have hFr := HF.out.below hbk HF.out.lt; have hSr := HS.out.below hbk HS.out.lt; have f4 := (hFr.cell 4).trans (show _ = some (.slice (some ⟨b3, o3, none⟩) sh.length c3) from rfl)
   have hck : ¬ c3 = k := by omega
   go_upto_region 6 with fail
   have x0 := fun K : Kin wk.heap.size wk => (rds_cellz (HR3.out.below (bth (bth HBO.out hbk) K.below)) HX3.out (i := 0) (u := .int .i64 xm) rfl)
   have s0 := fun K : Kin wk.heap.size wk => ((hSr.below K.below hSr.lt).cell 0).trans (show _ = some (.int .i64 sm) from rfl)
   simp only [Nat.add_zero] at x0
   have hgt : decide (0 < sh.length - k) = true := decide_eq_true (by omega)
   have hkc : k ≤ c3 := by omega
   clear f4 hFr hSr; have he' : (xm == sm) = false := beq_eq_false_iff_ne.2 (by have h : sm < xm := hm; omega)
   refine wp_region_kin (by kernel_rfl) (by kernel_rfl) ?_
   repeat (go_big_quiet_step ((fail)))
   refine wpQuiet_nil ?_
   intro K
   clear s0 x0 he' hgt; have hbv := bth hbk K.below
   generalize K.world = wv at *
   go_upto_region 8 with fail
   obtain ⟨rest, hrest⟩ : ∃ l, l = sh.drop k := ⟨_, rfl⟩
   have HE1 : Hid (setSh sh ⟨sm, st, ss⟩ = sh.take k ++ [(⟨sm, st, ss⟩ : Sha)] ++ rest) := lh (by rw [hrest]; rw [setSh_cut (k := k) (by omega) HL.out (fun y hy => by rw [HX3.out] at hy; cases hy; have h : sm < xm := hm; show ¬ xm < sm; omega), HX3.out]; have h : ¬ xm = sm := (by have h : sm < xm := hm; omega); simp [h]); have HRL : Hid (rest.length = (sh.length - k)) := lh (by rw [hrest]; rw [List.length_drop])
   have HRR : Hid (Rds 3 Sha.cells w (some ⟨b3, o3 + k * 3, none⟩ : Option Addr) rest) := lh (by rw [hrest]; exact rds_dropz HR3.out k); have HNR : Hid ((some ⟨b3, o3 + k * 3, none⟩ : Option Addr) = none → rest = [] ∧ (c3 - k) = 0) := lh (fun h => by cases h); clear hrest
   generalize (some ⟨b3, o3 + k * 3, none⟩ : Option Addr) = RA at *
   have hrl0 : (sh.length - k) ≤ 1048576 := by omega
   generalize (sh.length - k) = rl at *
   generalize (c3 - k) = rc at *
   generalize (some ⟨b3, o3, none⟩ : Option Addr) = A3 at *
   clear HX3 hlt hck hm
  case' inr.inr.inr =>
   have hlt2 : ¬ k < sh.length := by omega
   have HKE := lh hke
   have hgt2 : ¬ 0 < sh.length - k := by omega
   clear hke
   go_wp2
   refine wp_region_kin (by kernel_rfl) (by kernel_rfl) ?_
   repeat (go_big_quiet_step ((fail)))
   refine wpQuiet_nil ?_
   intro K
   clear c4 s0 hFr hSr; have hbk := bth hb K.below
   generalize K.world = wk at *
   have hFr := HF.out.below hbk HF.out.lt; have f4 := (hFr.cell 4).trans (show _ = some (.slice A3 sh.length c3) from rfl)
   go_upto_region 6 with fail
   have hkc : k ≤ c3 := by omega
   clear f4 hFr
   refine wp_region_kin (by kernel_rfl) (by kernel_rfl) ?_
   repeat (go_big_quiet_step ((fail)))
   refine wpQuiet_nil ?_
   intro K
   clear hgt2 hlt2; have hbv := bth hbk K.below
   generalize K.world = wv at *
   go_upto_region 8 with fail
   obtain ⟨rest, hrest⟩ : ∃ l, l = sh.drop k := ⟨_, rfl⟩
   have HE1 : Hid (setSh sh ⟨sm, st, ss⟩ = sh.take k ++ [(⟨sm, st, ss⟩ : Sha)] ++ rest) := lh (by rw [hrest]; rw [setSh_cut (k := k) (by omega) HL.out (fun y hy => by have h1 := (List.getElem?_eq_some_iff.1 hy).1; have h2 := HKE.out; omega), List.getElem?_eq_none (by have h2 := HKE.out; omega)]; simp; have h2 := HKE.out; omega); have HRL : Hid (rest.length = (sh.length - k)) := lh (by rw [hrest]; rw [List.length_drop])
   have HRR : Hid (Rds 3 Sha.cells w (if c3 = k then A3 else Option.map (fun x => x.add (k * 3)) A3) rest) := lh (by rw [hrest]; rw [List.drop_of_length_le (by have h2 := HKE.out; omega)]; exact Rds.nil); have HNR : Hid ((if c3 = k then A3 else Option.map (fun x => x.add (k * 3)) A3) = none → rest = [] ∧ (c3 - k) = 0) := lh (fun h => by rw [hrest]; exact endA HN3.out HKE.out h); clear hrest
   generalize (if c3 = k then A3 else Option.map (fun x => x.add (k * 3)) A3) = RA at *
   have hrl0 : (sh.length - k) ≤ 1048576 := by omega
   generalize (sh.length - k) = rl at *
   generalize (c3 - k) = rc at *
   clear HKE
  all_goals
   have HTL : Hid ((sh.take k).length = k) := lh (by rw [List.length_take]; omega); have HRT : Hid (Rds 3 Sha.cells w A3 (sh.take k)) := lh (rds_takeq HR3.out k); have HNT : Hid (A3 = none → sh.take k = [] ∧ c3 = 0) := lh (fun h => ⟨by simp [(HN3.out h).1], (HN3.out h).2⟩); have hF := HF.out.below hbv HF.out.lt; have hS := HS.out.below hbv HS.out.lt; have hZ := HZ.out.below hbv HZ.out.lt; have hX := HX.out.below hbv HX.out.lt
   have O2 := HO2.out.later hbv; have HB := bth HBO.out hbv; have szwv := HB.size; have szov := hbv.size
   obtain ⟨f0, f1, f2, f3, f4⟩ := hF.cs5
   obtain ⟨s0, s1, s2⟩ := hS.cs3
   have z' := hZ.cs5
   obtain ⟨x0, x1, x2, x3, x4⟩ := hX.cs5
   obtain ⟨CC4, hCC4⟩ : ∃ X : World → Prop, ∀ V, X V ↔ (Below w.heap.size w V ∧ Blk V (w.heap.size) 29 #[.int .i64 tu, .int .i64 se, .int .i64 sp, .slice A2 ws.length c2, .slice A3 sh.length c3] ∧ Blk V ((w.heap.size + 1)) 144 #[.int .i64 sm, .int .i64 st, .int .i64 ss] ∧ Blk V (w2.heap.size) 29 #[.int .i64 tu, .int .i64 se, .int .i64 sp, .slice D2 ws.length d2, .slice D3 sh.length d3]) := ⟨_, fun _ => Iff.rfl⟩
   have HCC4 := lh hCC4; clear hCC4
   haveI : Nonempty (Hld CC4) := ⟨⟨wv, ((HCC4.out _).2 ⟨HB, hF, hS, hX⟩)⟩⟩
   clear f0 f1 f2 f3 f4; clear s0 s1 s2; clear z'; clear x0 x1 x2 x3 x4
   obtain ⟨f0, f1, f2, f3, f4⟩ := Blk.cs5K (fun K : Hld CC4 => ((HCC4.out _).1 K.holds).2.1)
   obtain ⟨s0, s1, s2⟩ := Blk.cs3K (fun K : Hld CC4 => ((HCC4.out _).1 K.holds).2.2.1)
   obtain ⟨x0, x1, x2, x3, x4⟩ := Blk.cs5K (fun K : Hld CC4 => ((HCC4.out _).1 K.holds).2.2.2)
   refine wp_region_mky (wiT 144 3 Sha.cells 5 7 sh k #[.int .i64 sm, .int .i64 st, .int .i64 ss]) CC4 [([], 0), ([1, 2, 3, 4], 5), ([6], 7)] [9] [([], [], 8, false), ([], [], 10, false), ([], [11], 12, true)] [] [] (by kernel_rfl) (by kernel_rfl) ((HCC4.out _).2 ⟨HB.drew, hF, hS, hX⟩) (fun W W' h k => ((HCC4.out _).2 ⟨((HCC4.out _).1 h).1.trans (k.mono ((HCC4.out _).1 h).1.size), ((HCC4.out _).1 h).2.1.below k ((HCC4.out _).1 h).2.1.lt, ((HCC4.out _).1 h).2.2.1.below k ((HCC4.out _).1 h).2.2.1.lt, ((HCC4.out _).1 h).2.2.2.below k ((HCC4.out _).1 h).2.2.2.lt⟩)) ?_
   intro σ
   refine wpMk1_cons (some 46) rfl (.slice (σ 0).1 0 0) rfl fun K1 hK1 => ?_
   change wpQuiet _ _ _ _ ([]) _
   refine wpQuiet_nil ?_
   refine ⟨fun kq hpar => ?_, hK1 _ ?_⟩
   ·change wpList _ _ _ (_ :: []) _ _
    go_wp2
    first | exact Nrm_mk ⟨(some ⟨kq.world.heap.size, 0, none⟩, 0), rfl, bl1 _ _, by simp [wiT]; exact Blk.new _ _ _⟩ | exact Nrm_mk ⟨some ⟨kq.world.heap.size, 0, none⟩, 0, rfl, bl1 _ _, by simp [wiT]; exact Blk.new _ _ _⟩
   simp only [Act.put]
   go_simp
   refine wpMk1_cons (some 51) rfl (.slice (σ 5).1 k (σ 5).2) rfl fun K1 hK1 => ?_
   change wpQuiet _ _ _ _ (_ :: _ :: _ :: _ :: []) _
   repeat (go_big_quiet_step (fail))
   refine wpQuiet_nil ?_
   refine ⟨fun kq hpar => ?_, hK1 _ ?_⟩
   ·change wpList _ _ _ (_ :: []) _ _
    obtain ⟨U0, U, hU1, hU, hU5⟩ := hpar 0 (by simp [wiT])
    obtain ⟨hU2, hU4⟩ := hU.1 rfl
    have hU6 := hU4.to hU5; have hU7 : (σ 0).1 = some ⟨U0.heap.size, 0, none⟩ := hU2; have HUR := lh (HRT.out.below ((HCC4.out _).1 kq.holds).1); have HU6 := lh hU6; clear hU6 hU4 hU2 hU1 hU5 hU hpar
    rw [hU7]
    have HU7 := lh hU7; clear hU7
    go_wp2_with ((at_builtin; refine wpList_appOn rfl _ _ 27 rfl U0.heap.size 144 i0 _ 3 24 Tryz.underlying27 hi hz0 hz1 hz2 rfl (by decide) Sha.cells sha_len sha_one U0.heap.size rfl HU6.out (Nat.le_refl _) A3 c3 (sh.take k) k HTL.out.symm rfl HUR.out HNT.out (by have := HTL.out; unfold maxLen; omega) (by have := HTL.out; omega) ?_; intro g' c' w' hO' hb'))
    first | exact Nrm_mk ⟨(some ⟨g', 0, none⟩, c'), rfl, hb', by simp [wiT], fun _ => ⟨U0.heap.size, g', HU7.out, rfl, hO'⟩, by simp [wiT]⟩ | exact Nrm_mk ⟨some ⟨g', 0, none⟩, c', rfl, hb', by simp [wiT], fun _ => ⟨U0.heap.size, g', HU7.out, rfl, hO'⟩, by simp [wiT]⟩
   simp only [Act.put]
   go_simp
   refine wpMk1_cons (some 53) rfl (.slice (σ 7).1 1 1) rfl fun K1 hK1 => ?_
   change wpQuiet _ _ _ _ (_ :: []) _
   repeat (go_big_quiet_step (fail))
   refine wpQuiet_nil ?_
   refine ⟨fun kq hpar => ?_, hK1 _ ?_⟩
   ·change wpList _ _ _ (_ :: []) _ _
    go_wp2
    first | exact Nrm_mk ⟨(some ⟨kq.world.heap.size, 0, none⟩, 0), rfl, bl1 _ _, by simp [wiT], by simp [wiT], fun _ => ⟨kq.world.heap.size, rfl, rfl, Blk.new _ _ _⟩⟩ | exact Nrm_mk ⟨some ⟨kq.world.heap.size, 0, none⟩, 0, rfl, bl1 _ _, by simp [wiT], by simp [wiT], fun _ => ⟨kq.world.heap.size, rfl, rfl, Blk.new _ _ _⟩⟩
   simp only [Act.put]
   go_simp
   refine wpMk1_last ?_
   change wpQuiet _ _ _ _ (_ :: []) _
   repeat (go_big_quiet_step (fail))
   refine wpQuiet_nil ?_
   intro V0 V W hM hW
   obtain ⟨g0, g5, e0, e5, q5⟩ : ∃ g g', (σ 0).1 = some ⟨g, 0, none⟩ ∧ (σ 5).1 = some ⟨g', 0, none⟩ ∧ OwnV g 144 3 Sha.cells (V 5) (.slice (σ 5).1 (sh.take k).length (σ 5).2) (sh.take k) := (hM.post 5 (by simp)).2.1 rfl
   obtain ⟨a0, _⟩ : (σ 0).1 = some ⟨(V0 0).heap.size, 0, none⟩ ∧ Blk (V 0) (V0 0).heap.size 144 #[] := (hM.post 0 (by simp)).1 rfl
   obtain ⟨g7, e7, u7, q7⟩ : ∃ g, (σ 7).1 = some ⟨g, 0, none⟩ ∧ (V0 7).heap.size = g ∧ Blk (V 7) g 144 #[.int .i64 sm, .int .i64 st, .int .i64 ss] := (hM.post 7 (by simp)).2.2 rfl
   have t0 : (V0 0).heap.size = g0 := by rw [a0] at e0; exact congrArg Addr.block (Option.some.inj e0)
   have O5 := (q5.later (hM.later 5 (by simp))).base (B' := wv.heap.size) (by rw [← t0]; exact (hM.from0 0 (by simp)).size); have hsl9 := hS.lt; have hB7 := q7.below (hM.later 7 (by simp)) q7.lt; have hq2v : Below wv.heap.size wv W := (hM.whole 5 (by simp)).undrew; clear f0 f1 f2 f3 f4; clear s0 s1 s2; clear x0 x1 x2 x3 x4; have hq5 : Below wv.heap.size wv W := bth bel (hM.whole 5 (by simp)).undrew
   replace HB := bth HB hq5; replace O2 := O2.later hq5; replace hF := hF.to hq5; replace hS := hS.to hq5; replace hZ := hZ.to hq5; have z' := hZ.cs5; replace hX := hX.to hq5
   obtain ⟨x0, x1, x2, x3, x4⟩ := hX.cs5
   clear hM q5 q7 a0 e0 t0 u7 hW
   generalize σ 5 = p5 at *
   generalize σ 7 = p7 at *
   obtain ⟨D5, d5⟩ := p5
   obtain ⟨D7, d7⟩ := p7
   simp only at O5 e5 e7
   subst e5
   subst e7
   rw [HTL.out] at O5
   have HR7 : Hid (Rds 3 Sha.cells W (some ⟨g7, 0, none⟩) [(⟨sm, st, ss⟩ : Sha)]) := lh (fun _ => ⟨g7, 0, rfl, hB7.lt, fun i y hy j u hu => by
    have h0 : i = 0 := by have := (List.getElem?_eq_some_iff.1 hy).1; simp at this; omega
    subst h0; simp at hy; subst hy
    rw [Nat.zero_mul, Nat.zero_add]
    exact (hB7.cell _).trans (by simpa [Sha.cells] using hu)⟩)
   have hdx5 := O5.notBlk hX (by decide); have hdz5 := O5.notBlk hZ (by decide); have hap5 := O2.apart O5 (by decide); have hdl5 := O5.lt g5 rfl; have szW := HB.size; have szV := hq2v.size; have HF9 := lh hF; have HS9 := lh hS; have hdf5 := O5.notBlk hF (by decide); have HX9 := lh hX; have HZ9 := lh hZ; have HO5 := lh O5; have HB9 := lh HB; have HOW := lh O2; have HAP5 := lh hap5; clear hB7 hX hZ hF hS O5 O2 HB hap5 z' x0 x1 x2 x3 x4
   haveI : Nonempty (Hld (fun _ => True)) := ⟨⟨w, trivial⟩⟩
   refine wpMx_cons fun K2 hK2 => ?_
   refine wpQuiet_nil ?_
   refine wpQuiet_nil ?_
   change wpList _ _ _ (_ :: []) _ _
   have HO5' : Hid (OwnV wv.heap.size 144 3 Sha.cells W (.slice (some ⟨g5, 0, none⟩) k d5) (sh.take k)) := HO5
   go_wp2_with ((at_builtin; refine wpList_app1 rfl _ _ 27 rfl wv.heap.size 144 i0 _ 3 24 Tryz.underlying27 hi hz0 hz1 hz2 rfl (by decide) Sha.cells sha_len sha_one _ (sh.take k) rfl HO5'.out ⟨g7, 0, none⟩ 1 ⟨sm, st, ss⟩ rfl HR7.out (by have := HTL.out; unfold maxLen; omega) (by have := HTL.out; omega) szV ?_; intro v8 w8 hO8 hg8 ha8; clear ha8; obtain ⟨Y8, y8, rfl, q1, q2, q3⟩ := hO8.form sha_len; clear q1 q2 q3; have hl8 : (sh.take k ++ [(⟨sm, st, ss⟩ : Sha)]).length = k + 1 := (by rw [List.length_append, HTL.out]; rfl); rw [hl8] at hO8; clear hl8))
   have hF8 := HF9.out.grownN hg8 (fun e => hdf5 (Option.some.inj e)); have hS8 := HS9.out.grownN hg8 (fun e => by have h9 : w.heap.size + 1 = g5 := Option.some.inj e; omega); have hX8 := HX9.out.grownN hg8 (fun e => hdx5 (Option.some.inj e)); have hZ8 := HZ9.out.grownN hg8 (fun e => hdz5 (Option.some.inj e)); have O2w := HOW.out.kept hg8 (fun k hk e => HAP5.out k hk e); have HB8 : Below w.heap.size w w8 := HB9.out.grown hg8 szW (fun q hq => by have h9 : g5 = q := Option.some.inj hq; omega)
   have hdx8 := hO8.nb hX8; have hdz8 := hO8.nb hZ8; have hap8 := O2w.apart hO8 (by decide); have hdl8 := hO8.lt; have sz8 := HB8.size; have sz8v := Nat.le_trans szV hg8.size; have hdf8 := hO8.nb hF8; have hCk := ((HCC4.out _).2 ⟨HB8, hF8, hS8, hX8⟩); have HF9 := lh hF8; have HS9 := lh hS8; have HDF8 := lh hdf8; have HX9 := lh hX8; have HZ9 := lh hZ8; have HO8 := lh hO8; have HB9 := lh HB8; have HOW := lh O2w
   have HAP8 := lh hap8; have HDX8 := lh hdx8; have HDZ8 := lh hdz8; have HDL8 := lh hdl8; clear hX8 hZ8 hO8 O2w HB8 hap8 hdx8 hdz8 hdl8 hg8 hF8 hS8 hdf8
   refine Nrm_keep hCk (hK2 _ _ ?_)
   clear hCk
   refine wpMx_cons fun K3 hK3 => ?_
   refine wpQuiet_nil ?_
   refine wpQuiet_nil ?_
   change wpList _ _ _ (_ :: []) _ _
   try simp only [Act.put]
   try go_simp
   have HRW := lh (HRR.out.below HB9.out)
   go_wp2_with ((at_builtin; refine wpList_app rfl _ _ 27 rfl wv.heap.size 144 i0 _ 3 24 Tryz.underlying27 hi hz0 hz1 hz2 rfl (by decide) Sha.cells sha_len sha_one _ (sh.take k ++ [(⟨sm, st, ss⟩ : Sha)]) rfl HO8.out RA rc rest (by rw [HRL.out]; rfl) HRW.out HNR.out (by have h1 := HRL.out; have h2 := HTL.out; rw [List.length_append, h1, h2]; simp only [List.length_cons, List.length_nil]; unfold maxLen; omega) (by have h1 := HRL.out; have h2 := HTL.out; rw [List.length_append, h1, h2]; simp only [List.length_cons, List.length_nil]; omega) sz8v ?_; intro v10 w10 hO10 hg10; rw [← HE1.out] at hO10; obtain ⟨Y, yc, rfl, q1, q2, q3⟩ := hO10.form sha_len; clear q1 q2 q3))
   have hF9 := HF9.out.grownN hg10 (fun e => HDF8.out _ e.symm rfl); have hS9 := HS9.out.grownN hg10 (fun e => by have h9 := (HDL8.out _ e.symm).1; omega); have hX9 := HX9.out.grownN hg10 (fun e => HDX8.out _ e.symm rfl); have hZ9 := HZ9.out.grownN hg10 (fun e => HDZ8.out _ e.symm rfl); have O2 := HOW.out.kept hg10 (fun k hk e => HAP8.out k hk e); have O3 := hO10; have HB := HB9.out.grown hg10 sz8 (fun q hq => by have := (HDL8.out q hq).1; omega)
   clear hg10 hO10
   refine Nrm_keep ((HCC4.out _).2 ⟨HB, hF9, hS9, hX9⟩) (hK3 _ _ ?_)
   refine wpMx_cons fun K4 hK4 => ?_
   refine wpQuiet_nil ?_
   change wpQuiet _ _ _ _ (_ :: []) _
   try simp only [Act.put]
   try go_simp
   repeat (go_big_quiet_step (fail))
   refine wpQuiet_nil ?_
   change wpList _ _ _ (_ :: []) _ _
   have z' := hZ9.cs5
   obtain ⟨x0, x1, x2, x3, x4⟩ := hX9.cs5
   have neO2 := O2.nb hX9; have neO3 := O3.nb hX9; have fhX94 := hX9.frozen 4
   go_wp2
   clear z' x0 x1 x2 x3 x4
   refine st1 4 fun W10 tW10 => ?_
   replace HB := tW10.hc HB; replace hZ9 := tW10.fa hZ9; replace hX9 : Blk W10 (w2.heap.size) 29 #[.int .i64 tu, .int .i64 se, .int .i64 sp, .slice D2 ws.length d2, .slice Y (setSh sh ⟨sm, st, ss⟩).length yc] := tW10.own hX9; replace O2 := O2.keptS tW10 neO2; replace O3 := O3.keptS tW10 neO3; have z' := hZ9.cs5
   obtain ⟨x0, x1, x2, x3, x4⟩ := hX9.cs5
   clear neO2 neO3 fhX94
   refine Nrm_drop (hK4 _ _ ?_)
   refine wpMx_last ?_
   refine wpQuiet_nil ?_
   refine wpQuiet_nil ?_
   have neO2 := O2.nb hZ9; have neO3 := O3.nb hZ9; have fhZ90 := hZ9.frozen 0; have fhZ91 := hZ9.frozen 1; have fhZ92 := hZ9.frozen 2; have fhZ93 := hZ9.frozen 3; have fhZ94 := hZ9.frozen 4
   go_wp2
   clear z' x0 x1 x2 x3 x4
   refine st5 0 fun W11 tW11 => ?_
   replace HB := tW11.hc HB; replace hZ9 := tW11.all5 hZ9; replace hX9 := tW11.fa hX9; replace O2 := O2.keptS tW11 neO2; replace O3 := O3.keptS tW11 neO3; have z' := hZ9.cs5
   refine bodyPost_ret (v := .agg #[.int .i64 tu, .int .i64 se, .int .i64 sp, .slice D2 ws.length d2, .slice Y (setSh sh ⟨sm, st, ss⟩).length yc]) (by simp [results, Tryz.results193, go_sem, z']) rfl ?_
   exact ⟨D2, d2, Y, yc, rfl, ⟨O2.base (Nat.le_refl _), O3.base szwv, O2.apart O3 (by decide)⟩, HB⟩
open Go.RowKit Go.G9
theorem l8Yield_is (tu se sp : Int) (A2 : Option Addr) (c2 : Nat) (ws : List Int) (A3 : Option Addr) (c3 : Nat) (sh : List Sha) (h2 : ws.length ≤ 1048576) (h3 : sh.length ≤ 1048576) (n2 : A2 = none → ws = [] ∧ c2 = 0) (n3 : A3 = none → sh = [] ∧ c3 = 0) (k2 : ws.length ≤ c2) (k3 : sh.length ≤ c3) (st ss : Int) (hs : shareF sh sp = ⟨sp, st, ss⟩) (h0 : 0 ≤ st) (h1 : st ≤ 1000) (w : World) (R2 : Rds 1 intC w A2 ws) (R3 : Rds 3 Sha.cells w A3 sh) :
 Calls Tryz.prog 194 #[.agg #[.int .i64 tu, .int .i64 se, .int .i64 sp, .slice A2 ws.length c2, .slice A3 sh.length c3]] w fun e w' => ∃ D2 d2 D3 d3, e = .returned (.agg #[.int .i64 tu, .int .i64 se, .int .i64 0, .slice D2 ws.length d2, .slice D3 (setSh sh ⟨sp, st + 1, ss⟩).length d3]) ∧ FlO w.heap.size w' D2 d2 D3 d3 ws (setSh sh ⟨sp, st + 1, ss⟩) ∧ Below w.heap.size w w' := by
 have HR2 := lh R2; have HR3 := lh R3; have HN2 := lh n2; have HN3 := lh n3; have HK3 := lh k3; clear R2 R3 n2 n3 k3; have HS := lh hs; clear hs
 have hw1 : IntKind.i64.wrap (st + 1) = st + 1 := by rw [IntKind.wrap_i64]; omega
 go_in
 go_upto_region 1 with fail
 refine lay2 fun wX hq1 hF hZ => ?_
 have HB := hq1; have f' := hF.cs5; have z' := hZ.cs5; have hz0' := hZ.lt
 go_wp2_with fail
 refine (l8Share_is tu se sp A2 ws.length c2 A3 c3 sh h3 sp ⟨sp, st, ss⟩ HS.out _ (HR3.out.below (bth HB bel))).mono ?_
 rintro e w2 ⟨rfl, hb2⟩
 have hq2 := be wX hb2; replace HB := bth HB hq2; replace hF := hF.to hq2; clear f'; have f' := hF.cs5; replace hZ := hZ.to hq2; clear z'; have z' := hZ.cs5; have szq2 := hq2.size
 go_upto_region 2 with fail
 refine lay1 fun w5 hq3 hS => ?_
 replace HB := bth HB hq3; have s' := hS.cs3; clear f'; replace hF := hF.to hq3; have f' := hF.cs5; clear z'; replace hZ := hZ.to hq3; have z' := hZ.cs5; have fhS1 := hS.frozen 1
 go_upto_region 3 with fail
 clear f' z' s'
 refine st1 1 fun W2 tW2 => ?_
 replace HB := tW2.hc HB; replace hF := tW2.fa hF; replace hZ := tW2.fa hZ; replace hS : Blk W2 (w2.heap.size) 144 #[.int .i64 sp, .int .i64 (st + 1), .int .i64 ss] := tW2.own hS; have f' := hF.cs5; have z' := hZ.cs5; have s' := hS.cs3; clear fhS1; have hs0' := hS.lt
 go_wp2_with fail
 refine (l8With_is tu se sp A2 c2 ws A3 c3 sh h2 h3 HN2.out HN3.out HK3.out sp (st + 1) ss _ (HR2.out.below (bth HB bel)) (HR3.out.below (bth HB bel))).mono ?_
 rintro e w4 ⟨D2, d2, D3, d3, rfl, OO, hb4⟩
 have hq4 := be W2 hb4; replace HB := bth HB hq4; clear f'; replace hZ := hZ.to hq4; clear z'; have z' := hZ.cs5; clear s'; have szh := HB.size; have szq4 := hq4.size
 go_upto_region 4 with fail
 have hO4 := OO.later (bl1 w4 (.cells #[.int .i64 tu, .int .i64 se, .int .i64 sp, .slice D2 ws.length d2, .slice D3 (setSh sh ⟨sp, st + 1, ss⟩).length d3] 29)); clear OO; have hq5 : Below w4.heap.size w4 (World.alloc w4 (.cells #[.int .i64 tu, .int .i64 se, .int .i64 sp, .slice D2 ws.length d2, .slice D3 (setSh sh ⟨sp, st + 1, ss⟩).length d3] 29)) := bl1 w4 _
 have hX : Blk (World.alloc w4 (.cells #[.int .i64 tu, .int .i64 se, .int .i64 sp, .slice D2 ws.length d2, .slice D3 (setSh sh ⟨sp, st + 1, ss⟩).length d3] 29)) (w4.heap.size) 29 #[.int .i64 tu, .int .i64 se, .int .i64 sp, .slice D2 ws.length d2, .slice D3 (setSh sh ⟨sp, st + 1, ss⟩).length d3] := by repeat (first | exact Blk.new _ _ _ | exact Blk.new2 _ _ _ _ | exact Blk.new3 _ _ _ _ _ | exact Blk.new4 _ _ _ _ _ _ | refine Blk.alloc ?_ _)
 generalize World.alloc w4 (.cells #[.int .i64 tu, .int .i64 se, .int .i64 sp, .slice D2 ws.length d2, .slice D3 (setSh sh ⟨sp, st + 1, ss⟩).length d3] 29) = w8 at *
 replace HB := bth HB hq5; have x' := hX.cs5; clear z'; replace hZ := hZ.to hq5; have z' := hZ.cs5; have O2 := hO4.o2; have O3 := hO4.o3; clear hO4; have neO2 := O2.nb hX; have neO3 := O3.nb hX; have fhX2 := hX.frozen 2
 go_upto_region 5 with fail
 clear z' x'
 refine st1 2 fun W4 tW4 => ?_
 replace HB := tW4.hc HB; replace hZ := tW4.fa hZ; replace hX : Blk W4 (w4.heap.size) 29 #[.int .i64 tu, .int .i64 se, .int .i64 0, .slice D2 ws.length d2, .slice D3 (setSh sh ⟨sp, st + 1, ss⟩).length d3] := tW4.own hX; replace O2 := O2.keptS tW4 neO2; replace O3 := O3.keptS tW4 neO3; have z' := hZ.cs5; have x' := hX.cs5; clear neO2 neO3 fhX2; have neO2 := O2.nb hZ; have neO3 := O3.nb hZ; have fhZ' := hZ.fz5
 go_wp2
 clear z' x'
 refine st5 0 fun W5 tW5 => ?_
 replace HB := tW5.hc HB; replace hZ := tW5.all5 hZ; replace O2 := O2.keptS tW5 neO2; replace O3 := O3.keptS tW5 neO3; have z' := hZ.cs5
 exact brt ⟨D2, d2, D3, d3, rfl, ⟨O2.base (by omega), O3.base (by omega), O2.apart O3 (by decide)⟩, HB⟩ (by simp [results, Tryz.results194, go_sem, z'])
theorem zb106 {p : Prop} (h : p := by
 refine st5 0 fun W9 tW9 => ?_
 replace HB := tW9.hc HB; replace hZ := tW9.all5 hZ; have z' := hZ.cs5
 exact brt ⟨rfl, HB⟩ (by simp [results, Tryz.results159, go_sem, z'])) : p := h
theorem sYieldF_is (tu se sp : Int) (A2 : Option Addr) (c2 : Nat) (ws : List Int) (A3 : Option Addr) (c3 : Nat) (sh : List Sha) (h2 : ws.length ≤ 1048576) (h3 : sh.length ≤ 1048576) (n2 : A2 = none → ws = [] ∧ c2 = 0) (n3 : A3 = none → sh = [] ∧ c3 = 0) (k2 : ws.length ≤ c2) (k3 : sh.length ≤ c3) (hv : yldB ⟨tu, se, sp, ws, sh⟩ = false) (w : World) (R2 : Rds 1 intC w A2 ws) (R3 : Rds 3 Sha.cells w A3 sh) :
 Calls Tryz.prog 159 #[.agg #[.int .i64 tu, .int .i64 se, .int .i64 sp, .slice A2 ws.length c2, .slice A3 sh.length c3]] w fun e w' => e = .returned (.tuple #[.agg #[.int .i64 0, .int .i64 0, .int .i64 0, .slice none 0 0, .slice none 0 0], .bool false]) ∧ Below w.heap.size w w' := by
 have HR2 := lh R2; have HR3 := lh R3; clear R2 R3 n2 n3 k3
 cases hf : floB tu se sp ws sh
 ·have HV := lh hf
  clear hf hv
  go_in
  go_upto_region 1 with fail
  refine lay2 fun wX hq1 hF hZ => ?_
  have HB := hq1; have f' := hF.cs5; have z' := hZ.cs5
  go_wp2_with fail
  refine (l8Good_is tu se sp A2 ws c2 A3 c3 sh h2 h3 k2 _ HV.out _ (HR2.out.below (bth HB bel)) (HR3.out.below (bth HB bel))).mono ?_
  rintro e w2 ⟨rfl, hb2⟩
  have hq2 := be wX hb2; replace HB := bth HB hq2; clear f'; replace hZ := hZ.to hq2; clear z'; have z' := hZ.cs5; have fhZ' := hZ.fz5
  go_wp2
  clear z'
  exact zb106
 ·have hs : (sp == 0) = true := by simpa [yldB, Fl.ok, hf] using hv
  have HV := lh hf; clear hf hv
  go_in
  go_upto_region 1 with fail
  refine lay2 fun wX hq1 hF hZ => ?_
  have HB := hq1; have f' := hF.cs5; have z' := hZ.cs5
  go_wp2_with fail
  refine (l8Good_is tu se sp A2 ws c2 A3 c3 sh h2 h3 k2 _ HV.out _ (HR2.out.below (bth HB bel)) (HR3.out.below (bth HB bel))).mono ?_
  rintro e w2 ⟨rfl, hb2⟩
  have hq2 := be wX hb2; replace HB := bth HB hq2; replace hF := hF.to hq2; clear f'; have f' := hF.cs5; replace hZ := hZ.to hq2; clear z'; have z' := hZ.cs5; have fhZ' := hZ.fz5
  go_wp2
  clear f' z'
  exact zb106
theorem zb142 {p : Prop} (h : p := by
 exact ⟨D2, d2, D3, d3, rfl, ⟨O2.base (by omega), O3.base (by omega), O2.apart O3 (by decide)⟩, HB⟩) : p := h
theorem sYieldT_is (tu se sp : Int) (A2 : Option Addr) (c2 : Nat) (ws : List Int) (A3 : Option Addr) (c3 : Nat) (sh : List Sha) (h2 : ws.length ≤ 1048576) (h3 : sh.length ≤ 1048576) (n2 : A2 = none → ws = [] ∧ c2 = 0) (n3 : A3 = none → sh = [] ∧ c3 = 0) (k2 : ws.length ≤ c2) (k3 : sh.length ≤ c3) (hv : yldB ⟨tu, se, sp, ws, sh⟩ = true) (w : World) (R2 : Rds 1 intC w A2 ws) (R3 : Rds 3 Sha.cells w A3 sh) :
 Calls Tryz.prog 159 #[.agg #[.int .i64 tu, .int .i64 se, .int .i64 sp, .slice A2 ws.length c2, .slice A3 sh.length c3]] w fun e w' => ∃ D2 d2 D3 d3, e = .returned (.tuple #[.agg #[.int .i64 tu, .int .i64 se, .int .i64 0, .slice D2 ws.length d2, .slice D3 (yldF ⟨tu, se, sp, ws, sh⟩).sh.length d3], .bool true]) ∧ FlO w.heap.size w' D2 d2 D3 d3 ws (yldF ⟨tu, se, sp, ws, sh⟩).sh ∧ Below w.heap.size w w' := by
 have HR2 := lh R2; have HR3 := lh R3; have HN2 := lh n2; have HN3 := lh n3; have HK3 := lh k3; clear R2 R3 n2 n3 k3
 have hok : (⟨tu, se, sp, ws, sh⟩ : Fl).ok = true := by simp only [yldB, Bool.and_eq_true] at hv; exact hv.1
 have hs : (sp == 0) = false := by simp only [yldB, Bool.and_eq_true, Bool.not_eq_true'] at hv; exact hv.2
 obtain ⟨hp1, hp2, hp3⟩ := ok_share hok (beq_eq_false_iff_ne.1 hs)
 have htu := (fl_ok.1 hok).t
 obtain ⟨hq1, hq2, hq3⟩ := shaOk_iff.1 hp2
 have hmem := shareF_mem (xs := sh) (m := sp)
 obtain ⟨⟨s0m, st, ss⟩, hsh⟩ : ∃ x, shareF sh sp = x := ⟨_, rfl⟩
 have ey : yldS ⟨tu, se, sp, ws, sh⟩ = ⟨sp, st + 1, ss⟩ := by simp [yldS, hsh]
 have e1 : (yldF ⟨tu, se, sp, ws, sh⟩).sh = setSh sh ⟨sp, st + 1, ss⟩ := by simp [yldF, ey]
 simp only at hp3 hq2 hq3
 rw [hsh] at hp3 hq2 hq3 hmem
 simp only at hp3 hq2 hq3 hmem htu
 subst hmem
 rw [e1]
 have HV : Hid (floB tu se s0m ws sh = true) := lh hok; have HSH := lh hsh; clear hok hv hp1 hp2 hq1 hsh ey e1
 go_in
 go_upto_region 1 with fail
 refine lay2 fun wX hq1 hF hZ => ?_
 have HB := hq1; have f' := hF.cs5; have z' := hZ.cs5; have hz0' := hZ.lt
 go_wp2_with fail
 refine (l8Good_is tu se s0m A2 ws c2 A3 c3 sh h2 h3 k2 _ HV.out _ (HR2.out.below (bth HB bel)) (HR3.out.below (bth HB bel))).mono ?_
 rintro e w2 ⟨rfl, hb2⟩
 have hq2 := be wX hb2; replace HB := bth HB hq2; replace hF := hF.to hq2; clear f'; have f' := hF.cs5; replace hZ := hZ.to hq2; clear z'; have z' := hZ.cs5
 go_wp2_with fail
 refine (l8Yield_is tu se s0m A2 c2 ws A3 c3 sh h2 h3 HN2.out HN3.out k2 HK3.out st ss HSH.out (by omega) (by omega) _ (HR2.out.below (bth HB bel)) (HR3.out.below (bth HB bel))).mono ?_
 rintro e w3 ⟨D2, d2, D3, d3, rfl, OO, hb3⟩
 have hq3 := be w2 hb3; replace HB := bth HB hq3; clear f'; replace hZ := hZ.to hq3; clear z'; have z' := hZ.cs5; have szq2 := hq2.size; have O2 := OO.o2; have O3 := OO.o3; clear OO; have neO2 := O2.nb hZ; have neO3 := O3.nb hZ; have fhZ' := hZ.fz5
 go_wp2
 clear z'
 refine st5 0 fun W5 tW5 => ?_
 replace HB := tW5.hc HB; replace hZ := tW5.all5 hZ; replace O2 := O2.keptS tW5 neO2; replace O3 := O3.keptS tW5 neO3; have z' := hZ.cs5
 refine bodyPost_ret (v := .tuple #[.agg #[.int .i64 tu, .int .i64 se, .int .i64 0, .slice D2 ws.length d2, .slice D3 (setSh sh ⟨s0m, st + 1, ss⟩).length d3], .bool true]) (by simp [results, Tryz.results159, go_sem, z']) rfl ?_
 exact zb142
theorem zb84 {p : Prop} (h : p := by
 clear z'; have z' := hZ.cs5; have fhZ' := hZ.fz5
 go_wp2
 clear z'
 refine st5 0 fun W9 tW9 => ?_
 replace HB := tW9.hc HB; replace hZ := tW9.all5 hZ; have z' := hZ.cs5
 exact brt ⟨rfl, HB⟩ (by simp [results, Tryz.results156, go_sem, z'])) : p := h
theorem zb81 {p : Prop} (h : p := by
 clear z'; have z' := hZ.cs5; have fhZ' := hZ.fz5
 go_wp2
 clear f' z'
 refine st5 0 fun W9 tW9 => ?_
 replace HB := tW9.hc HB; replace hZ := tW9.all5 hZ; have z' := hZ.cs5
 exact brt ⟨rfl, HB⟩ (by simp [results, Tryz.results156, go_sem, z'])) : p := h
theorem sAskF_is (tu se sp : Int) (A2 : Option Addr) (c2 : Nat) (ws : List Int) (A3 : Option Addr) (c3 : Nat) (sh : List Sha) (h2 : ws.length ≤ 1048576) (h3 : sh.length ≤ 1048576) (n2 : A2 = none → ws = [] ∧ c2 = 0) (n3 : A3 = none → sh = [] ∧ c3 = 0) (k2 : ws.length ≤ c2) (k3 : sh.length ≤ c3) (m : Int) (hv : akB ⟨tu, se, sp, ws, sh⟩ m = false) (w : World) (R2 : Rds 1 intC w A2 ws) (R3 : Rds 3 Sha.cells w A3 sh) :
 Calls Tryz.prog 156 #[.agg #[.int .i64 tu, .int .i64 se, .int .i64 sp, .slice A2 ws.length c2, .slice A3 sh.length c3], .int .i64 m] w fun e w' => e = .returned (.tuple #[.agg #[.int .i64 0, .int .i64 0, .int .i64 0, .slice none 0 0, .slice none 0 0], .bool false]) ∧ Below w.heap.size w w' := by
 have HR2 := lh R2; have HR3 := lh R3; clear R2 R3 n2 n3 k3
 have hms : (m == sp) = (sp == m) := by rw [Bool.eq_iff_iff, beq_iff_eq, beq_iff_eq]; exact eq_comm
 cases hc0 : floB tu se sp ws sh
 case false =>
  have HV := lh hc0; clear hc0; clear hv hms
  go_in
  go_upto_region 1 with fail
  refine lay2 fun wX hq1 hF hZ => ?_
  have HB := hq1; have f' := hF.cs5; have z' := hZ.cs5
  go_wp2_with fail
  refine (l8Good_is tu se sp A2 ws c2 A3 c3 sh h2 h3 k2 _ HV.out _ (HR2.out.below (bth HB bel)) (HR3.out.below (bth HB bel))).mono ?_
  rintro e w2 ⟨rfl, hb2⟩
  have hq2 := be wX hb2; replace HB := bth HB hq2; clear f'; replace hZ := hZ.to hq2
  exact zb84
 case true =>
  cases hc1 : memB m
  case false =>
   have HV := lh hc0; clear hc0; have HM := lh hc1; clear hc1; clear hv hms
   go_in
   go_upto_region 1 with fail
   refine lay2 fun wX hq1 hF hZ => ?_
   have HB := hq1; have f' := hF.cs5; have z' := hZ.cs5
   go_wp2_with fail
   refine (l8Good_is tu se sp A2 ws c2 A3 c3 sh h2 h3 k2 _ HV.out _ (HR2.out.below (bth HB bel)) (HR3.out.below (bth HB bel))).mono ?_
   rintro e w2 ⟨rfl, hb2⟩
   have hq2 := be wX hb2; replace HB := bth HB hq2; clear f'; replace hZ := hZ.to hq2; clear z'; have z' := hZ.cs5
   go_wp2_with fail
   refine (l7Member_is m _ HM.out _).mono ?_
   rintro e w0 ⟨rfl, h0⟩
   rw [h0]
   clear h0 w0; have fhZ' := hZ.fz5
   go_wp2
   clear z'
   refine st5 0 fun W9 tW9 => ?_
   replace HB := tW9.hc HB; replace hZ := tW9.all5 hZ; have z' := hZ.cs5
   exact brt ⟨rfl, HB⟩ (by simp [results, Tryz.results156, go_sem, z'])
  case true =>
   cases hc2 : hasB ws m
   case true =>
    have HV := lh hc0; clear hc0; have HM := lh hc1; clear hc1; have HC := lh hc2; clear hc2; clear hv hms
    go_in
    go_upto_region 1 with fail
    refine lay2 fun wX hq1 hF hZ => ?_
    have HB := hq1; have f' := hF.cs5; have z' := hZ.cs5
    go_wp2_with fail
    refine (l8Good_is tu se sp A2 ws c2 A3 c3 sh h2 h3 k2 _ HV.out _ (HR2.out.below (bth HB bel)) (HR3.out.below (bth HB bel))).mono ?_
    rintro e w2 ⟨rfl, hb2⟩
    have hq2 := be wX hb2; replace HB := bth HB hq2; replace hF := hF.to hq2; clear f'; have f' := hF.cs5; replace hZ := hZ.to hq2; clear z'; have z' := hZ.cs5
    go_wp2_with fail
    refine (l7Member_is m _ HM.out _).mono ?_
    rintro e w0 ⟨rfl, h0⟩
    rw [h0]
    clear h0 w0
    go_wp2_with fail
    refine (l1Has_is A2 c2 ws m h2 _ HC.out _ (HR2.out.below (bth HB bel))).mono ?_
    rintro e w3 ⟨rfl, hb3⟩
    have hq3 := be w2 hb3; replace HB := bth HB hq3; clear f'; replace hZ := hZ.to hq3
    exact zb84
   case false =>
    cases hc3 : (sp == m)
    case true =>
     have HV := lh hc0; clear hc0; have HM := lh hc1; clear hc1; have HC := lh hc2; clear hc2; clear hv hms
     go_in
     go_upto_region 1 with fail
     refine lay2 fun wX hq1 hF hZ => ?_
     have HB := hq1; have f' := hF.cs5; have z' := hZ.cs5
     go_wp2_with fail
     refine (l8Good_is tu se sp A2 ws c2 A3 c3 sh h2 h3 k2 _ HV.out _ (HR2.out.below (bth HB bel)) (HR3.out.below (bth HB bel))).mono ?_
     rintro e w2 ⟨rfl, hb2⟩
     have hq2 := be wX hb2; replace HB := bth HB hq2; replace hF := hF.to hq2; clear f'; have f' := hF.cs5; replace hZ := hZ.to hq2; clear z'; have z' := hZ.cs5
     go_wp2_with fail
     refine (l7Member_is m _ HM.out _).mono ?_
     rintro e w0 ⟨rfl, h0⟩
     rw [h0]
     clear h0 w0
     go_wp2_with fail
     refine (l1Has_is A2 c2 ws m h2 _ HC.out _ (HR2.out.below (bth HB bel))).mono ?_
     rintro e w3 ⟨rfl, hb3⟩
     have hq3 := be w2 hb3; replace HB := bth HB hq3; replace hF := hF.to hq3; clear f'; have f' := hF.cs5; replace hZ := hZ.to hq3
     exact zb81
    case false =>
     cases hc4 : entB tu se (shareF sh m)
     case false =>
      have HV := lh hc0; clear hc0; have HM := lh hc1; clear hc1; have HC := lh hc2; clear hc2; have HE := lh hc4; clear hc4; clear hv hms
      go_in
      go_upto_region 1 with fail
      refine lay2 fun wX hq1 hF hZ => ?_
      have HB := hq1; have f' := hF.cs5; have z' := hZ.cs5
      go_wp2_with fail
      refine (l8Good_is tu se sp A2 ws c2 A3 c3 sh h2 h3 k2 _ HV.out _ (HR2.out.below (bth HB bel)) (HR3.out.below (bth HB bel))).mono ?_
      rintro e w2 ⟨rfl, hb2⟩
      have hq2 := be wX hb2; replace HB := bth HB hq2; replace hF := hF.to hq2; clear f'; have f' := hF.cs5; replace hZ := hZ.to hq2; clear z'; have z' := hZ.cs5
      go_wp2_with fail
      refine (l7Member_is m _ HM.out _).mono ?_
      rintro e w0 ⟨rfl, h0⟩
      rw [h0]
      clear h0 w0
      go_wp2_with fail
      refine (l1Has_is A2 c2 ws m h2 _ HC.out _ (HR2.out.below (bth HB bel))).mono ?_
      rintro e w3 ⟨rfl, hb3⟩
      have hq3 := be w2 hb3; replace HB := bth HB hq3; replace hF := hF.to hq3; clear f'; have f' := hF.cs5; replace hZ := hZ.to hq3; clear z'; have z' := hZ.cs5
      go_wp2_with fail
      refine (l8Entitled_is tu se sp A2 ws.length c2 A3 c3 sh h3 m _ HE.out _ (HR3.out.below (bth HB bel))).mono ?_
      rintro e w4 ⟨rfl, hb4⟩
      have hq4 := be w3 hb4; replace HB := bth HB hq4; clear f'; replace hZ := hZ.to hq4
      exact zb84
     case true =>
      have hc5 : decide (ws.length = 10) = true := by simpa [akB, Fl.ok, hms, hc0, hc1, hc2, hc3, hc4] using hv
      have HV := lh hc0; clear hc0; have HM := lh hc1; clear hc1; have HC := lh hc2; clear hc2; have HE := lh hc4; clear hc4
      have ht : ((ws.length : Int) == 10) = true := by have := of_decide_eq_true hc5; rw [this]; rfl
      clear hc5; clear hv hms
      go_in
      go_upto_region 1 with fail
      refine lay2 fun wX hq1 hF hZ => ?_
      have HB := hq1; have f' := hF.cs5; have z' := hZ.cs5
      go_wp2_with fail
      refine (l8Good_is tu se sp A2 ws c2 A3 c3 sh h2 h3 k2 _ HV.out _ (HR2.out.below (bth HB bel)) (HR3.out.below (bth HB bel))).mono ?_
      rintro e w2 ⟨rfl, hb2⟩
      have hq2 := be wX hb2; replace HB := bth HB hq2; replace hF := hF.to hq2; clear f'; have f' := hF.cs5; replace hZ := hZ.to hq2; clear z'; have z' := hZ.cs5
      go_wp2_with fail
      refine (l7Member_is m _ HM.out _).mono ?_
      rintro e w0 ⟨rfl, h0⟩
      rw [h0]
      clear h0 w0
      go_wp2_with fail
      refine (l1Has_is A2 c2 ws m h2 _ HC.out _ (HR2.out.below (bth HB bel))).mono ?_
      rintro e w3 ⟨rfl, hb3⟩
      have hq3 := be w2 hb3; replace HB := bth HB hq3; replace hF := hF.to hq3; clear f'; have f' := hF.cs5; replace hZ := hZ.to hq3; clear z'; have z' := hZ.cs5
      go_wp2_with fail
      refine (l8Entitled_is tu se sp A2 ws.length c2 A3 c3 sh h3 m _ HE.out _ (HR3.out.below (bth HB bel))).mono ?_
      rintro e w4 ⟨rfl, hb4⟩
      have hq4 := be w3 hb4; replace HB := bth HB hq4; replace hF := hF.to hq4; clear f'; have f' := hF.cs5; replace hZ := hZ.to hq4
      exact zb81
theorem sAskT_is (tu se sp : Int) (A2 : Option Addr) (c2 : Nat) (ws : List Int) (A3 : Option Addr) (c3 : Nat) (sh : List Sha) (h2 : ws.length ≤ 1048576) (h3 : sh.length ≤ 1048576) (n2 : A2 = none → ws = [] ∧ c2 = 0) (n3 : A3 = none → sh = [] ∧ c3 = 0) (k2 : ws.length ≤ c2) (k3 : sh.length ≤ c3) (m : Int) (hv : akB ⟨tu, se, sp, ws, sh⟩ m = true) (w : World) (R2 : Rds 1 intC w A2 ws) (R3 : Rds 3 Sha.cells w A3 sh) :
 Calls Tryz.prog 156 #[.agg #[.int .i64 tu, .int .i64 se, .int .i64 sp, .slice A2 ws.length c2, .slice A3 sh.length c3], .int .i64 m] w fun e w' => ∃ D2 d2 D3 d3, e = .returned (.tuple #[.agg #[.int .i64 tu, .int .i64 se, .int .i64 sp, .slice D2 (ws ++ [m]).length d2, .slice D3 sh.length d3], .bool true]) ∧ FlO w.heap.size w' D2 d2 D3 d3 (ws ++ [m]) sh ∧ Below w.heap.size w w' := by
 obtain ⟨i0, hi, hz0, hz1, hz2⟩ := info_parts info_int
 have HR2 := lh R2; have HR3 := lh R3; have HN2 := lh n2; have HN3 := lh n3; clear R2 R3 n2 n3 k3
 obtain ⟨hc0, hc1, hs, hc3, hc4, hc5⟩ : floB tu se sp ws sh = true ∧ memB m = true ∧ (m == sp) = false ∧ hasB ws m = false ∧ entB tu se (shareF sh m) = true ∧ ws.length ≠ 10 := by
  simpa [akB, Fl.ok] using hv
 have hs : (sp == m) = false := beq_eq_false_iff_ne.2 (fun e => beq_eq_false_iff_ne.1 hs e.symm); have ht : ((ws.length : Int) == 10) = false := beq_eq_false_iff_ne.2 (by omega); have hwl : ws.length ≤ 10 := (fl_ok.1 (show (⟨tu, se, sp, ws, sh⟩ : Fl).ok = true from hc0)).l; have HV := lh hc0; have HM := lh hc1; have HC := lh hc3; have HE := lh hc4; clear hc0 hc1 hc3 hc4 hc5 hv
 go_in
 go_upto_region 1 with fail
 refine lay2 fun wX hq1 hF hZ => ?_
 have HB := hq1; have f' := hF.cs5; have z' := hZ.cs5; have hz0' := hZ.lt
 go_wp2_with fail
 refine (l8Good_is tu se sp A2 ws c2 A3 c3 sh h2 h3 k2 _ HV.out _ (HR2.out.below (bth HB bel)) (HR3.out.below (bth HB bel))).mono ?_
 rintro e w2 ⟨rfl, hb2⟩
 have hq2 := be wX hb2; replace HB := bth HB hq2; replace hF := hF.to hq2; clear f'; have f' := hF.cs5; replace hZ := hZ.to hq2; clear z'; have z' := hZ.cs5
 go_wp2_with fail
 refine (l7Member_is m _ HM.out _).mono ?_
 rintro e w0 ⟨rfl, h0⟩
 rw [h0]
 clear h0 w0
 go_wp2_with fail
 refine (l1Has_is A2 c2 ws m h2 _ HC.out _ (HR2.out.below (bth HB bel))).mono ?_
 rintro e w3 ⟨rfl, hb3⟩
 have hq3 := be w2 hb3; replace HB := bth HB hq3; replace hF := hF.to hq3; clear f'; have f' := hF.cs5; replace hZ := hZ.to hq3; clear z'; have z' := hZ.cs5
 go_wp2_with fail
 refine (l8Entitled_is tu se sp A2 ws.length c2 A3 c3 sh h3 m _ HE.out _ (HR3.out.below (bth HB bel))).mono ?_
 rintro e w4 ⟨rfl, hb4⟩
 have hq4 := be w3 hb4; replace HB := bth HB hq4; replace hF := hF.to hq4; clear f'; have f' := hF.cs5; replace hZ := hZ.to hq4; clear z'; have z' := hZ.cs5
 go_wp2_with fail
 refine (l8Own_is tu se sp A2 c2 ws A3 c3 sh h2 h3 HN2.out HN3.out _ (HR2.out.below (bth HB bel)) (HR3.out.below (bth HB bel))).mono ?_
 rintro e w5 ⟨D2, d2, D3, d3, rfl, OO, hb5⟩
 have hq5 := be w4 hb5; replace HB := bth HB hq5; clear f'; replace hZ := hZ.to hq5; clear z'; have z' := hZ.cs5; have szh := HB.size; have szq1 := hq2.size; have szq3 := hq3.size; have szq4 := hq4.size; have szq5 := hq5.size
 go_upto_region 4 with fail
 have hO4 := OO.later (bl1 w5 (.cells #[.int .i64 tu, .int .i64 se, .int .i64 sp, .slice D2 ws.length d2, .slice D3 sh.length d3] 29)); have hq6 : Below w5.heap.size w5 (World.alloc w5 (.cells #[.int .i64 tu, .int .i64 se, .int .i64 sp, .slice D2 ws.length d2, .slice D3 sh.length d3] 29)) := bl1 w5 _
 have hX : Blk (World.alloc w5 (.cells #[.int .i64 tu, .int .i64 se, .int .i64 sp, .slice D2 ws.length d2, .slice D3 sh.length d3] 29)) (w5.heap.size) 29 #[.int .i64 tu, .int .i64 se, .int .i64 sp, .slice D2 ws.length d2, .slice D3 sh.length d3] := by repeat (first | exact Blk.new _ _ _ | exact Blk.new2 _ _ _ _ | exact Blk.new3 _ _ _ _ _ | exact Blk.new4 _ _ _ _ _ _ | refine Blk.alloc ?_ _)
 generalize World.alloc w5 (.cells #[.int .i64 tu, .int .i64 se, .int .i64 sp, .slice D2 ws.length d2, .slice D3 sh.length d3] 29) = w8 at *
 replace HB := bth HB hq6
 obtain ⟨x0, x1, x2, x3, x4⟩ := hX.cs5
 clear z'; replace hZ := hZ.to hq6; have z' := hZ.cs5; have hx0 := hX.lt; have O2 := hO4.o2; have O3 := hO4.o3; have hap := O2.apart O3 (by decide); have hdl := O2.lt; have hdx := O2.nb hX
 have hdz : ∀ k, (Value.slice D2 ws.length d2).ownBlock = some k → k ≠ w.heap.size + 1 := fun k hk e => by have := (hdl k hk).1; have := szq1; omega
 have HO2 := lh O2; have HO3 := lh O3; have HX := lh hX; have HZ := lh hZ; have HAP := lh hap; have HDX := lh hdx; have HDZ := lh hdz; have HDL := lh hdl; have HHB := lh HB
 have hbase : w4.heap.size ≤ w8.heap.size := by omega
 clear OO hO4 O2 O3 hap hdx hdz hdl; have x3' := x3; clear x0 x1 x2 x3 x4 z'
 go_upto_region 5 with ((at_builtin; refine wpList_app1 rfl _ _ 26 rfl w4.heap.size 3 i0 _ 1 8 Tryz.underlying26 hi hz0 hz1 hz2 rfl (by decide) intC intC_len intC_one _ ws rfl (HO2.out.alloc _) ⟨w8.heap.size, 0, none⟩ 1 m rfl (Rds.one (f := intC) m _) (by unfold maxLen; omega) (by omega) (by simp; omega) ?_; intro v9 w9 hO9 hg9 ha9; have hX9 := ((HX.out.alloc (.cells #[.int .i64 m] 3)).grownN hg9 (fun e => HDX.out _ e.symm rfl)); clear ha9; obtain ⟨Y, yc, rfl, q1, q2, q3⟩ := hO9.form intC_len; clear q1 q2 q3; replace hO9 : OwnV w4.heap.size 3 1 intC w9 (.slice Y (ws.length + 1) yc) (ws ++ [m]) := (by rw [List.length_append] at hO9; exact hO9); have fz9 := hX9.frozen 3; have fc9 := (hX9.cell 3).trans (show _ = some (Value.slice D2 ws.length d2) from rfl)))
 have HB9 : Below w.heap.size w w9 := (HHB.out.alloc (by omega) (.cells #[.int .i64 m] 3)).grown hg9 (by simp; omega) (fun q hq => by have := (HDL.out q hq).1; omega); have hZ9 := (HZ.out.alloc (.cells #[.int .i64 m] 3)).grownN hg9 (fun e => HDZ.out _ e.symm rfl); have O3 := (HO3.out.alloc (.cells #[.int .i64 m] 3)).kept hg9 (fun k hk e => HAP.out k e.symm hk.symm); have O2 := hO9; have hdx := O2.nb hX9
 have h3x := O3.nb hX9; clear hX hZ hF hg9 hO9 fz9 fc9 x3'; replace HB := HB9; clear HB9; have z' := hZ9.cs5
 obtain ⟨x0, x1, x2, x3, x4⟩ := hX9.cs5
 have neO2 : ∀ k, (Value.slice Y (ws.length + 1) yc).ownBlock = some k → ¬ k = w5.heap.size := hdx; have neO3 : ∀ k, (Value.slice D3 sh.length d3).ownBlock = some k → ¬ k = w5.heap.size := h3x; clear z' x0 x1 x2 x3 x4
 refine st1 3 fun W10 tW10 => ?_
 replace HB := tW10.hc HB; replace hZ9 := tW10.fa hZ9; replace hX9 : Blk W10 (w5.heap.size) 29 #[.int .i64 tu, .int .i64 se, .int .i64 sp, .slice Y (ws.length + 1) yc, .slice D3 sh.length d3] := tW10.own hX9; replace O2 := O2.keptS tW10 neO2; replace O3 := O3.keptS tW10 neO3; have z' := hZ9.cs5
 obtain ⟨x0, x1, x2, x3, x4⟩ := hX9.cs5
 clear neO2 neO3
 have neO2 : ∀ k, (Value.slice Y (ws.length + 1) yc).ownBlock = some k → ¬ k = w.heap.size + 1 := fun k hk e => by have := (O2.lt k hk).1; omega
 have neO3 : ∀ k, (Value.slice D3 sh.length d3).ownBlock = some k → ¬ k = w.heap.size + 1 := fun k hk e => by have h := (O3.lt k hk).1; omega
 have fhZ90 := hZ9.frozen 0; have fhZ91 := hZ9.frozen 1; have fhZ92 := hZ9.frozen 2; have fhZ93 := hZ9.frozen 3; have fhZ94 := hZ9.frozen 4
 go_wp2
 clear z' x0 x1 x2 x3 x4
 refine st5 0 fun W11 tW11 => ?_
 replace HB := tW11.hc HB; replace hZ9 := tW11.all5 hZ9; replace hX9 := tW11.fa hX9; replace O2 := O2.keptS tW11 neO2; replace O3 := O3.keptS tW11 neO3; have z' := hZ9.cs5
 refine bodyPost_ret (v := .tuple #[.agg #[.int .i64 tu, .int .i64 se, .int .i64 sp, .slice Y (ws.length + 1) yc, .slice D3 sh.length d3], .bool true]) (by simp [results, Tryz.results156, go_sem, z']) rfl ?_
 have hlw : (ws ++ [m]).length = ws.length + 1 := by simp
 rw [hlw]
 exact ⟨Y, yc, D3, d3, rfl, ⟨by rw [hlw]; exact O2.base (by omega), O3.base (by omega), by rw [hlw]; exact O2.apart O3 (by decide)⟩, HB⟩
end Go.Proofs.YtjimibkgocieoaaGreat
