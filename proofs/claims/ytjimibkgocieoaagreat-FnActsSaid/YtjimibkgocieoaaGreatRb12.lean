/- Texts of the proof: walks of the functions, and what they compute. -/
import Derived.Test.YtjimibkgocieoaaGreatRb11
import Derived.Test.YtjimibkgocieoaaGreatRb0
import Derived.BigRegion
import Derived.Test.YtjimibkgocieoaaGreatRb3
set_option maxHeartbeats 16000000
set_option maxRecDepth 100000
namespace Go.Proofs.YtjimibkgocieoaaGreat
open Go.RowKit Go.G9
def spS0 (tu se sp st ss : Int) (ws : List Int) (sh : List Sha) : MkSpec ((Option Addr × Nat) × Nat × Nat) where
 par := fun _ => []
 val := fun n p => match n with
  | 1 => .agg #[.int .i64 tu, .int .i64 se, .int .i64 sp, .slice p.1.1 ws.length p.1.2, .slice (some ⟨p.2.1, 0, none⟩) sh.length p.2.2]
  | 5 => .agg #[.int .i64 sp, .int .i64 st, .int .i64 ss]
  | 6 => .pointer (some ⟨p.2.1, 0, none⟩)
  | 7 => .pointer (some ⟨p.2.1, 0, none⟩)
  | _ => undef
 post := fun n _ p V0 V => match n with
  | 1 => FlO V0.heap.size V p.1.1 p.1.2 (some ⟨p.2.1, 0, none⟩) p.2.2 ws sh
  | 6 => V0.heap.size = p.2.1 ∧ Blk V p.2.1 29 #[.int .i64 0, .int .i64 0, .int .i64 0, .slice none 0 0, .slice none 0 0]
  | 7 => V0.heap.size = p.2.1 ∧ Blk V p.2.1 144 #[.int .i64 0, .int .i64 0, .int .i64 0]
  | _ => True
theorem iSpeakF_is (tu se sp : Int) (A2 : Option Addr) (c2 : Nat) (ws : List Int) (A3 : Option Addr) (c3 : Nat) (sh : List Sha) (h2 : ws.length ≤ 1048576) (h3 : sh.length ≤ 1048576) (n2 : A2 = none → ws = [] ∧ c2 = 0) (n3 : A3 = none → sh = [] ∧ c3 = 0) (k2 : ws.length ≤ c2) (n : Int) (hv : spB ⟨tu, se, sp, ws, sh⟩ n = false) (w : World) (R2 : Rds 1 intC w A2 ws) (R3 : Rds 3 Sha.cells w A3 sh) :
 Calls Tryz.prog 170 #[.agg #[.int .i64 tu, .int .i64 se, .int .i64 sp, .slice A2 ws.length c2, .slice A3 sh.length c3], .int .i64 n] w fun e w' => e = .returned (.tuple #[.agg #[.int .i64 0, .int .i64 0, .int .i64 0, .slice none 0 0, .slice none 0 0], .int .i64 0, .bool false]) ∧ Below w.heap.size w w' := by

 have HR2 := lh R2; have HR3 := lh R3; clear R2 R3 n2 n3

 cases hf : floB tu se sp ws sh
 ·have HV := lh hf
  clear hf hv
  go_in
  go_upto_region 1 with fail
  refine lay2 fun wX hq1 hF hZ => ?_
  have HB := hq1; have f' := hF.cs5; have z' := hZ.cs5
  go_wp2_with fail
  refine (isValidFloor_is tu se sp A2 ws c2 A3 c3 sh h2 h3 k2 _ HV.out _ (HR2.out.below (bth HB bel)) (HR3.out.below (bth HB bel))).mono ?_
  rintro e w2 ⟨rfl, hb2⟩
  have hq2 := be wX hb2; replace HB := bth HB hq2; clear f'; replace hZ := hZ.to hq2; clear z'; have z' := hZ.cs5; have fhZ' := hZ.fz5
  go_wp2
  clear z'
  refine st5 0 fun W9 tW9 => ?_
  replace HB := tW9.hc HB; replace hZ := tW9.all5 hZ; have z' := hZ.cs5
  exact brt ⟨rfl, HB⟩ (by simp [results, Tryz.results170, go_sem, z'])
 ·cases hs : (sp == 0)
  case true =>
   have HV := lh hf; clear hf hv
   go_in
   go_upto_region 1 with fail
   refine lay2 fun wX hq1 hF hZ => ?_
   have HB := hq1; have f' := hF.cs5; have z' := hZ.cs5
   go_wp2_with fail
   refine (isValidFloor_is tu se sp A2 ws c2 A3 c3 sh h2 h3 k2 _ HV.out _ (HR2.out.below (bth HB bel)) (HR3.out.below (bth HB bel))).mono ?_
   rintro e w2 ⟨rfl, hb2⟩
   have hq2 := be wX hb2; replace HB := bth HB hq2; replace hF := hF.to hq2; clear f'; have f' := hF.cs5; replace hZ := hZ.to hq2; clear z'; have z' := hZ.cs5; have fhZ' := hZ.fz5
   go_wp2
   clear f' z'
   refine st5 0 fun W9 tW9 => ?_
   replace HB := tW9.hc HB; replace hZ := tW9.all5 hZ; have z' := hZ.cs5
   exact brt ⟨rfl, HB⟩ (by simp [results, Tryz.results170, go_sem, z'])
  case false =>
   have hi : inB n 1 3600 = false := by simpa [spB, Fl.ok, hf, hs] using hv
   have HV := lh hf; have HI := lh hi; clear hf hv hi
   go_in
   go_upto_region 1 with fail
   refine lay2 fun wX hq1 hF hZ => ?_
   have HB := hq1; have f' := hF.cs5; have z' := hZ.cs5
   go_wp2_with fail
   refine (isValidFloor_is tu se sp A2 ws c2 A3 c3 sh h2 h3 k2 _ HV.out _ (HR2.out.below (bth HB bel)) (HR3.out.below (bth HB bel))).mono ?_
   rintro e w2 ⟨rfl, hb2⟩
   have hq2 := be wX hb2; replace HB := bth HB hq2; replace hF := hF.to hq2; clear f'; have f' := hF.cs5; replace hZ := hZ.to hq2; clear z'; have z' := hZ.cs5
   go_wp2_with fail
   refine (inside_is n 1 3600 _ HI.out _).mono ?_
   rintro e w0 ⟨rfl, h0⟩
   rw [h0]
   clear h0 w0; have fhZ' := hZ.fz5
   go_wp2
   clear f' z'
   refine st5 0 fun W9 tW9 => ?_
   replace HB := tW9.hc HB; replace hZ := tW9.all5 hZ; have z' := hZ.cs5
   exact brt ⟨rfl, HB⟩ (by simp [results, Tryz.results170, go_sem, z'])
theorem zb40 {p : Prop} (h : p := by
 have e0 : (spS ⟨tu, se, s0m, ws, sh⟩ n).secs = (⟨tu, se, s0m, ws, sh⟩ : Fl).se := by rw [ES.out]; exact hfull
 have e2 : spG ⟨tu, se, s0m, ws, sh⟩ n = ⟨tu, se, s0m, ws, setSh sh ⟨s0m, st, ss + u⟩⟩ := by simp only [spG]; rw [ES.out]
 rw [spF, if_pos e0, e2]
 refine ⟨rfl, ?_⟩
 have e3 : yldS ⟨tu, se, s0m, ws, setSh sh ⟨s0m, st, ss + u⟩⟩ = ⟨s0m, st + 1, ss + u⟩ := by simp only [yldS]; rw [HSF.out]
 simp only [yldF]; rw [e3]) : p := h
theorem zb104 {p : Prop} (h : p := by
 have e0 : ¬ (spS ⟨tu, se, s0m, ws, sh⟩ n).secs = (⟨tu, se, s0m, ws, sh⟩ : Fl).se := by rw [ES.out]; exact hfull
 rw [spF, if_neg e0]
 refine ⟨rfl, ?_⟩
 simp only [spG]; rw [ES.out]) : p := h
theorem iSpeakT_is (tu se sp : Int) (A2 : Option Addr) (c2 : Nat) (ws : List Int) (A3 : Option Addr) (c3 : Nat) (sh : List Sha) (h2 : ws.length ≤ 1048576) (h3 : sh.length ≤ 1048576) (n2 : A2 = none → ws = [] ∧ c2 = 0) (n3 : A3 = none → sh = [] ∧ c3 = 0) (k2 : ws.length ≤ c2) (n : Int) (hv : spB ⟨tu, se, sp, ws, sh⟩ n = true) (w : World) (R2 : Rds 1 intC w A2 ws) (R3 : Rds 3 Sha.cells w A3 sh) :
 Calls Tryz.prog 170 #[.agg #[.int .i64 tu, .int .i64 se, .int .i64 sp, .slice A2 ws.length c2, .slice A3 sh.length c3], .int .i64 n] w fun e w' => ∃ D2 d2 D3 d3, e = .returned (.tuple #[.agg #[.int .i64 tu, .int .i64 se, .int .i64 (spF ⟨tu, se, sp, ws, sh⟩ n).sp, .slice D2 ws.length d2, .slice D3 (spF ⟨tu, se, sp, ws, sh⟩ n).sh.length d3], .int .i64 (spU ⟨tu, se, sp, ws, sh⟩ n), .bool true]) ∧ FlO w.heap.size w' D2 d2 D3 d3 ws (spF ⟨tu, se, sp, ws, sh⟩ n).sh ∧ Below w.heap.size w w' := by

 have HR2 := lh R2; have HR3 := lh R3; have HN2 := lh n2; have HN3 := lh n3; clear R2 R3 n2 n3

 obtain ⟨hok, hs0, hn1, hn2⟩ := spB_parts hv
 have hs : (sp == 0) = false := beq_eq_false_iff_ne.2 hs0; have hlen := flo_len hok
 obtain ⟨hp1, hp2, hp3⟩ := ok_share hok hs0
 have htu := (fl_ok.1 hok).t; have hse := (fl_ok.1 hok).s
 obtain ⟨hq1, hq2, hq3⟩ := shaOk_iff.1 hp2
 have hmem := shareF_mem (xs := sh) (m := sp); have hord := (fl_ok.1 hok).ord
 obtain ⟨⟨s0m, st, ss⟩, hsh⟩ : ∃ x, shareF sh sp = x := ⟨_, rfl⟩
 simp only at hp3 hq2 hq3 hord
 rw [hsh] at hp3 hq2 hq3 hmem
 simp only at hp3 hq2 hq3 hmem htu hse
 have hshm := hsh
 subst hmem
 obtain ⟨u, hu⟩ : ∃ u, u = (if n < se - ss then n else se - ss) := ⟨_, rfl⟩
 have eu : spU ⟨tu, se, s0m, ws, sh⟩ n = u := by simp [spU, hsh, hu]
 have hu1 : 0 ≤ u ∧ u ≤ se - ss := by rw [hu]; split <;> omega
 have eS : spS ⟨tu, se, s0m, ws, sh⟩ n = ⟨s0m, st, ss + u⟩ := by simp [spS, hsh, eu]
 rw [eu]
 have HV : Hid (floB tu se s0m ws sh = true) := lh hok; have HI : Hid (inB n 1 3600 = true) := lh (inB_iff.2 ⟨hn1, hn2⟩); have HSH := lh hsh; have ES := lh eS; have HU := lh hu
 have hshl : sh.length ≤ 1048574 := by simp only at hlen; omega
 have hset : (setSh sh ⟨s0m, st, ss + u⟩).length ≤ 1048575 := by have := setSh_len sh ⟨s0m, st, ss + u⟩; omega
 have hsf : shareF (setSh sh ⟨s0m, st, ss + u⟩) s0m = ⟨s0m, st, ss + u⟩ := by rw [setSh_share s0m hord, if_pos rfl]
 have HSF := lh hsf; have HSET := lh hset; clear hok hv hp1 hp2 hq1 hsh hlen hshm hord eS hsf hset hs0 hu eu hn1 hn2
 go_in
 go_upto_region 1 with fail
 refine lay2 fun wX hq1 hF hZ => ?_
 have HB := hq1; have f' := hF.cs5
 obtain ⟨z0, z1, z2, z3, z4⟩ := hZ.cs5
 have hz0' := hZ.lt
 go_wp2_with fail
 refine (isValidFloor_is tu se s0m A2 ws c2 A3 c3 sh h2 h3 k2 _ HV.out _ (HR2.out.below (bth HB bel)) (HR3.out.below (bth HB bel))).mono ?_
 rintro e w2 ⟨rfl, hb2⟩
 have hq2 := be wX hb2; replace HB := bth HB hq2; replace hF := hF.to hq2; clear f'; have f' := hF.cs5; replace hZ := hZ.to hq2; clear z0 z1 z2 z3 z4
 obtain ⟨z0, z1, z2, z3, z4⟩ := hZ.cs5
 go_wp2_with fail
 refine (inside_is n 1 3600 _ HI.out _).mono ?_
 rintro e w0 ⟨rfl, h0⟩
 rw [h0]
 clear h0 w0; have szq := hq2.size
 go_upto_region 3 with fail
 have hHB0 := HB
 obtain ⟨CC3, hCC3⟩ : ∃ X : World → Prop, ∀ V, X V ↔ (Below w.heap.size w V ∧ Blk V (w.heap.size) 29 #[.int .i64 tu, .int .i64 se, .int .i64 s0m, .slice A2 ws.length c2, .slice A3 sh.length c3]) := ⟨_, fun _ => Iff.rfl⟩
 have HCC3 := lh hCC3; clear hCC3
 haveI : Nonempty (Hld CC3) := ⟨⟨w2, ((HCC3.out _).2 ⟨HB, hF⟩)⟩⟩
 clear f'; clear z0 z1 z2 z3 z4; have f' := Blk.cs5K (fun K : Hld CC3 => ((HCC3.out _).1 K.holds).2)
 go_wp2
 refine wp_region_mk (spS0 tu se s0m st ss ws sh) CC3 [([0], 1), ([2, 3, 4], 5), ([], 6), ([], 7)] [] [([], 8), ([], 9)] [] (by kernel_rfl) (by kernel_rfl) ((HCC3.out _).2 ⟨HB.drew, hF⟩) (fun W W' h k => ((HCC3.out _).2 ⟨((HCC3.out _).1 h).1.trans (k.mono ((HCC3.out _).1 h).1.size), ((HCC3.out _).1 h).2.below k ((HCC3.out _).1 h).2.lt⟩)) ?_
 intro σ
 refine wpMk1_cons (some 25) rfl (.agg #[.int .i64 tu, .int .i64 se, .int .i64 s0m, .slice (σ 1).1.1 ws.length (σ 1).1.2, .slice (some ⟨(σ 1).2.1, 0, none⟩) sh.length (σ 1).2.2]) rfl fun K1 hK1 => ?_
 change wpQuiet _ _ _ _ (_ :: []) _
 repeat (go_big_quiet_step (fail))
 refine wpQuiet_nil ?_
 refine ⟨fun k hpar => ?_, hK1 _ ?_⟩
 ·change wpList _ _ _ (_ :: []) _ _
  go_wp2_with fail
  refine (newFloor_is tu se s0m A2 c2 ws A3 c3 sh h2 h3 HN2.out HN3.out _ (HR2.out.below ((HCC3.out _).1 k.holds).1) (HR3.out.below ((HCC3.out _).1 k.holds).1)).mono ?_
  rintro e w9 ⟨D2, d2, g3, d3, rfl, OO, hb9⟩
  go_wp2
  exact Nrm_mk ⟨((D2, d2), g3, d3), rfl, hb9, OO⟩
 simp only [Act.put]
 go_simp
 refine wpMk1_cons (some 29) rfl (.agg #[.int .i64 s0m, .int .i64 st, .int .i64 ss]) rfl fun K1 hK1 => ?_
 change wpQuiet _ _ _ _ (_ :: _ :: _ :: []) _
 repeat (go_big_quiet_step (fail))
 refine wpQuiet_nil ?_
 refine ⟨fun k hpar => ?_, hK1 _ ?_⟩
 ·change wpList _ _ _ (_ :: []) _ _
  go_wp2_with fail
  refine (shareOf_is tu se s0m A2 ws.length c2 A3 c3 sh h3 s0m ⟨s0m, st, ss⟩ HSH.out _ (HR3.out.below ((HCC3.out _).1 k.holds).1)).mono ?_
  rintro e w9 ⟨rfl, hb9⟩
  go_wp2
  exact Nrm_mk ⟨((none, 0), 0, 0), rfl, hb9, trivial⟩
 simp only [Act.put]
 go_simp
 refine wpMk1_cons (some 7) rfl (.pointer (some ⟨(σ 6).2.1, 0, none⟩)) rfl fun K1 hK1 => ?_
 change wpQuiet _ _ _ _ ([]) _
 refine wpQuiet_nil ?_
 refine ⟨fun k hpar => ?_, hK1 _ ?_⟩
 ·change wpList _ _ _ (_ :: []) _ _
  go_wp2
  exact Nrm_mk ⟨((none, 0), k.world.heap.size, 0), rfl, bl1 _ _, rfl, Blk.new _ _ _⟩
 simp only [Act.put]
 go_simp
 refine wpMk1_cons (some 8) rfl (.pointer (some ⟨(σ 7).2.1, 0, none⟩)) rfl fun K1 hK1 => ?_
 change wpQuiet _ _ _ _ ([]) _
 refine wpQuiet_nil ?_
 refine ⟨fun k hpar => ?_, hK1 _ ?_⟩
 ·change wpList _ _ _ (_ :: []) _ _
  go_wp2
  exact Nrm_mk ⟨((none, 0), k.world.heap.size, 0), rfl, bl1 _ _, rfl, Blk.new _ _ _⟩
 simp only [Act.put]
 go_simp
 refine wpMk1_last ?_
 change wpQuiet _ _ _ _ ([]) _
 refine wpQuiet_nil ?_
 intro V0 V W hM hW
 have hP1 : FlO (V0 1).heap.size (V 1) (σ 1).1.1 (σ 1).1.2 (some ⟨(σ 1).2.1, 0, none⟩) (σ 1).2.2 ws sh := hM.post 1 (by simp)
 obtain ⟨hg6, hG6⟩ : (V0 6).heap.size = (σ 6).2.1 ∧ Blk (V 6) (σ 6).2.1 29 #[.int .i64 0, .int .i64 0, .int .i64 0, .slice none 0 0, .slice none 0 0] := hM.post 6 (by simp)
 obtain ⟨hg7, hG7⟩ : (V0 7).heap.size = (σ 7).2.1 ∧ Blk (V 7) (σ 7).2.1 144 #[.int .i64 0, .int .i64 0, .int .i64 0] := hM.post 7 (by simp)
 have z6 : w2.heap.size ≤ (σ 6).2.1 := hg6 ▸ (hM.from0 6 (by simp)).size; have z7 : w2.heap.size ≤ (σ 7).2.1 := hg7 ▸ (hM.from0 7 (by simp)).size
 have hgs0 : (σ 7).2.1 ≠ (σ 1).2.1 := by
  have a1 := hM.apart 1 (by simp) 7 (by simp) (by decide); have a2 := hP1.o3.lt (σ 1).2.1 rfl; have a3 := hG7.lt
  omega
 have OO := (hP1.later (hM.later 1 (by simp))).base (B' := w2.heap.size) (hM.from0 1 (by simp)).size; have hX := hG6.below (hM.later 6 (by simp)) hG6.lt; have hS := hG7.below (hM.later 7 (by simp)) hG7.lt; clear f'; have hq4 : Below w2.heap.size w2 W := bth bel (hM.whole 1 (by simp)).undrew; replace HB := bth HB hq4; replace hF := hF.to hq4; have f' := hF.cs5; replace hZ := hZ.to hq4
 obtain ⟨z0, z1, z2, z3, z4⟩ := hZ.cs5
 clear hM hP1 hg6 hG6 hg7 hG7 hW
 generalize σ 1 = p1 at *
 generalize σ 6 = p6 at *
 generalize σ 7 = p7 at *
 obtain ⟨⟨D2, d2⟩, g3, d3⟩ := p1
 obtain ⟨_, x, _⟩ := p6
 obtain ⟨_, s, _⟩ := p7
 simp only at OO hX hS z6 z7 hgs0
 have hgs : s ≠ g3 := hgs0; clear hgs0
 have hxs : x ≠ s := by
  rintro rfl
  unfold Blk at hX hS
  rw [hX] at hS
  injection hS with hS
  injection hS with _ h9 _
  exact absurd h9 (by decide)
 have hxg : x ≠ g3 := OO.o3.notBlk hX (by decide)
 have hsD : ∀ k, (Value.slice D2 ws.length d2).ownBlock = some k → k ≠ x ∧ k ≠ s := fun k hk => by
  obtain ⟨_, g, e, hg⟩ : ∃ (c : Unit) (g : Nat), D2 = some ⟨g, 0, none⟩ ∧ g = k := by
   rcases OO.o2.2 with ⟨e1, _⟩ | ⟨g', cap, cur, e1, _⟩
   ·injection e1 with e2 _ _; subst e2; cases hk
   ·injection e1 with e2 _ _; subst e2; exact ⟨(), g', rfl, Option.some.inj hk⟩
  subst hg
  have OO2 := OO.o2
  rw [e] at OO2
  exact ⟨fun e9 => OO2.notBlk hX (by decide) e9.symm, fun e9 => OO2.notBlk hS (by decide) e9.symm⟩
 have HSD := lh hsD; clear hsD; have O2 := OO.o2; have O3 := OO.o3; clear OO; have x' := hX.cs5; have s' := hS.cs3
 refine wpMix_cons fun K2 hK2 => ?_
 change wpQuiet _ _ _ _ ([]) _
 refine wpQuiet_nil ?_
 change wpList _ _ _ (_ :: []) _ _
 have fhX' := hX.fz5
 go_wp2
 clear fhX'
 have neO2 : ∀ k, (Value.slice D2 ws.length d2).ownBlock = some k → ¬ k = x := fun k hk => (HSD.out k hk).1
 have neO3 : ∀ k, (Value.slice (some ⟨g3, 0, none⟩) sh.length d3).ownBlock = some k → ¬ k = x := fun k hk e => hxg (by have : g3 = k := Option.some.inj hk; omega)
 clear f' z0 z1 z2 z3 z4 x' s'
 refine st5 0 fun W3 tW3 => ?_
 replace HB := tW3.hc HB; replace hF := tW3.fa hF; replace hZ := tW3.fa hZ; replace hX := tW3.all5 hX; replace hS := tW3.fa hS; replace O2 := O2.keptS tW3 neO2; replace O3 := O3.keptS tW3 neO3; have f' := hF.cs5
 obtain ⟨z0, z1, z2, z3, z4⟩ := hZ.cs5
 have x' := hX.cs5; have s' := hS.cs3; clear neO2 neO3
 refine Nrm_intro (((HCC3.out _).2 ⟨HB, hF⟩)) (hK2 _ _ ?_)
 refine wpMix_cons fun K2 hK2 => ?_
 change wpQuiet _ _ _ _ ([]) _
 refine wpQuiet_nil ?_
 change wpList _ _ _ (_ :: []) _ _
 obtain ⟨fhS0, fhS1, fhS2⟩ := hS.fz3
 go_wp2
 clear fhS0 fhS1 fhS2
 have neO2 : ∀ k, (Value.slice D2 ws.length d2).ownBlock = some k → ¬ k = s := fun k hk => (HSD.out k hk).2
 have neO3 : ∀ k, (Value.slice (some ⟨g3, 0, none⟩) sh.length d3).ownBlock = some k → ¬ k = s := fun k hk e => hgs (by have : g3 = k := Option.some.inj hk; omega)
 clear f' z0 z1 z2 z3 z4 x' s'
 refine st3 0 fun W4 tW4 => ?_
 replace HB := tW4.hc HB; replace hF := tW4.fa hF; replace hZ := tW4.fa hZ; replace hX := tW4.fa hX; replace hS := tW4.all3 hS; replace O2 := O2.keptS tW4 neO2; replace O3 := O3.keptS tW4 neO3; have f' := hF.cs5
 obtain ⟨z0, z1, z2, z3, z4⟩ := hZ.cs5
 have x' := hX.cs5; have s' := hS.cs3; clear neO2 neO3
 refine Nrm_intro (((HCC3.out _).2 ⟨HB, hF⟩)) (hK2 _ _ ?_)
 refine wpMix_last ?_
 change wpQuiet _ _ _ _ ([]) _
 refine wpQuiet_nil ?_
 go_upto_region 5 with fail
 have hmin : min n (se - ss) = u := by
  rw [HU.out]
  by_cases hc : n < se - ss
  ·rw [if_pos hc]; omega
  ·rw [if_neg hc]; omega
 rw [hmin]
 clear hmin
 have hw1 : IntKind.i64.wrap (ss + u) = ss + u := by rw [IntKind.wrap_i64]; omega
 have fhS2 := hS.frozen 2
 go_upto_region 6 with fail
 clear fhS2
 have neO2 : ∀ k, (Value.slice D2 ws.length d2).ownBlock = some k → ¬ k = s := fun k hk => (HSD.out k hk).2
 have neO3 : ∀ k, (Value.slice (some ⟨g3, 0, none⟩) sh.length d3).ownBlock = some k → ¬ k = s := fun k hk e => hgs (by have : g3 = k := Option.some.inj hk; omega)
 clear f' z0 z1 z2 z3 z4 x' s'
 refine st1 2 fun W5 tW5 => ?_
 replace HB := tW5.hc HB; replace hF := tW5.fa hF; replace hZ := tW5.fa hZ; replace hX := tW5.fa hX; replace hS : Blk W5 (s) 144 #[.int .i64 s0m, .int .i64 st, .int .i64 (ss + u)] := tW5.own hS; replace O2 := O2.keptS tW5 neO2; replace O3 := O3.keptS tW5 neO3; have f' := hF.cs5
 obtain ⟨z0, z1, z2, z3, z4⟩ := hZ.cs5
 have x' := hX.cs5; have s' := hS.cs3; clear neO2 neO3 hw1; have szc := HB.size; have yx5 := hX.lt; have hap := O2.apart O3 (by decide); have hgg := (O3.lt g3 rfl).1; have hsw : w.heap.size ≤ w2.heap.size := hHB0.size
 have hsc : w2.heap.size ≤ W5.heap.size := by omega
 have HX := lh hX; have HO3 := lh O3; have HO2 := lh O2; have HF5 := lh hF; have HZ5 := lh hZ; have HS5 := lh hS; have HAP := lh hap; have HB5 := lh HB; clear hX O3 O2 hF hZ hap x' f' z0 z1 z2 z3 z4
 go_wp2_with fail
 refine (setShare_is w2.heap.size x tu se s0m (.slice D2 ws.length d2) g3 d3 sh (by omega) s0m st (ss + u) ⟨s0m, st, ss + u⟩ rfl _ z6 hsc hxg HX.out HO3.out).mono ?_
 rintro e w6 ⟨rfl, g5, c5, wq, hg1, hg2, hX6, hO6, hpg6⟩
 have hF6 := (HF5.out.grownN hg1 (by intro e; have := Option.some.inj e; omega)).grownN hg2 (by intro e; have := Option.some.inj e; omega); have hZ6 := (HZ5.out.grownN hg1 (by intro e; have := Option.some.inj e; omega)).grownN hg2 (by intro e; have := Option.some.inj e; omega); have hS6 := (HS5.out.grownN hg1 (by intro e; exact hgs (Option.some.inj e))).grownN hg2 (by intro e; exact hxs (Option.some.inj e).symm)
 have hO2 := (HO2.out.kept hg1 (fun k hk e => HAP.out k hk (by rw [e]; rfl))).kept hg2 (fun k hk e => (HSD.out k hk).1 (Option.some.inj e)); have HB6 : Below w.heap.size w w6 := (HB5.out.grown hg1 (by omega) (fun k hk => by have := Option.some.inj hk; omega)).grown hg2 (by have := hg1.size; omega) (fun k hk => by have := Option.some.inj hk; omega); clear hg1 hg2 hS s'; replace HB := HB6; clear HB6
 have f' := hF6.cs5
 obtain ⟨z0, z1, z2, z3, z4⟩ := hZ6.cs5
 have x' := hX6.cs5; have s' := hS6.cs3; have yhZ6 := hZ6.lt; have yhS6 := hS6.lt; have O2 := hO2; have O3 := hO6; clear hO2 hO6
 by_cases hfull : ss + u = se
 ·have hfb : (ss + u == se) = true := beq_iff_eq.2 hfull
  have e1 : (spF ⟨tu, se, s0m, ws, sh⟩ n).sp = 0 ∧ (spF ⟨tu, se, s0m, ws, sh⟩ n).sh = setSh (setSh sh ⟨s0m, st, ss + u⟩) ⟨s0m, st + 1, ss + u⟩ := by
   exact zb40
  have HE1 := lh e1; have HX6 := lh hX6; have HO3' := lh O3; have HO2' := lh O2; have HZ7 := lh hZ6; have HAP2 := lh (O2.apart O3 (by decide)); have HB7 := lh HB; have hg56 := (O3.lt g5 rfl).1; clear e1 hfull
  go_upto_region 8 with fail
  clear hX6 O3 O2 hZ6 hF6 hS6 f' z0 z1 z2 z3 z4 x' s'
  go_wp2_with fail
  refine (yield_is w2.heap.size x tu se s0m D2 ws.length d2 g5 c5 (setSh sh ⟨s0m, st, ss + u⟩) HSET.out st (ss + u) HSF.out (by omega) (by omega) _ z6 (by omega) HX6.out HO3'.out).mono ?_
  rintro e w8 ⟨rfl, g7, c7, wr, hg1, hg2, hX8, hO8, hpg8⟩
  have hZ8 := (HZ7.out.grownN hg1 (by intro e; have := Option.some.inj e; omega)).grownN hg2 (by intro e; have := Option.some.inj e; omega); have hO2 := (HO2'.out.kept hg1 (fun k hk e => HAP2.out k hk (by rw [e]; rfl))).kept hg2 (fun k hk e => (HSD.out k hk).1 (Option.some.inj e)); have HB8 : Below w.heap.size w w8 := (HB7.out.grown hg1 (by omega) (fun k hk => by have := Option.some.inj hk; omega)).grown hg2 (by have := hg1.size; omega) (fun k hk => by have := Option.some.inj hk; omega)
  replace HB := HB8; clear HB8
  obtain ⟨z0, z1, z2, z3, z4⟩ := hZ8.cs5
  have x' := hX8.cs5; have O2 := hO2; have O3 := hO8; clear hO2 hO8; have fhZ80 := hZ8.frozen 0; have fhZ81 := hZ8.frozen 1; have fhZ82 := hZ8.frozen 2; have fhZ83 := hZ8.frozen 3; have fhZ84 := hZ8.frozen 4
  go_wp2
  clear z0 z1 z2 z3 z4 x'
  refine st5 0 fun W9 tW9 => ?_
  replace HB := tW9.hc HB; replace hZ8 := tW9.all5 hZ8; replace O2 := O2.keptS tW9 (fun k hk => by first | exact neO2 k hk | (have := O2.lt k hk; omega)); replace O3 := O3.keptS tW9 (fun k hk => by first | exact neO3 k hk | (have := O3.lt k hk; omega))
  obtain ⟨z0, z1, z2, z3, z4⟩ := hZ8.cs5
  refine bodyPost_ret (v := .tuple #[.agg #[.int .i64 tu, .int .i64 se, .int .i64 0, .slice D2 ws.length d2, .slice (some ⟨g7, 0, none⟩) (setSh (setSh sh ⟨s0m, st, ss + u⟩) ⟨s0m, st + 1, ss + u⟩).length c7], .int .i64 u, .bool true]) (by simp [results, Tryz.results170, go_sem, z0, z1, z2, z3, z4]) rfl ?_
  rw [HE1.out.1, HE1.out.2]
  exact ⟨D2, d2, some ⟨g7, 0, none⟩, c7, rfl, ⟨O2.base (by omega), O3.base (by omega), O2.apart O3 (by decide)⟩, HB⟩
 ·have hfb : (ss + u == se) = false := beq_eq_false_iff_ne.2 hfull
  have e1 : (spF ⟨tu, se, s0m, ws, sh⟩ n).sp = s0m ∧ (spF ⟨tu, se, s0m, ws, sh⟩ n).sh = setSh sh ⟨s0m, st, ss + u⟩ := by
   exact zb104
  have HE1 := lh e1; clear e1 hfull; have fhZ60 := hZ6.frozen 0; have fhZ61 := hZ6.frozen 1; have fhZ62 := hZ6.frozen 2; have fhZ63 := hZ6.frozen 3; have fhZ64 := hZ6.frozen 4
  go_wp2
  clear f' z0 z1 z2 z3 z4 x' s'
  refine st5 0 fun W9 tW9 => ?_
  replace HB := tW9.hc HB; replace hZ6 := tW9.all5 hZ6; replace O2 := O2.keptS tW9 (fun k hk => by first | exact neO2 k hk | (have := O2.lt k hk; omega)); replace O3 := O3.keptS tW9 (fun k hk => by first | exact neO3 k hk | (have := O3.lt k hk; omega))
  obtain ⟨z0, z1, z2, z3, z4⟩ := hZ6.cs5
  refine bodyPost_ret (v := .tuple #[.agg #[.int .i64 tu, .int .i64 se, .int .i64 s0m, .slice D2 ws.length d2, .slice (some ⟨g5, 0, none⟩) (setSh sh ⟨s0m, st, ss + u⟩).length c5], .int .i64 u, .bool true]) (by simp [results, Tryz.results170, go_sem, z0, z1, z2, z3, z4]) rfl ?_
  rw [HE1.out.1, HE1.out.2]
  exact ⟨D2, d2, some ⟨g5, 0, none⟩, c5, rfl, ⟨O2.base (by omega), O3.base (by omega), O2.apart O3 (by decide)⟩, HB⟩
open Go.RowKit Go.G9 Go.Sort
theorem isNaNz_is (a : Int) (w : World) : Calls Tryz.prog 211 #[.int .i64 a] w fun e w' => e = .returned (.bool false) ∧ w' = w := by
 have h0 : (a != a) = false := by simp
 go_in
 go_wp2
 go_ret
 exact ⟨by first | rfl | (refine ret_bool ?_; simp), rfl⟩
theorem zb85 {p : Prop} (h : p := by
 go_in
 go_wp2_with fail
 refine (isNaNz_is a _).mono ?_
 rintro e w0 ⟨rfl, h0⟩
 rw [h0]
 clear h0 w0
 go_wp2_with fail
 refine (isNaNz_is b _).mono ?_
 rintro e w0 ⟨rfl, h0⟩
 rw [h0]
 clear h0 w0
 go_wp2
 go_ret
 exact ⟨rfl, rfl⟩) : p := h
theorem compareZ_is (a b v : Int) (hv : cmpZ a b = v) (w : World) : Calls Tryz.prog 206 #[.int .i64 a, .int .i64 b] w fun e w' => e = .returned (.int .i64 v) ∧ w' = w := by
 subst hv
 unfold cmpZ
 by_cases h1 : a < b
 ·rw [if_pos h1]
  exact zb85
 ·rw [if_neg h1]
  by_cases h2 : b < a
  ·rw [if_pos h2]
   exact zb85
  ·rw [if_neg h2]
   exact zb85
theorem cpIntsH_is (A : Option Addr) (c : Nat) (xs : List Int) (hn : xs.length ≤ 1048576) (hA : A = none → xs = [] ∧ c = 0) (w : World) (hR : Rds 1 intC w A xs) :
 Calls Tryz.prog 188 #[.slice A xs.length c] w fun e w' => ∃ g' c', e = .returned (.slice (some ⟨g', 0, none⟩) xs.length c') ∧ OwnV w.heap.size 3 1 intC w' (.slice (some ⟨g', 0, none⟩) xs.length c') xs ∧ Below w.heap.size w w' := by
 obtain ⟨i0, hi, hz0, hz1, hz2⟩ := info_parts info_int
 have HR := lh (fun e => (hR.below (bl1 w (.cells #[] e))) : ∀ e : TypeId, Rds 1 intC (w.alloc (.cells #[] e)) A xs); clear hR
 go_in
 go_wp2_with ((at_builtin; refine wpList_appO rfl _ _ 26 rfl w.heap.size 3 i0 _ 1 8 Tryz.underlying26 hi hz0 hz1 hz2 rfl (by decide) intC intC_len intC_one w.heap.size rfl (Blk.new _ _ _) (Nat.le_refl _) A c xs rfl (HR.out _) hA (by unfold maxLen; omega) (by omega) ?_; intro g' c' w1 hO hb))
 go_ret
 exact ⟨g', c', rfl, hO, bth (bl1 _ _) hb⟩
theorem grownZ_put {T : Type} [Inhabited T] {enc : T → Value} {w : World} {g o q : Nat} {d : Array T} {os : Array Obj} : w.grownBy (grow (putRow enc (Sort.ahead w q) g o d) os) (some g) := by
 refine ⟨rfl, rfl, rfl, by simp, fun k hk hne => ?_⟩
 rw [heap_grow_old _ _ (by simpa using hk)]
 have : g ≠ k := fun e => hne (by rw [e])
 simp [putRow, mapBlock, Sort.ahead, Array.getElem?_modify, this]
theorem withF_is (bx : Nat) (n x : Int) (w : World) (hB : w.cell? ⟨bx, 0, none⟩ = some (.int .i64 n)) : Calls Tryz.prog 208 #[.int .i64 x, .pointer (some ⟨bx, 0, none⟩)] w fun e w' => e = .returned (.bool (x == n)) ∧ w' = w := by
 go_in
 go_wp2
 go_ret
 exact ⟨rfl, rfl⟩
theorem delWith_is (B g cap bx : Nat) (n : Int) (ls : List Int) (hl : ls.length ≤ 1048576) (w : World) (hO : OwnV B 3 1 intC w (.slice (some ⟨g, 0, none⟩) ls.length cap) ls) (hB : w.cell? ⟨bx, 0, none⟩ = some (.int .i64 n)) (hbl : bx < w.heap.size) (hbx : bx ≠ g) :
 Calls Tryz.prog 207 #[.slice (some ⟨g, 0, none⟩) ls.length cap, .func (.func 208) #[] #[.pointer (some ⟨bx, 0, none⟩)]] w fun e w' =>
  e = .returned (.slice (some ⟨g, 0, none⟩) (ls.filter fun x => !(x == n)).length cap) ∧ OwnV B 3 1 intC w' (.slice (some ⟨g, 0, none⟩) (ls.filter fun x => !(x == n)).length cap) (ls.filter fun x => !(x == n)) ∧ w.grownBy w' (some g) := by
 have hO' : OwnV B 3 1 (fun x => [Value.int .i64 x]) w (.slice (some ⟨g, 0, none⟩) ls.length cap) ls := hO
 obtain ⟨h1, h2, h3, h4⟩ := own_holds hO'
 have hcl : ∀ W, w.grownBy W (some g) → W.cell? ⟨bx, 0, none⟩ = some (.int .i64 n) := fun W hW => (World.cell?_of_block (a := ⟨bx, 0, none⟩) (hW.block bx hbl (fun e => hbx (Option.some.inj e)))).trans hB
 have hp : PredAt Tryz.prog 208 #[.pointer (some ⟨bx, 0, none⟩)] (Value.int .i64) (fun x => x == n) w := fun W x hW =>
  (withF_is bx n x W (hcl W (bgr hW _))).mono fun e w' ⟨he, hw⟩ => ⟨he, 0, hw⟩
 have hpo : PredOver Tryz.prog 208 #[.pointer (some ⟨bx, 0, none⟩)] (Value.int .i64) (fun x => x == n) g 0 ls.toArray.size w := fun q os dk x hk =>
  (withF_is bx n x _ (hcl _ grownZ_put)).mono fun e w' ⟨he, hw⟩ => ⟨he, 0, hw⟩
 have h := Tryz.slices_DeleteFunc (Value.int .i64) (fun _ => rfl) (fun x => x == n) 208 #[.pointer (some ⟨bx, 0, none⟩)] (enters_of Tryz.func208 (by kernel_rfl) rfl) 0 Tryz.zeroValue3 g 0 cap ls.toArray w hp hpo h1 (by simp; omega) (by simpa using h3)
 rw [List.size_toArray] at h
 refine h.mono ?_
 rintro e w' ⟨rfl, q, rfl⟩
 have hle : (ls.filter fun x => !(x == n)).length ≤ ls.length := List.length_filter_le _ _; have h5 := own_put (q := q) (os := #[]) (ys := (ls.filter fun x => !(x == n)) ++ List.replicate (ls.length - (ls.filter fun x => !(x == n)).length) 0) hO' (by rw [List.length_append, List.length_replicate]; omega) hle
 rw [List.take_left' rfl, grow_empty] at h5
 exact ⟨rfl, h5⟩
theorem without_is (A : Option Addr) (c : Nat) (xs : List Int) (hn : xs.length ≤ 1048576) (hA : A = none → xs = [] ∧ c = 0) (n : Int) (w : World) (hR : Rds 1 intC w A xs) :
 Calls Tryz.prog 198 #[.slice A xs.length c, .int .i64 n] w fun e w' => ∃ g' c', e = .returned (.slice (some ⟨g', 0, none⟩) (xs.filter fun x => !(x == n)).length c') ∧ OwnV w.heap.size 3 1 intC w' (.slice (some ⟨g', 0, none⟩) (xs.filter fun x => !(x == n)).length c') (xs.filter fun x => !(x == n)) ∧ Below w.heap.size w w' := by
 have HR := lh hR; have HN := lh hA; clear hR hA
 go_in
 go_upto_region 1 with fail
 refine lay1 fun wX hq1 hB => ?_
 have HB := hq1; have b0 := (hB.cell 0).trans (show _ = some (.int .i64 n) from rfl); have hb0' := hB.lt
 go_wp2_with fail
 refine (cpIntsH_is A c xs hn HN.out _ (HR.out.below (bth HB bel))).mono ?_
 rintro e w2 ⟨g1, c1, rfl, O1, hb2⟩
 have hq2 := be wX hb2; replace HB := bth HB hq2; replace hB := hB.to hq2; replace b0 := (hB.cell 0).trans (show _ = some (.int .i64 n) from rfl); have hg1 := (O1.lt g1 rfl).1; have hl := hB.lt; have HO1 := lh O1; have HB1 := lh hB; have HHB := lh HB; have szq := hq2.size; clear O1 hB
 go_wp2_with fail
 refine (delWith_is wX.heap.size g1 c1 w.heap.size n xs hn _ HO1.out b0 hl (by omega)).mono ?_
 rintro e w3 ⟨rfl, O3, hg3⟩
 have HB3 : Below w.heap.size w w3 := HHB.out.grown hg3 (HHB.out.size) (fun k hk => by have := Option.some.inj hk; omega); clear b0
 go_wp2
 go_ret
 exact ⟨g1, c1, rfl, O3.base (by omega), HB3⟩
theorem spoF_is (bx : Nat) (tu se sp : Int) (A2 : Option Addr) (nW c2 : Nat) (A3 : Option Addr) (c3 : Nat) (sh : List Sha) (h3 : sh.length ≤ 1048576) (a b : Int) (v : Int) (hv : cmpZ (shareF sh a).turns (shareF sh b).turns = v) (w : World)
  (hB : Blk w bx 29 #[.int .i64 tu, .int .i64 se, .int .i64 sp, .slice A2 nW c2, .slice A3 sh.length c3]) (R3 : Rds 3 Sha.cells w A3 sh) :
 Calls Tryz.prog 205 #[.int .i64 a, .int .i64 b, .pointer (some ⟨bx, 0, none⟩)] w fun e w' => e = .returned (.int .i64 v) ∧ Below w.heap.size w w' := by
 obtain ⟨⟨xm, xt, xs⟩, hx⟩ : ∃ x, shareF sh a = x := ⟨_, rfl⟩
 obtain ⟨⟨ym, yt, ys⟩, hy⟩ : ∃ y, shareF sh b = y := ⟨_, rfl⟩
 rw [hx, hy] at hv
 simp only at hv
 have HX := lh hx; have HY := lh hy; have HV := lh hv; have HR := lh R3; clear hx hy hv R3
 have f1 := fun W => (show (Instr.field 144 (.agg #[.int .i64 xm, .int .i64 xt, .int .i64 xs]) 1).run Tryz.prog W = .ok (.int .i64 xt) W by kernel_rfl)
 have f2 := fun W => (show (Instr.field 144 (.agg #[.int .i64 ym, .int .i64 yt, .int .i64 ys]) 1).run Tryz.prog W = .ok (.int .i64 yt) W by kernel_rfl)
 have c0 := fun K : Kin w.heap.size w => ((hB.below K.below hB.lt).cell 0).trans (show _ = some (.int .i64 tu) from rfl)
 have c1 := fun K : Kin w.heap.size w => ((hB.below K.below hB.lt).cell 1).trans (show _ = some (.int .i64 se) from rfl)
 have c2' := fun K : Kin w.heap.size w => ((hB.below K.below hB.lt).cell 2).trans (show _ = some (.int .i64 sp) from rfl)
 have c3' := fun K : Kin w.heap.size w => ((hB.below K.below hB.lt).cell 3).trans (show _ = some (.slice A2 nW c2) from rfl)
 have c4 := fun K : Kin w.heap.size w => ((hB.below K.below hB.lt).cell 4).trans (show _ = some (.slice A3 sh.length c3) from rfl)
 clear hB
 go_in
 go_wp2
 refine wp_region_kin (by kernel_rfl) (by kernel_rfl) ?_
 repeat (go_big_quiet_step (fail))
 go_big_quiet_step ((go_at_call 121; exact Kin.call _ (by first | exact Nat.le_refl _ | omega) (shareOf_is tu se sp A2 nW c2 A3 c3 sh h3 a ⟨xm, xt, xs⟩ HX.out _ (HR.out.below (Kin.below _)))))
 repeat (go_big_quiet_step (fail))
 go_big_quiet_step ((go_at_call 121; exact Kin.call _ (by first | exact Nat.le_refl _ | omega) (shareOf_is tu se sp A2 nW c2 A3 c3 sh h3 b ⟨ym, yt, ys⟩ HY.out _ (HR.out.below (Kin.below _)))))
 repeat (go_big_quiet_step (fail))
 go_big_quiet_step ((go_at_call 206; exact Kin.same _ (compareZ_is xt yt v HV.out _)))
 repeat (go_big_quiet_step (fail))
 refine wpQuiet_nil ?_
 intro K
 go_wp2
 go_ret
 exact ⟨rfl, K.below⟩
theorem speakingOrder_is (tu se sp : Int) (A2 : Option Addr) (c2 : Nat) (ws : List Int) (A3 : Option Addr) (c3 : Nat) (sh : List Sha) (h2 : ws.length ≤ 1048576) (h3 : sh.length ≤ 1048576) (n2 : A2 = none → ws = [] ∧ c2 = 0) (n3 : A3 = none → sh = [] ∧ c3 = 0) (k2 : ws.length ≤ c2) (hw : ws.length < 20) (w : World) (R2 : Rds 1 intC w A2 ws) (R3 : Rds 3 Sha.cells w A3 sh) :
 Calls Tryz.prog 197 #[.agg #[.int .i64 tu, .int .i64 se, .int .i64 sp, .slice A2 ws.length c2, .slice A3 sh.length c3]] w fun e w' => ∃ g' c', e = .returned (.slice (some ⟨g', 0, none⟩) (spO ⟨tu, se, sp, ws, sh⟩).length c') ∧ OwnV w.heap.size 3 1 intC w' (.slice (some ⟨g', 0, none⟩) (spO ⟨tu, se, sp, ws, sh⟩).length c') (spO ⟨tu, se, sp, ws, sh⟩) ∧ Below w.heap.size w w' := by
 have HR2 := lh R2; have HR3 := lh R3; have HN2 := lh n2; have HN3 := lh n3; clear R2 R3 n2 n3; have hlen : (spO ⟨tu, se, sp, ws, sh⟩).length = ws.length := spO_len _
 rw [hlen]
 clear hlen
 go_in
 go_upto_region 1 with fail
 refine lay1 fun wX hq1 hF => ?_
 have HB := hq1; have f' := hF.cs5; have hf0' := hF.lt
 go_wp2_with fail
 refine (cpIntsH_is A2 c2 ws h2 HN2.out _ (HR2.out.below (bth HB bel))).mono ?_
 rintro e w2 ⟨g1, c1, rfl, O1, hb2⟩
 have hq2 := be wX hb2; replace HB := bth HB hq2; replace hF := hF.to hq2; clear f'; have f' := hF.cs5; have hg1 := (O1.lt g1 rfl).1; have hl := hF.lt; have szq := hq2.size; have HO1 := lh O1; have HF := lh hF; have HHB := lh HB; have HRD := lh (HR3.out.below HB)
 have HLT : Hid (∀ ad, A3 = some ad → 0 < sh.length → ad.block < w.heap.size) := lh (fun ad e hn => by
  obtain ⟨b, off, e2, hb, _⟩ := HR3.out hn
  rw [e] at e2; cases e2; exact hb)
 clear O1 hF
 go_upto_region 2 with fail
 go_wp2_with fail
 refine (sortStableC_is (cT (tnF ⟨tu, se, sp, ws, sh⟩)) ws hw wX.heap.size g1 c1 w.heap.size _ hg1 szq HO1.out ?_).mono ?_
 ·intro x z hx hz W hW
  have hFW := HF.out.grownN hW (by intro e; have := Option.some.inj e; omega)
  have hRW : Rds 3 Sha.cells W A3 sh := if hn : 0 < sh.length then HRD.out.grown hW (fun ad e e2 => by have h1 := HLT.out ad e hn; have h2 := Option.some.inj e2; have h3 := HHB.out.size; omega) else fun h0 => absurd h0 hn
  exact spoF_is w.heap.size tu se sp A2 ws.length c2 A3 c3 sh h3 x z _ rfl W hFW hRW
 rintro e w3 ⟨rfl, O3, hg3⟩
 have HB3 : Below w.heap.size w w3 := HHB.out.grown hg3 (HHB.out.size) (fun k hk => by have := Option.some.inj hk; omega); clear f'
 go_wp2
 go_ret
 exact ⟨g1, c1, rfl, O3.base (by omega), HB3⟩
end Go.Proofs.YtjimibkgocieoaaGreat
