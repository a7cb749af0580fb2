/- Texts of the proof: walks of the functions, and what they compute. -/
import Derived.Test.YtjimibkgocieoaaGreatRa14
import Derived.Test.YtjimibkgocieoaaGreatRa3
import Derived.Test.YtjimibkgocieoaaGreatRa0
set_option maxHeartbeats 16000000
set_option maxRecDepth 100000
namespace Go.Proofs.YtjimibkgocieoaaGreat
open Go.RowKit Go.G9
theorem rds_dropz {T : Type} {sz : Nat} {f : T → List Value} {w : World} {b off : Nat} {xs : List T} (h : Rds sz f w (some ⟨b, off, none⟩) xs) (k : Nat) : Rds sz f w (some ⟨b, off + k * sz, none⟩) (xs.drop k) := by
 intro h0
 obtain ⟨b', off', h1, h2, h3⟩ := h (by rw [List.length_drop] at h0; omega)
 injection h1 with h1; injection h1 with h4 h5; subst h4; subst h5
 refine ⟨b, off + k * sz, rfl, h2, fun i x hx j u hu => ?_⟩
 rw [List.getElem?_drop] at hx
 have h6 := h3 (k + i) x hx j u hu
 rw [Nat.add_mul] at h6
 rw [← h6]; congr 2; omega
theorem rds_cellz {T : Type} {sz : Nat} {f : T → List Value} {w : World} {b off : Nat} {xs : List T} (h : Rds sz f w (some ⟨b, off, none⟩) xs) {k : Nat} {x : T} (hx : xs[k]? = some x) {i : Nat} {u : Value} (hu : (f x)[i]? = some u) : w.cell? ⟨b, off + k * sz + i, none⟩ = some u := by
 obtain ⟨b', off', h1, h2, h3⟩ := h (by have := (List.getElem?_eq_some_iff.1 hx).1; omega)
 injection h1 with h1; injection h1 with h4 h5; subst h4; subst h5
 exact h3 k x hx i u hu
theorem naNone : (none : Option Addr) = none → ([] : List Sha) = [] ∧ 0 = 0 := fun _ => ⟨rfl, rfl⟩
theorem naSome (ad : Addr) (n : Nat) : (some ad : Option Addr) = none → ([] : List Sha) = [] ∧ n = 0 := fun h => by cases h
def wiS (sh : List Sha) (k : Nat) (s : Sha) : MkSpec (Option Addr × Nat) where
 par := fun n => match n with
  | 5 => [0]
  | _ => []
 val := fun n p => match n with
  | 0 => .slice p.1 0 0
  | 5 => .slice p.1 k p.2
  | 7 => .slice p.1 1 1
  | _ => undef
 post := fun n σ p V0 V => match n with
  | 0 => p.1 = some ⟨V0.heap.size, 0, none⟩ ∧ Blk V V0.heap.size 144 #[]
  | 5 => ∃ g g', (σ 0).1 = some ⟨g, 0, none⟩ ∧ p.1 = some ⟨g', 0, none⟩ ∧ OwnV g 144 3 Sha.cells V (.slice p.1 (sh.take k).length p.2) (sh.take k)
  | 7 => ∃ g, p.1 = some ⟨g, 0, none⟩ ∧ V0.heap.size = g ∧ Blk V g 144 #[.int .i64 s.mem, .int .i64 s.turns, .int .i64 s.secs]
  | _ => True
theorem zb97 {p : Prop} (h : p := by
 change wpList _ _ _ (_ :: []) _ _
 go_wp2
 first | exact Nrm_mk ⟨(some ⟨kq.world.heap.size, 0, none⟩, 0), rfl, bl1 _ _, rfl, Blk.new _ _ _⟩ | exact Nrm_mk ⟨some ⟨kq.world.heap.size, 0, none⟩, 0, rfl, bl1 _ _, rfl, Blk.new _ _ _⟩) : p := h
theorem zb106 {p : Prop} (h : p := by
 first | exact Nrm_mk ⟨(some ⟨g', 0, none⟩, c'), rfl, hb', U0.heap.size, g', HU7.out, rfl, hO'⟩ | exact Nrm_mk ⟨some ⟨g', 0, none⟩, c', rfl, hb', U0.heap.size, g', HU7.out, rfl, hO'⟩) : p := h
theorem zb85 {p : Prop} (h : p := by
 change wpList _ _ _ (_ :: []) _ _
 go_wp2
 first | exact Nrm_mk ⟨(some ⟨kq.world.heap.size, 0, none⟩, 0), rfl, bl1 _ _, kq.world.heap.size, rfl, rfl, Blk.new _ _ _⟩ | exact Nrm_mk ⟨some ⟨kq.world.heap.size, 0, none⟩, 0, rfl, bl1 _ _, kq.world.heap.size, rfl, rfl, Blk.new _ _ _⟩) : p := h
theorem zb103 {p : Prop} (h : p := by
 have h0 : i = 0 := by have := (List.getElem?_eq_some_iff.1 hy).1; simp at this; omega
 subst h0; simp at hy; subst hy
 rw [Nat.zero_mul, Nat.zero_add]
 exact (hB7.cell _).trans (by simpa [Sha.cells] using hu)) : p := h
theorem zb4 {p : Prop} (h : p := by
 have hF9 := HF9.out.grownN hg10 (fun e => HDF8.out _ e.symm rfl); have hS9 := HS9.out.grownN hg10 (fun e => by have h9 := (HDL8.out _ e.symm).1; omega); have hX9 := HX9.out.grownN hg10 (fun e => HDX8.out _ e.symm rfl); have hZ9 := HZ9.out.grownN hg10 (fun e => HDZ8.out _ e.symm rfl); have O2 := HOW.out.kept hg10 (fun k hk e => HAP8.out k hk e); have O3 := hO10; have HB := HB9.out.grown hg10 sz8 (fun q hq => by have := (HDL8.out q hq).1; omega)
 clear hg10 hO10
 refine Nrm_keep ((HCC4.out _).2 ⟨HB, hF9, hS9, hX9⟩) (hK3 _ _ ?_)
 refine wpMx_cons fun K4 hK4 => ?_
 refine wpQuiet_nil ?_
 change wpQuiet _ _ _ _ (_ :: []) _
 try simp only [Act.put]
 try go_simp
 repeat (go_big_quiet_step (fail))
 refine wpQuiet_nil ?_
 change wpList _ _ _ (_ :: []) _ _
 have z' := hZ9.cs5
 obtain ⟨x0, x1, x2, x3, x4⟩ := hX9.cs5
 have neO2 := O2.notBlkV hX9 (by decide); have neO3 := O3.notBlkV hX9 (by decide); have fhX94 := hX9.frozen 4
 go_wp2
 clear z' x0 x1 x2 x3 x4
 refine st1 4 fun W10 tW10 => ?_
 replace HB := tW10.hb HB (by omega); replace hZ9 := tW10.far hZ9 (by omega); replace hX9 : Blk W10 (w2.heap.size) 29 #[.int .i64 tu, .int .i64 se, .int .i64 sp, .slice D2 ws.length d2, .slice Y (setSh ([] : List Sha) ⟨sm, st, ss⟩).length yc] := tW10.own hX9; replace O2 := O2.keptS tW10 neO2; replace O3 := O3.keptS tW10 neO3; have z' := hZ9.cs5
 obtain ⟨x0, x1, x2, x3, x4⟩ := hX9.cs5
 clear neO2 neO3 fhX94
 refine Nrm_drop (hK4 _ _ ?_)
 refine wpMx_last ?_
 refine wpQuiet_nil ?_
 refine wpQuiet_nil ?_
 have neO2 := O2.notBlkV hZ9 (by decide); have neO3 := O3.notBlkV hZ9 (by decide); have fhZ90 := hZ9.frozen 0; have fhZ91 := hZ9.frozen 1; have fhZ92 := hZ9.frozen 2; have fhZ93 := hZ9.frozen 3; have fhZ94 := hZ9.frozen 4
 go_wp2
 clear z' x0 x1 x2 x3 x4
 refine st5 0 fun W11 tW11 => ?_
 replace HB := tW11.hb HB (by omega); replace hZ9 := tW11.all5 hZ9; replace hX9 := tW11.far hX9 (by omega); replace O2 := O2.keptS tW11 neO2; replace O3 := O3.keptS tW11 neO3; have z' := hZ9.cs5
 refine bodyPost_ret (v := .agg #[.int .i64 tu, .int .i64 se, .int .i64 sp, .slice D2 ws.length d2, .slice Y (setSh ([] : List Sha) ⟨sm, st, ss⟩).length yc]) (by simp [results, Tryz.results193, go_sem, z']) rfl ?_
 exact ⟨D2, d2, Y, yc, rfl, ⟨O2.base (Nat.le_refl _), O3.base szwv, O2.apart O3 (by decide)⟩, HB⟩) : p := h
theorem zb30 {p : Prop} (h : p := by
 have HU6 := lh hU6; clear hU6 hU4 hU2 hU1 hU5 hpar
 rw [hU7]
 have HU7 := lh hU7; clear hU7
 go_wp2_with ((at_builtin; refine wpList_appOn rfl _ _ 27 rfl U0.heap.size 144 i0 _ 3 24 Tryz.underlying27 hi hz0 hz1 hz2 rfl (by decide) Sha.cells sha_len sha_one U0.heap.size rfl HU6.out (Nat.le_refl _) (some ⟨b3, o3, none⟩) c3 (sh.take k) k HTL.out.symm rfl HUR.out (fun h => by cases h) (by have := HTL.out; unfold maxLen; omega) (by have := HTL.out; omega) ?_; intro g' c' w' hO' hb'))
 first | exact Nrm_mk ⟨(some ⟨g', 0, none⟩, c'), rfl, hb', U0.heap.size, g', HU7.out, rfl, hO'⟩ | exact Nrm_mk ⟨some ⟨g', 0, none⟩, c', rfl, hb', U0.heap.size, g', HU7.out, rfl, hO'⟩) : p := h
theorem zb8 {p : Prop} (h : p := by
 refine wpMx_cons fun K4 hK4 => ?_
 refine wpQuiet_nil ?_
 change wpQuiet _ _ _ _ (_ :: []) _
 try simp only [Act.put]
 try go_simp
 repeat (go_big_quiet_step (fail))
 refine wpQuiet_nil ?_
 change wpList _ _ _ (_ :: []) _ _
 have z' := hZ9.cs5
 obtain ⟨x0, x1, x2, x3, x4⟩ := hX9.cs5
 have neO2 := O2.notBlkV hX9 (by decide); have neO3 := O3.notBlkV hX9 (by decide); have fhX94 := hX9.frozen 4
 go_wp2
 clear z' x0 x1 x2 x3 x4
 refine st1 4 fun W10 tW10 => ?_
 replace HB := tW10.hb HB (by omega); replace hZ9 := tW10.far hZ9 (by omega); replace hX9 : Blk W10 (w2.heap.size) 29 #[.int .i64 tu, .int .i64 se, .int .i64 sp, .slice D2 ws.length d2, .slice Y (setSh sh ⟨sm, st, ss⟩).length yc] := tW10.own hX9; replace O2 := O2.keptS tW10 neO2; replace O3 := O3.keptS tW10 neO3; have z' := hZ9.cs5
 obtain ⟨x0, x1, x2, x3, x4⟩ := hX9.cs5
 clear neO2 neO3 fhX94
 refine Nrm_drop (hK4 _ _ ?_)
 refine wpMx_last ?_
 refine wpQuiet_nil ?_
 refine wpQuiet_nil ?_
 have neO2 := O2.notBlkV hZ9 (by decide); have neO3 := O3.notBlkV hZ9 (by decide); have fhZ90 := hZ9.frozen 0; have fhZ91 := hZ9.frozen 1; have fhZ92 := hZ9.frozen 2; have fhZ93 := hZ9.frozen 3; have fhZ94 := hZ9.frozen 4
 go_wp2
 clear z' x0 x1 x2 x3 x4
 refine st5 0 fun W11 tW11 => ?_
 replace HB := tW11.hb HB (by omega); replace hZ9 := tW11.all5 hZ9; replace hX9 := tW11.far hX9 (by omega); replace O2 := O2.keptS tW11 neO2; replace O3 := O3.keptS tW11 neO3; have z' := hZ9.cs5
 refine bodyPost_ret (v := .agg #[.int .i64 tu, .int .i64 se, .int .i64 sp, .slice D2 ws.length d2, .slice Y (setSh sh ⟨sm, st, ss⟩).length yc]) (by simp [results, Tryz.results193, go_sem, z']) rfl ?_
 exact ⟨D2, d2, Y, yc, rfl, ⟨O2.base (Nat.le_refl _), O3.base szwv, O2.apart O3 (by decide)⟩, HB⟩) : p := h
theorem l8With_is (tu se sp : Int) (A2 : Option Addr) (c2 : Nat) (ws : List Int) (A3 : Option Addr) (c3 : Nat) (sh : List Sha) (h2 : ws.length ≤ 1048576) (h3 : sh.length ≤ 1048576) (n2 : A2 = none → ws = [] ∧ c2 = 0) (n3 : A3 = none → sh = [] ∧ c3 = 0) (k3 : sh.length ≤ c3) (sm st ss : Int) (w : World) (R2 : Rds 1 intC w A2 ws) (R3 : Rds 3 Sha.cells w A3 sh) :
 Calls Tryz.prog 193 #[.agg #[.int .i64 tu, .int .i64 se, .int .i64 sp, .slice A2 ws.length c2, .slice A3 sh.length c3], .agg #[.int .i64 sm, .int .i64 st, .int .i64 ss]] w fun e w' => ∃ D2 d2 D3 d3, e = .returned (.agg #[.int .i64 tu, .int .i64 se, .int .i64 sp, .slice D2 ws.length d2, .slice D3 (setSh sh ⟨sm, st, ss⟩).length d3]) ∧ FlO w.heap.size w' D2 d2 D3 d3 ws (setSh sh ⟨sm, st, ss⟩) ∧ Below w.heap.size w w' := by
 obtain ⟨i0, hi, hz0, hz1, hz2⟩ := info_parts info_Sha
 have HR2 := lh R2; have HR3 := lh R3; have HN2 := lh n2; have HN3 := lh n3; clear R2 R3 n2 n3
 by_cases hn0 : sh.length = 0
 case pos =>
  obtain rfl := List.length_eq_zero_iff.1 hn0
  clear hn0
  cases A3 with
  | none =>
   obtain ⟨_, rfl⟩ := HN3.out rfl
   go_enter Tryz.func193, Tryz.ntmps193
   go_upto_region 1 with fail
   refine lay3 fun wX hq1 hF hS hZ => ?_
   have HB := hq1
   obtain ⟨f0, f1, f2, f3, f4⟩ := hF.cs5
   obtain ⟨s0, s1, s2⟩ := hS.cs3
   have z' := hZ.cs5; have hz0' := hZ.lt
   go_wp2_with fail
   refine (l8Own_is tu se sp A2 c2 ws none 0 ([] : List Sha) h2 h3 HN2.out naNone _ (HR2.out.below (bth HB bel)) (HR3.out.below (bth HB bel))).mono ?_
   rintro e w2 ⟨D2, d2, D3, d3, rfl, OO, hb2⟩
   have hq2 : Below wX.heap.size wX w2 := bth bel hb2; replace HB := bth HB hq2; replace hF := hF.to hq2; clear f0 f1 f2 f3 f4
   obtain ⟨f0, f1, f2, f3, f4⟩ := hF.cs5
   replace hS := hS.to hq2; clear s0 s1 s2
   obtain ⟨s0, s1, s2⟩ := hS.cs3
   replace hZ := hZ.to hq2; clear z'; have z' := hZ.cs5; have szq := hq2.size; have szh := HB.size
   go_upto_region 2 with fail
   have O2' := (OO.o2.later (bl1 w2 (.cells #[.int .i64 tu, .int .i64 se, .int .i64 sp, .slice D2 ws.length d2, .slice D3 0 d3] 29))).base (B' := w.heap.size) (by omega); clear OO; have hq3 : Below w2.heap.size w2 (World.alloc w2 (.cells #[.int .i64 tu, .int .i64 se, .int .i64 sp, .slice D2 ws.length d2, .slice D3 0 d3] 29)) := bl1 w2 _
   have hX : Blk (World.alloc w2 (.cells #[.int .i64 tu, .int .i64 se, .int .i64 sp, .slice D2 ws.length d2, .slice D3 0 d3] 29)) (w2.heap.size) 29 #[.int .i64 tu, .int .i64 se, .int .i64 sp, .slice D2 ws.length d2, .slice D3 0 d3] := by repeat (first | exact Blk.new _ _ _ | exact Blk.new2 _ _ _ _ | exact Blk.new3 _ _ _ _ _ | exact Blk.new4 _ _ _ _ _ _ | refine Blk.alloc ?_ _)
   generalize World.alloc w2 (.cells #[.int .i64 tu, .int .i64 se, .int .i64 sp, .slice D2 ws.length d2, .slice D3 0 d3] 29) = wO at *
   replace HB := bth HB hq3
   obtain ⟨x0, x1, x2, x3, x4⟩ := hX.cs5
   clear f0 f1 f2 f3 f4; replace hF := hF.to hq3
   obtain ⟨f0, f1, f2, f3, f4⟩ := hF.cs5
   clear s0 s1 s2; replace hS := hS.to hq3
   obtain ⟨s0, s1, s2⟩ := hS.cs3
   clear z'; replace hZ := hZ.to hq3; have z' := hZ.cs5; have hx0 := hX.lt; have O2 := O2'; clear O2'; have HF := lh hF; have HS := lh hS; have HZ := lh hZ; have HX := lh hX; have HO2 := lh O2; have HBO := lh HB; clear hF hS hZ hX O2 f0 f1 f2 f3 f4 s0 s1 s2 z' x0 x1 x2 x3 x4
   go_wp2
   go_loopw [6] (fun i wr => i = .int .i64 0 ∧ Below wO.heap.size wO wr) (fun _ _ => 0)
   case atStart => exact ⟨rfl, Below.refl _ _⟩
   case round =>
    obtain ⟨rfl, hb⟩ := hrel
    have hFr := HF.out.below hb HF.out.lt; have hSr := HS.out.below hb HS.out.lt
    have c4 := fun K : Kin wr.heap.size wr => ((hFr.below K.below hFr.lt).cell 4).trans (show _ = some (.slice none 0 0) from rfl)
    have s0 := fun K : Kin wr.heap.size wr => ((hSr.below K.below hSr.lt).cell 0).trans (show _ = some (.int .i64 sm) from rfl)
    go_wp2
    refine wp_region_kin (by kernel_rfl) (by kernel_rfl) ?_
    repeat (go_big_quiet_step ((fail)))
    refine wpQuiet_nil ?_
    intro K
    clear c4 s0 hFr hSr; have hbk := bth hb K.below
    generalize K.world = wk at *
    have hFr := HF.out.below hbk HF.out.lt; have hSr := HS.out.below hbk HS.out.lt; have f4 := (hFr.cell 4).trans (show _ = some (.slice none 0 0) from rfl)
    go_upto_region 6 with fail
    have s0 := fun K : Kin wk.heap.size wk => ((hSr.below K.below hSr.lt).cell 0).trans (show _ = some (.int .i64 sm) from rfl)
    clear hFr hSr f4
    refine wp_region_kin (by kernel_rfl) (by kernel_rfl) ?_
    repeat (go_big_quiet_step ((fail)))
    refine wpQuiet_nil ?_
    intro K
    clear s0; have hbv := bth hbk K.below
    generalize K.world = wv at *
    have HE1 : Hid (setSh ([] : List Sha) ⟨sm, st, ss⟩ = ([] : List Sha).take 0 ++ [(⟨sm, st, ss⟩ : Sha)] ++ ([] : List Sha)) := lh (rfl); have HRL : Hid ((([] : List Sha)).length = 0) := lh (rfl); have HTL : Hid ((([] : List Sha).take 0).length = 0) := lh (by rw [List.length_take]; omega); have HRR : Hid (Rds 3 Sha.cells w none (([] : List Sha))) := lh (Rds.nil); have HRT : Hid (Rds 3 Sha.cells w none (([] : List Sha).take 0)) := lh (rds_takeq HR3.out 0)
    have hF := HF.out.below hbv HF.out.lt; have hS := HS.out.below hbv HS.out.lt; have hZ := HZ.out.below hbv HZ.out.lt; have hX := HX.out.below hbv HX.out.lt; have O2 := HO2.out.later hbv; have HB := bth HBO.out hbv; have szwv := HB.size; have szov := hbv.size
    obtain ⟨f0, f1, f2, f3, f4⟩ := hF.cs5
    obtain ⟨s0, s1, s2⟩ := hS.cs3
    have z' := hZ.cs5
    obtain ⟨x0, x1, x2, x3, x4⟩ := hX.cs5
    obtain ⟨CC4, hCC4⟩ : ∃ X : World → Prop, ∀ V, X V ↔ (Below w.heap.size w V ∧ Blk V (w.heap.size) 29 #[.int .i64 tu, .int .i64 se, .int .i64 sp, .slice A2 ws.length c2, .slice none 0 0] ∧ Blk V ((w.heap.size + 1)) 144 #[.int .i64 sm, .int .i64 st, .int .i64 ss] ∧ Blk V (w2.heap.size) 29 #[.int .i64 tu, .int .i64 se, .int .i64 sp, .slice D2 ws.length d2, .slice D3 0 d3]) := ⟨_, fun _ => Iff.rfl⟩
    have HCC4 := lh hCC4; clear hCC4
    haveI : Nonempty (Hld CC4) := ⟨⟨wv, ((HCC4.out _).2 ⟨HB, hF, hS, hX⟩)⟩⟩
    clear f0 f1 f2 f3 f4; clear s0 s1 s2; clear z'; clear x0 x1 x2 x3 x4
    obtain ⟨f0, f1, f2, f3, f4⟩ := Blk.cs5K (fun K : Hld CC4 => ((HCC4.out _).1 K.holds).2.1)
    obtain ⟨s0, s1, s2⟩ := Blk.cs3K (fun K : Hld CC4 => ((HCC4.out _).1 K.holds).2.2.1)
    obtain ⟨x0, x1, x2, x3, x4⟩ := Blk.cs5K (fun K : Hld CC4 => ((HCC4.out _).1 K.holds).2.2.2)
    go_upto_region 8 with fail
    refine wp_region_mky (wiS ([] : List Sha) 0 ⟨sm, st, ss⟩) CC4 [([], 0), ([1, 2, 3, 4], 5), ([6], 7)] [9] [([], [], 8, false), ([], [], 10, false), ([], [11], 12, true)] [] [] (by kernel_rfl) (by kernel_rfl) ((HCC4.out _).2 ⟨HB.drew, hF, hS, hX⟩) (fun W W' h k => ((HCC4.out _).2 ⟨((HCC4.out _).1 h).1.trans (k.mono ((HCC4.out _).1 h).1.size), ((HCC4.out _).1 h).2.1.below k ((HCC4.out _).1 h).2.1.lt, ((HCC4.out _).1 h).2.2.1.below k ((HCC4.out _).1 h).2.2.1.lt, ((HCC4.out _).1 h).2.2.2.below k ((HCC4.out _).1 h).2.2.2.lt⟩)) ?_
    intro σ
    refine wpMk1_cons (some 46) rfl (.slice (σ 0).1 0 0) rfl fun K1 hK1 => ?_
    change wpQuiet _ _ _ _ ([]) _
    refine wpQuiet_nil ?_
    refine ⟨fun kq hpar => ?_, hK1 _ ?_⟩
    ·exact zb97
    simp only [Act.put]
    go_simp
    refine wpMk1_cons (some 51) rfl (.slice (σ 5).1 0 (σ 5).2) rfl fun K1 hK1 => ?_
    change wpQuiet _ _ _ _ (_ :: _ :: _ :: _ :: []) _
    repeat (go_big_quiet_step (fail))
    refine wpQuiet_nil ?_
    refine ⟨fun kq hpar => ?_, hK1 _ ?_⟩
    ·change wpList _ _ _ (_ :: []) _ _
     obtain ⟨U0, U, hU1, ⟨hU2, hU4⟩, hU5⟩ := hpar 0 (by simp [wiS])
     have hU6 := hU4.to hU5; have hU7 : (σ 0).1 = some ⟨U0.heap.size, 0, none⟩ := hU2; have HUR := lh (HRT.out.below ((HCC4.out _).1 kq.holds).1); have HU6 := lh hU6; clear hU6 hU4 hU2 hU1 hU5 hpar
     rw [hU7]
     have HU7 := lh hU7; clear hU7
     go_wp2_with ((at_builtin; refine wpList_appOn rfl _ _ 27 rfl U0.heap.size 144 i0 _ 3 24 Tryz.underlying27 hi hz0 hz1 hz2 rfl (by decide) Sha.cells sha_len sha_one U0.heap.size rfl HU6.out (Nat.le_refl _) none 0 (([] : List Sha).take 0) 0 HTL.out.symm rfl HUR.out naNone (by have := HTL.out; unfold maxLen; omega) (by have := HTL.out; omega) ?_; intro g' c' w' hO' hb'))
     exact zb106
    simp only [Act.put]
    go_simp
    refine wpMk1_cons (some 53) rfl (.slice (σ 7).1 1 1) rfl fun K1 hK1 => ?_
    change wpQuiet _ _ _ _ (_ :: []) _
    repeat (go_big_quiet_step (fail))
    refine wpQuiet_nil ?_
    refine ⟨fun kq hpar => ?_, hK1 _ ?_⟩
    ·exact zb85
    simp only [Act.put]
    go_simp
    refine wpMk1_last ?_
    change wpQuiet _ _ _ _ (_ :: []) _
    repeat (go_big_quiet_step (fail))
    refine wpQuiet_nil ?_
    intro V0 V W hM hW
    obtain ⟨g0, g5, e0, e5, q5⟩ : ∃ g g', (σ 0).1 = some ⟨g, 0, none⟩ ∧ (σ 5).1 = some ⟨g', 0, none⟩ ∧ OwnV g 144 3 Sha.cells (V 5) (.slice (σ 5).1 (([] : List Sha).take 0).length (σ 5).2) (([] : List Sha).take 0) := hM.post 5 (by simp)
    obtain ⟨a0, _⟩ : (σ 0).1 = some ⟨(V0 0).heap.size, 0, none⟩ ∧ Blk (V 0) (V0 0).heap.size 144 #[] := hM.post 0 (by simp)
    obtain ⟨g7, e7, u7, q7⟩ : ∃ g, (σ 7).1 = some ⟨g, 0, none⟩ ∧ (V0 7).heap.size = g ∧ Blk (V 7) g 144 #[.int .i64 sm, .int .i64 st, .int .i64 ss] := hM.post 7 (by simp)
    have t0 : (V0 0).heap.size = g0 := by rw [a0] at e0; exact congrArg Addr.block (Option.some.inj e0)
    have O5 := (q5.later (hM.later 5 (by simp))).base (B' := wv.heap.size) (by rw [← t0]; exact (hM.from0 0 (by simp)).size); have hsl9 := hS.lt; have hB7 := q7.below (hM.later 7 (by simp)) q7.lt; have hq2v : Below wv.heap.size wv W := (hM.whole 5 (by simp)).undrew; clear f0 f1 f2 f3 f4; clear s0 s1 s2; clear x0 x1 x2 x3 x4; have hq5 : Below wv.heap.size wv W := bth bel (hM.whole 5 (by simp)).undrew
    replace HB := bth HB hq5; replace O2 := O2.later hq5; replace hF := hF.to hq5; replace hS := hS.to hq5; replace hZ := hZ.to hq5; have z' := hZ.cs5; replace hX := hX.to hq5
    obtain ⟨x0, x1, x2, x3, x4⟩ := hX.cs5
    clear hM q5 q7 a0 e0 t0 u7 hW
    generalize σ 5 = p5 at *
    generalize σ 7 = p7 at *
    obtain ⟨D5, d5⟩ := p5
    obtain ⟨D7, d7⟩ := p7
    simp only at O5 e5 e7
    subst e5
    subst e7
    rw [HTL.out] at O5
    have HR7 : Hid (Rds 3 Sha.cells W (some ⟨g7, 0, none⟩) [(⟨sm, st, ss⟩ : Sha)]) := lh (fun _ => ⟨g7, 0, rfl, hB7.lt, fun i y hy j u hu => by
     exact zb103⟩)
    have hdx5 := O5.notBlk hX (by decide); have hdz5 := O5.notBlk hZ (by decide); have hap5 := O2.apart O5 (by decide); have hdl5 := O5.lt g5 rfl; have szW := HB.size; have szV := hq2v.size; have HF9 := lh hF; have HS9 := lh hS; have hdf5 := O5.notBlk hF (by decide); have HX9 := lh hX; have HZ9 := lh hZ; have HO5 := lh O5; have HB9 := lh HB; have HOW := lh O2; have HAP5 := lh hap5; clear hB7 hX hZ hF hS O5 O2 HB hap5 z' x0 x1 x2 x3 x4
    haveI : Nonempty (Hld (fun _ => True)) := ⟨⟨w, trivial⟩⟩
    refine wpMx_cons fun K2 hK2 => ?_
    refine wpQuiet_nil ?_
    refine wpQuiet_nil ?_
    change wpList _ _ _ (_ :: []) _ _
    have HO5' : Hid (OwnV wv.heap.size 144 3 Sha.cells W (.slice (some ⟨g5, 0, none⟩) 0 d5) (([] : List Sha).take 0)) := HO5
    go_wp2_with ((at_builtin; refine wpList_app1 rfl _ _ 27 rfl wv.heap.size 144 i0 _ 3 24 Tryz.underlying27 hi hz0 hz1 hz2 rfl (by decide) Sha.cells sha_len sha_one _ (([] : List Sha).take 0) rfl HO5'.out ⟨g7, 0, none⟩ 1 ⟨sm, st, ss⟩ rfl HR7.out (by have := HTL.out; unfold maxLen; omega) (by have := HTL.out; omega) szV ?_; intro v8 w8 hO8 hg8 ha8; clear ha8; obtain ⟨Y8, y8, rfl, q1, q2, q3⟩ := hO8.form sha_len; clear q1 q2 q3; have hl8 : (([] : List Sha).take 0 ++ [(⟨sm, st, ss⟩ : Sha)]).length = 0 + 1 := (by rw [List.length_append, HTL.out]; rfl); rw [hl8] at hO8; clear hl8))
    have hF8 := HF9.out.grownN hg8 (fun e => hdf5 (Option.some.inj e)); have hS8 := HS9.out.grownN hg8 (fun e => by have h9 : w.heap.size + 1 = g5 := Option.some.inj e; omega); have hX8 := HX9.out.grownN hg8 (fun e => hdx5 (Option.some.inj e)); have hZ8 := HZ9.out.grownN hg8 (fun e => hdz5 (Option.some.inj e)); have O2w := HOW.out.kept hg8 (fun k hk e => HAP5.out k hk e); have HB8 : Below w.heap.size w w8 := HB9.out.grown hg8 szW (fun q hq => by have h9 : g5 = q := Option.some.inj hq; omega)
    have hdx8 := hO8.notBlkV hX8 (by decide); have hdz8 := hO8.notBlkV hZ8 (by decide); have hap8 := O2w.apart hO8 (by decide); have hdl8 := hO8.lt; have sz8 := HB8.size; have sz8v := Nat.le_trans szV hg8.size; have hdf8 := hO8.notBlkV hF8 (by decide); have hCk := ((HCC4.out _).2 ⟨HB8, hF8, hS8, hX8⟩); have HF9 := lh hF8; have HS9 := lh hS8; have HDF8 := lh hdf8; have HX9 := lh hX8; have HZ9 := lh hZ8
    have HO8 := lh hO8; have HB9 := lh HB8; have HOW := lh O2w; have HAP8 := lh hap8; have HDX8 := lh hdx8; have HDZ8 := lh hdz8; have HDL8 := lh hdl8; clear hX8 hZ8 hO8 O2w HB8 hap8 hdx8 hdz8 hdl8 hg8 hF8 hS8 hdf8
    refine Nrm_keep hCk (hK2 _ _ ?_)
    clear hCk
    refine wpMx_cons fun K3 hK3 => ?_
    refine wpQuiet_nil ?_
    refine wpQuiet_nil ?_
    change wpList _ _ _ (_ :: []) _ _
    try simp only [Act.put]
    try go_simp
    have HRW := lh (HRR.out.below HB9.out)
    go_wp2_with ((at_builtin; refine wpList_app rfl _ _ 27 rfl wv.heap.size 144 i0 _ 3 24 Tryz.underlying27 hi hz0 hz1 hz2 rfl (by decide) Sha.cells sha_len sha_one _ (([] : List Sha).take 0 ++ [(⟨sm, st, ss⟩ : Sha)]) rfl HO8.out none (0) (([] : List Sha)) (by rw [HRL.out]; rfl) HRW.out naNone (by have h1 := HRL.out; have h2 := HTL.out; rw [List.length_append, h1, h2]; simp only [List.length_cons, List.length_nil]; unfold maxLen; omega) (by have h1 := HRL.out; have h2 := HTL.out; rw [List.length_append, h1, h2]; simp only [List.length_cons, List.length_nil]; omega) sz8v ?_; intro v10 w10 hO10 hg10; rw [← HE1.out] at hO10; obtain ⟨Y, yc, rfl, q1, q2, q3⟩ := hO10.form sha_len; clear q1 q2 q3))
    exact zb4
  | some ad =>
   obtain ⟨ab, ao, asp⟩ := ad
   by_cases hc0 : c3 = 0
   ·subst hc0
    skip
    go_enter Tryz.func193, Tryz.ntmps193
    go_upto_region 1 with fail
    refine lay3 fun wX hq1 hF hS hZ => ?_
    have HB := hq1
    obtain ⟨f0, f1, f2, f3, f4⟩ := hF.cs5
    obtain ⟨s0, s1, s2⟩ := hS.cs3
    have z' := hZ.cs5; have hz0' := hZ.lt
    go_wp2_with fail
    refine (l8Own_is tu se sp A2 c2 ws (some ⟨ab, ao, asp⟩) 0 ([] : List Sha) h2 h3 HN2.out (naSome _ _) _ (HR2.out.below (bth HB bel)) (HR3.out.below (bth HB bel))).mono ?_
    rintro e w2 ⟨D2, d2, D3, d3, rfl, OO, hb2⟩
    have hq2 : Below wX.heap.size wX w2 := bth bel hb2; replace HB := bth HB hq2; replace hF := hF.to hq2; clear f0 f1 f2 f3 f4
    obtain ⟨f0, f1, f2, f3, f4⟩ := hF.cs5
    replace hS := hS.to hq2; clear s0 s1 s2
    obtain ⟨s0, s1, s2⟩ := hS.cs3
    replace hZ := hZ.to hq2; clear z'; have z' := hZ.cs5; have szq := hq2.size; have szh := HB.size
    go_upto_region 2 with fail
    have O2' := (OO.o2.later (bl1 w2 (.cells #[.int .i64 tu, .int .i64 se, .int .i64 sp, .slice D2 ws.length d2, .slice D3 0 d3] 29))).base (B' := w.heap.size) (by omega); clear OO; have hq3 : Below w2.heap.size w2 (World.alloc w2 (.cells #[.int .i64 tu, .int .i64 se, .int .i64 sp, .slice D2 ws.length d2, .slice D3 0 d3] 29)) := bl1 w2 _
    have hX : Blk (World.alloc w2 (.cells #[.int .i64 tu, .int .i64 se, .int .i64 sp, .slice D2 ws.length d2, .slice D3 0 d3] 29)) (w2.heap.size) 29 #[.int .i64 tu, .int .i64 se, .int .i64 sp, .slice D2 ws.length d2, .slice D3 0 d3] := by repeat (first | exact Blk.new _ _ _ | exact Blk.new2 _ _ _ _ | exact Blk.new3 _ _ _ _ _ | exact Blk.new4 _ _ _ _ _ _ | refine Blk.alloc ?_ _)
    generalize World.alloc w2 (.cells #[.int .i64 tu, .int .i64 se, .int .i64 sp, .slice D2 ws.length d2, .slice D3 0 d3] 29) = wO at *
    replace HB := bth HB hq3
    obtain ⟨x0, x1, x2, x3, x4⟩ := hX.cs5
    clear f0 f1 f2 f3 f4; replace hF := hF.to hq3
    obtain ⟨f0, f1, f2, f3, f4⟩ := hF.cs5
    clear s0 s1 s2; replace hS := hS.to hq3
    obtain ⟨s0, s1, s2⟩ := hS.cs3
    clear z'; replace hZ := hZ.to hq3; have z' := hZ.cs5; have hx0 := hX.lt; have O2 := O2'; clear O2'; have HF := lh hF; have HS := lh hS; have HZ := lh hZ; have HX := lh hX; have HO2 := lh O2; have HBO := lh HB; clear hF hS hZ hX O2 f0 f1 f2 f3 f4 s0 s1 s2 z' x0 x1 x2 x3 x4
    go_wp2
    go_loopw [6] (fun i wr => i = .int .i64 0 ∧ Below wO.heap.size wO wr) (fun _ _ => 0)
    case atStart => exact ⟨rfl, Below.refl _ _⟩
    case round =>
     obtain ⟨rfl, hb⟩ := hrel
     have hFr := HF.out.below hb HF.out.lt; have hSr := HS.out.below hb HS.out.lt
     have c4 := fun K : Kin wr.heap.size wr => ((hFr.below K.below hFr.lt).cell 4).trans (show _ = some (.slice (some ⟨ab, ao, asp⟩) 0 0) from rfl)
     have s0 := fun K : Kin wr.heap.size wr => ((hSr.below K.below hSr.lt).cell 0).trans (show _ = some (.int .i64 sm) from rfl)
     go_wp2
     refine wp_region_kin (by kernel_rfl) (by kernel_rfl) ?_
     repeat (go_big_quiet_step ((fail)))
     refine wpQuiet_nil ?_
     intro K
     clear c4 s0 hFr hSr; have hbk := bth hb K.below
     generalize K.world = wk at *
     have hFr := HF.out.below hbk HF.out.lt; have hSr := HS.out.below hbk HS.out.lt; have f4 := (hFr.cell 4).trans (show _ = some (.slice (some ⟨ab, ao, asp⟩) 0 0) from rfl)
     go_upto_region 6 with fail
     have s0 := fun K : Kin wk.heap.size wk => ((hSr.below K.below hSr.lt).cell 0).trans (show _ = some (.int .i64 sm) from rfl)
     clear hFr hSr f4
     refine wp_region_kin (by kernel_rfl) (by kernel_rfl) ?_
     repeat (go_big_quiet_step ((fail)))
     refine wpQuiet_nil ?_
     intro K
     clear s0; have hbv := bth hbk K.below
     generalize K.world = wv at *
     have HE1 : Hid (setSh ([] : List Sha) ⟨sm, st, ss⟩ = ([] : List Sha).take 0 ++ [(⟨sm, st, ss⟩ : Sha)] ++ ([] : List Sha)) := lh (rfl); have HRL : Hid ((([] : List Sha)).length = 0) := lh (rfl); have HTL : Hid ((([] : List Sha).take 0).length = 0) := lh (by rw [List.length_take]; omega); have HRR : Hid (Rds 3 Sha.cells w (some ⟨ab, ao, asp⟩) (([] : List Sha))) := lh (Rds.nil); have HRT : Hid (Rds 3 Sha.cells w (some ⟨ab, ao, asp⟩) (([] : List Sha).take 0)) := lh (rds_takeq HR3.out 0)
     have hF := HF.out.below hbv HF.out.lt; have hS := HS.out.below hbv HS.out.lt; have hZ := HZ.out.below hbv HZ.out.lt; have hX := HX.out.below hbv HX.out.lt; have O2 := HO2.out.later hbv; have HB := bth HBO.out hbv; have szwv := HB.size; have szov := hbv.size
     obtain ⟨f0, f1, f2, f3, f4⟩ := hF.cs5
     obtain ⟨s0, s1, s2⟩ := hS.cs3
     have z' := hZ.cs5
     obtain ⟨x0, x1, x2, x3, x4⟩ := hX.cs5
     obtain ⟨CC4, hCC4⟩ : ∃ X : World → Prop, ∀ V, X V ↔ (Below w.heap.size w V ∧ Blk V (w.heap.size) 29 #[.int .i64 tu, .int .i64 se, .int .i64 sp, .slice A2 ws.length c2, .slice (some ⟨ab, ao, asp⟩) 0 0] ∧ Blk V ((w.heap.size + 1)) 144 #[.int .i64 sm, .int .i64 st, .int .i64 ss] ∧ Blk V (w2.heap.size) 29 #[.int .i64 tu, .int .i64 se, .int .i64 sp, .slice D2 ws.length d2, .slice D3 0 d3]) := ⟨_, fun _ => Iff.rfl⟩
     have HCC4 := lh hCC4; clear hCC4
     haveI : Nonempty (Hld CC4) := ⟨⟨wv, ((HCC4.out _).2 ⟨HB, hF, hS, hX⟩)⟩⟩
     clear f0 f1 f2 f3 f4; clear s0 s1 s2; clear z'; clear x0 x1 x2 x3 x4
     obtain ⟨f0, f1, f2, f3, f4⟩ := Blk.cs5K (fun K : Hld CC4 => ((HCC4.out _).1 K.holds).2.1)
     obtain ⟨s0, s1, s2⟩ := Blk.cs3K (fun K : Hld CC4 => ((HCC4.out _).1 K.holds).2.2.1)
     obtain ⟨x0, x1, x2, x3, x4⟩ := Blk.cs5K (fun K : Hld CC4 => ((HCC4.out _).1 K.holds).2.2.2)
     go_upto_region 8 with fail
     refine wp_region_mky (wiS ([] : List Sha) 0 ⟨sm, st, ss⟩) CC4 [([], 0), ([1, 2, 3, 4], 5), ([6], 7)] [9] [([], [], 8, false), ([], [], 10, false), ([], [11], 12, true)] [] [] (by kernel_rfl) (by kernel_rfl) ((HCC4.out _).2 ⟨HB.drew, hF, hS, hX⟩) (fun W W' h k => ((HCC4.out _).2 ⟨((HCC4.out _).1 h).1.trans (k.mono ((HCC4.out _).1 h).1.size), ((HCC4.out _).1 h).2.1.below k ((HCC4.out _).1 h).2.1.lt, ((HCC4.out _).1 h).2.2.1.below k ((HCC4.out _).1 h).2.2.1.lt, ((HCC4.out _).1 h).2.2.2.below k ((HCC4.out _).1 h).2.2.2.lt⟩)) ?_
     intro σ
     refine wpMk1_cons (some 46) rfl (.slice (σ 0).1 0 0) rfl fun K1 hK1 => ?_
     change wpQuiet _ _ _ _ ([]) _
     refine wpQuiet_nil ?_
     refine ⟨fun kq hpar => ?_, hK1 _ ?_⟩
     ·exact zb97
     simp only [Act.put]
     go_simp
     refine wpMk1_cons (some 51) rfl (.slice (σ 5).1 0 (σ 5).2) rfl fun K1 hK1 => ?_
     change wpQuiet _ _ _ _ (_ :: _ :: _ :: _ :: []) _
     repeat (go_big_quiet_step (fail))
     refine wpQuiet_nil ?_
     refine ⟨fun kq hpar => ?_, hK1 _ ?_⟩
     ·change wpList _ _ _ (_ :: []) _ _
      obtain ⟨U0, U, hU1, ⟨hU2, hU4⟩, hU5⟩ := hpar 0 (by simp [wiS])
      have hU6 := hU4.to hU5; have hU7 : (σ 0).1 = some ⟨U0.heap.size, 0, none⟩ := hU2; have HUR := lh (HRT.out.below ((HCC4.out _).1 kq.holds).1); have HU6 := lh hU6; clear hU6 hU4 hU2 hU1 hU5 hpar
      rw [hU7]
      have HU7 := lh hU7; clear hU7
      go_wp2_with ((at_builtin; refine wpList_appOn rfl _ _ 27 rfl U0.heap.size 144 i0 _ 3 24 Tryz.underlying27 hi hz0 hz1 hz2 rfl (by decide) Sha.cells sha_len sha_one U0.heap.size rfl HU6.out (Nat.le_refl _) (some ⟨ab, ao, asp⟩) 0 (([] : List Sha).take 0) 0 HTL.out.symm rfl HUR.out (naSome _ _) (by have := HTL.out; unfold maxLen; omega) (by have := HTL.out; omega) ?_; intro g' c' w' hO' hb'))
      exact zb106
     simp only [Act.put]
     go_simp
     refine wpMk1_cons (some 53) rfl (.slice (σ 7).1 1 1) rfl fun K1 hK1 => ?_
     change wpQuiet _ _ _ _ (_ :: []) _
     repeat (go_big_quiet_step (fail))
     refine wpQuiet_nil ?_
     refine ⟨fun kq hpar => ?_, hK1 _ ?_⟩
     ·exact zb85
     simp only [Act.put]
     go_simp
     refine wpMk1_last ?_
     change wpQuiet _ _ _ _ (_ :: []) _
     repeat (go_big_quiet_step (fail))
     refine wpQuiet_nil ?_
     intro V0 V W hM hW
     obtain ⟨g0, g5, e0, e5, q5⟩ : ∃ g g', (σ 0).1 = some ⟨g, 0, none⟩ ∧ (σ 5).1 = some ⟨g', 0, none⟩ ∧ OwnV g 144 3 Sha.cells (V 5) (.slice (σ 5).1 (([] : List Sha).take 0).length (σ 5).2) (([] : List Sha).take 0) := hM.post 5 (by simp)
     obtain ⟨a0, _⟩ : (σ 0).1 = some ⟨(V0 0).heap.size, 0, none⟩ ∧ Blk (V 0) (V0 0).heap.size 144 #[] := hM.post 0 (by simp)
     obtain ⟨g7, e7, u7, q7⟩ : ∃ g, (σ 7).1 = some ⟨g, 0, none⟩ ∧ (V0 7).heap.size = g ∧ Blk (V 7) g 144 #[.int .i64 sm, .int .i64 st, .int .i64 ss] := hM.post 7 (by simp)
     have t0 : (V0 0).heap.size = g0 := by rw [a0] at e0; exact congrArg Addr.block (Option.some.inj e0)
     have O5 := (q5.later (hM.later 5 (by simp))).base (B' := wv.heap.size) (by rw [← t0]; exact (hM.from0 0 (by simp)).size); have hsl9 := hS.lt; have hB7 := q7.below (hM.later 7 (by simp)) q7.lt; have hq2v : Below wv.heap.size wv W := (hM.whole 5 (by simp)).undrew; clear f0 f1 f2 f3 f4; clear s0 s1 s2; clear x0 x1 x2 x3 x4; have hq5 : Below wv.heap.size wv W := bth bel (hM.whole 5 (by simp)).undrew
     replace HB := bth HB hq5; replace O2 := O2.later hq5; replace hF := hF.to hq5; replace hS := hS.to hq5; replace hZ := hZ.to hq5; have z' := hZ.cs5; replace hX := hX.to hq5
     obtain ⟨x0, x1, x2, x3, x4⟩ := hX.cs5
     clear hM q5 q7 a0 e0 t0 u7 hW
     generalize σ 5 = p5 at *
     generalize σ 7 = p7 at *
     obtain ⟨D5, d5⟩ := p5
     obtain ⟨D7, d7⟩ := p7
     simp only at O5 e5 e7
     subst e5
     subst e7
     rw [HTL.out] at O5
     have HR7 : Hid (Rds 3 Sha.cells W (some ⟨g7, 0, none⟩) [(⟨sm, st, ss⟩ : Sha)]) := lh (fun _ => ⟨g7, 0, rfl, hB7.lt, fun i y hy j u hu => by
      exact zb103⟩)
     have hdx5 := O5.notBlk hX (by decide); have hdz5 := O5.notBlk hZ (by decide); have hap5 := O2.apart O5 (by decide); have hdl5 := O5.lt g5 rfl; have szW := HB.size; have szV := hq2v.size; have HF9 := lh hF; have HS9 := lh hS; have hdf5 := O5.notBlk hF (by decide); have HX9 := lh hX; have HZ9 := lh hZ; have HO5 := lh O5; have HB9 := lh HB; have HOW := lh O2; have HAP5 := lh hap5; clear hB7 hX hZ hF hS O5 O2 HB hap5 z' x0 x1 x2 x3 x4
     haveI : Nonempty (Hld (fun _ => True)) := ⟨⟨w, trivial⟩⟩
     refine wpMx_cons fun K2 hK2 => ?_
     refine wpQuiet_nil ?_
     refine wpQuiet_nil ?_
     change wpList _ _ _ (_ :: []) _ _
     have HO5' : Hid (OwnV wv.heap.size 144 3 Sha.cells W (.slice (some ⟨g5, 0, none⟩) 0 d5) (([] : List Sha).take 0)) := HO5
     go_wp2_with ((at_builtin; refine wpList_app1 rfl _ _ 27 rfl wv.heap.size 144 i0 _ 3 24 Tryz.underlying27 hi hz0 hz1 hz2 rfl (by decide) Sha.cells sha_len sha_one _ (([] : List Sha).take 0) rfl HO5'.out ⟨g7, 0, none⟩ 1 ⟨sm, st, ss⟩ rfl HR7.out (by have := HTL.out; unfold maxLen; omega) (by have := HTL.out; omega) szV ?_; intro v8 w8 hO8 hg8 ha8; clear ha8; obtain ⟨Y8, y8, rfl, q1, q2, q3⟩ := hO8.form sha_len; clear q1 q2 q3; have hl8 : (([] : List Sha).take 0 ++ [(⟨sm, st, ss⟩ : Sha)]).length = 0 + 1 := (by rw [List.length_append, HTL.out]; rfl); rw [hl8] at hO8; clear hl8))
     have hF8 := HF9.out.grownN hg8 (fun e => hdf5 (Option.some.inj e)); have hS8 := HS9.out.grownN hg8 (fun e => by have h9 : w.heap.size + 1 = g5 := Option.some.inj e; omega); have hX8 := HX9.out.grownN hg8 (fun e => hdx5 (Option.some.inj e)); have hZ8 := HZ9.out.grownN hg8 (fun e => hdz5 (Option.some.inj e)); have O2w := HOW.out.kept hg8 (fun k hk e => HAP5.out k hk e); have HB8 : Below w.heap.size w w8 := HB9.out.grown hg8 szW (fun q hq => by have h9 : g5 = q := Option.some.inj hq; omega)
     have hdx8 := hO8.notBlkV hX8 (by decide); have hdz8 := hO8.notBlkV hZ8 (by decide); have hap8 := O2w.apart hO8 (by decide); have hdl8 := hO8.lt; have sz8 := HB8.size; have sz8v := Nat.le_trans szV hg8.size; have hdf8 := hO8.notBlkV hF8 (by decide); have hCk := ((HCC4.out _).2 ⟨HB8, hF8, hS8, hX8⟩); have HF9 := lh hF8; have HS9 := lh hS8; have HDF8 := lh hdf8; have HX9 := lh hX8; have HZ9 := lh hZ8
     have HO8 := lh hO8; have HB9 := lh HB8; have HOW := lh O2w; have HAP8 := lh hap8; have HDX8 := lh hdx8; have HDZ8 := lh hdz8; have HDL8 := lh hdl8; clear hX8 hZ8 hO8 O2w HB8 hap8 hdx8 hdz8 hdl8 hg8 hF8 hS8 hdf8
     refine Nrm_keep hCk (hK2 _ _ ?_)
     clear hCk
     refine wpMx_cons fun K3 hK3 => ?_
     refine wpQuiet_nil ?_
     refine wpQuiet_nil ?_
     change wpList _ _ _ (_ :: []) _ _
     try simp only [Act.put]
     try go_simp
     have HRW := lh (HRR.out.below HB9.out)
     go_wp2_with ((at_builtin; refine wpList_app rfl _ _ 27 rfl wv.heap.size 144 i0 _ 3 24 Tryz.underlying27 hi hz0 hz1 hz2 rfl (by decide) Sha.cells sha_len sha_one _ (([] : List Sha).take 0 ++ [(⟨sm, st, ss⟩ : Sha)]) rfl HO8.out (some ⟨ab, ao, asp⟩) (0) (([] : List Sha)) (by rw [HRL.out]; rfl) HRW.out (naSome _ _) (by have h1 := HRL.out; have h2 := HTL.out; rw [List.length_append, h1, h2]; simp only [List.length_cons, List.length_nil]; unfold maxLen; omega) (by have h1 := HRL.out; have h2 := HTL.out; rw [List.length_append, h1, h2]; simp only [List.length_cons, List.length_nil]; omega) sz8v ?_; intro v10 w10 hO10 hg10; rw [← HE1.out] at hO10; obtain ⟨Y, yc, rfl, q1, q2, q3⟩ := hO10.form sha_len; clear q1 q2 q3))
     exact zb4
   ·skip
    skip
    go_enter Tryz.func193, Tryz.ntmps193
    go_upto_region 1 with fail
    refine lay3 fun wX hq1 hF hS hZ => ?_
    have HB := hq1
    obtain ⟨f0, f1, f2, f3, f4⟩ := hF.cs5
    obtain ⟨s0, s1, s2⟩ := hS.cs3
    have z' := hZ.cs5; have hz0' := hZ.lt
    go_wp2_with fail
    refine (l8Own_is tu se sp A2 c2 ws (some ⟨ab, ao, asp⟩) c3 ([] : List Sha) h2 h3 HN2.out (naSome _ _) _ (HR2.out.below (bth HB bel)) (HR3.out.below (bth HB bel))).mono ?_
    rintro e w2 ⟨D2, d2, D3, d3, rfl, OO, hb2⟩
    have hq2 : Below wX.heap.size wX w2 := bth bel hb2; replace HB := bth HB hq2; replace hF := hF.to hq2; clear f0 f1 f2 f3 f4
    obtain ⟨f0, f1, f2, f3, f4⟩ := hF.cs5
    replace hS := hS.to hq2; clear s0 s1 s2
    obtain ⟨s0, s1, s2⟩ := hS.cs3
    replace hZ := hZ.to hq2; clear z'; have z' := hZ.cs5; have szq := hq2.size; have szh := HB.size
    go_upto_region 2 with fail
    have O2' := (OO.o2.later (bl1 w2 (.cells #[.int .i64 tu, .int .i64 se, .int .i64 sp, .slice D2 ws.length d2, .slice D3 0 d3] 29))).base (B' := w.heap.size) (by omega); clear OO; have hq3 : Below w2.heap.size w2 (World.alloc w2 (.cells #[.int .i64 tu, .int .i64 se, .int .i64 sp, .slice D2 ws.length d2, .slice D3 0 d3] 29)) := bl1 w2 _
    have hX : Blk (World.alloc w2 (.cells #[.int .i64 tu, .int .i64 se, .int .i64 sp, .slice D2 ws.length d2, .slice D3 0 d3] 29)) (w2.heap.size) 29 #[.int .i64 tu, .int .i64 se, .int .i64 sp, .slice D2 ws.length d2, .slice D3 0 d3] := by repeat (first | exact Blk.new _ _ _ | exact Blk.new2 _ _ _ _ | exact Blk.new3 _ _ _ _ _ | exact Blk.new4 _ _ _ _ _ _ | refine Blk.alloc ?_ _)
    generalize World.alloc w2 (.cells #[.int .i64 tu, .int .i64 se, .int .i64 sp, .slice D2 ws.length d2, .slice D3 0 d3] 29) = wO at *
    replace HB := bth HB hq3
    obtain ⟨x0, x1, x2, x3, x4⟩ := hX.cs5
    clear f0 f1 f2 f3 f4; replace hF := hF.to hq3
    obtain ⟨f0, f1, f2, f3, f4⟩ := hF.cs5
    clear s0 s1 s2; replace hS := hS.to hq3
    obtain ⟨s0, s1, s2⟩ := hS.cs3
    clear z'; replace hZ := hZ.to hq3; have z' := hZ.cs5; have hx0 := hX.lt; have O2 := O2'; clear O2'; have HF := lh hF; have HS := lh hS; have HZ := lh hZ; have HX := lh hX; have HO2 := lh O2; have HBO := lh HB; clear hF hS hZ hX O2 f0 f1 f2 f3 f4 s0 s1 s2 z' x0 x1 x2 x3 x4
    go_wp2
    go_loopw [6] (fun i wr => i = .int .i64 0 ∧ Below wO.heap.size wO wr) (fun _ _ => 0)
    case atStart => exact ⟨rfl, Below.refl _ _⟩
    case round =>
     obtain ⟨rfl, hb⟩ := hrel
     have hFr := HF.out.below hb HF.out.lt; have hSr := HS.out.below hb HS.out.lt
     have c4 := fun K : Kin wr.heap.size wr => ((hFr.below K.below hFr.lt).cell 4).trans (show _ = some (.slice (some ⟨ab, ao, asp⟩) 0 c3) from rfl)
     have s0 := fun K : Kin wr.heap.size wr => ((hSr.below K.below hSr.lt).cell 0).trans (show _ = some (.int .i64 sm) from rfl)
     go_wp2
     refine wp_region_kin (by kernel_rfl) (by kernel_rfl) ?_
     repeat (go_big_quiet_step ((fail)))
     refine wpQuiet_nil ?_
     intro K
     clear c4 s0 hFr hSr; have hbk := bth hb K.below
     generalize K.world = wk at *
     have hFr := HF.out.below hbk HF.out.lt; have hSr := HS.out.below hbk HS.out.lt; have f4 := (hFr.cell 4).trans (show _ = some (.slice (some ⟨ab, ao, asp⟩) 0 c3) from rfl)
     go_upto_region 6 with fail
     have s0 := fun K : Kin wk.heap.size wk => ((hSr.below K.below hSr.lt).cell 0).trans (show _ = some (.int .i64 sm) from rfl)
     clear hFr hSr f4
     refine wp_region_kin (by kernel_rfl) (by kernel_rfl) ?_
     repeat (go_big_quiet_step ((fail)))
     refine wpQuiet_nil ?_
     intro K
     clear s0; have hbv := bth hbk K.below
     generalize K.world = wv at *
     have HE1 : Hid (setSh ([] : List Sha) ⟨sm, st, ss⟩ = ([] : List Sha).take 0 ++ [(⟨sm, st, ss⟩ : Sha)] ++ ([] : List Sha)) := lh (rfl); have HRL : Hid ((([] : List Sha)).length = 0) := lh (rfl); have HTL : Hid ((([] : List Sha).take 0).length = 0) := lh (by rw [List.length_take]; omega); have HRR : Hid (Rds 3 Sha.cells w (some ⟨ab, ao, asp⟩) (([] : List Sha))) := lh (Rds.nil); have HRT : Hid (Rds 3 Sha.cells w (some ⟨ab, ao, asp⟩) (([] : List Sha).take 0)) := lh (rds_takeq HR3.out 0)
     have hF := HF.out.below hbv HF.out.lt; have hS := HS.out.below hbv HS.out.lt; have hZ := HZ.out.below hbv HZ.out.lt; have hX := HX.out.below hbv HX.out.lt; have O2 := HO2.out.later hbv; have HB := bth HBO.out hbv; have szwv := HB.size; have szov := hbv.size
     obtain ⟨f0, f1, f2, f3, f4⟩ := hF.cs5
     obtain ⟨s0, s1, s2⟩ := hS.cs3
     have z' := hZ.cs5
     obtain ⟨x0, x1, x2, x3, x4⟩ := hX.cs5
     obtain ⟨CC4, hCC4⟩ : ∃ X : World → Prop, ∀ V, X V ↔ (Below w.heap.size w V ∧ Blk V (w.heap.size) 29 #[.int .i64 tu, .int .i64 se, .int .i64 sp, .slice A2 ws.length c2, .slice (some ⟨ab, ao, asp⟩) 0 c3] ∧ Blk V ((w.heap.size + 1)) 144 #[.int .i64 sm, .int .i64 st, .int .i64 ss] ∧ Blk V (w2.heap.size) 29 #[.int .i64 tu, .int .i64 se, .int .i64 sp, .slice D2 ws.length d2, .slice D3 0 d3]) := ⟨_, fun _ => Iff.rfl⟩
     have HCC4 := lh hCC4; clear hCC4
     haveI : Nonempty (Hld CC4) := ⟨⟨wv, ((HCC4.out _).2 ⟨HB, hF, hS, hX⟩)⟩⟩
     clear f0 f1 f2 f3 f4; clear s0 s1 s2; clear z'; clear x0 x1 x2 x3 x4
     obtain ⟨f0, f1, f2, f3, f4⟩ := Blk.cs5K (fun K : Hld CC4 => ((HCC4.out _).1 K.holds).2.1)
     obtain ⟨s0, s1, s2⟩ := Blk.cs3K (fun K : Hld CC4 => ((HCC4.out _).1 K.holds).2.2.1)
     obtain ⟨x0, x1, x2, x3, x4⟩ := Blk.cs5K (fun K : Hld CC4 => ((HCC4.out _).1 K.holds).2.2.2)
     go_upto_region 8 with fail
     refine wp_region_mky (wiS ([] : List Sha) 0 ⟨sm, st, ss⟩) CC4 [([], 0), ([1, 2, 3, 4], 5), ([6], 7)] [9] [([], [], 8, false), ([], [], 10, false), ([], [11], 12, true)] [] [] (by kernel_rfl) (by kernel_rfl) ((HCC4.out _).2 ⟨HB.drew, hF, hS, hX⟩) (fun W W' h k => ((HCC4.out _).2 ⟨((HCC4.out _).1 h).1.trans (k.mono ((HCC4.out _).1 h).1.size), ((HCC4.out _).1 h).2.1.below k ((HCC4.out _).1 h).2.1.lt, ((HCC4.out _).1 h).2.2.1.below k ((HCC4.out _).1 h).2.2.1.lt, ((HCC4.out _).1 h).2.2.2.below k ((HCC4.out _).1 h).2.2.2.lt⟩)) ?_
     intro σ
     refine wpMk1_cons (some 46) rfl (.slice (σ 0).1 0 0) rfl fun K1 hK1 => ?_
     change wpQuiet _ _ _ _ ([]) _
     refine wpQuiet_nil ?_
     refine ⟨fun kq hpar => ?_, hK1 _ ?_⟩
     ·exact zb97
     simp only [Act.put]
     go_simp
     refine wpMk1_cons (some 51) rfl (.slice (σ 5).1 0 (σ 5).2) rfl fun K1 hK1 => ?_
     change wpQuiet _ _ _ _ (_ :: _ :: _ :: _ :: []) _
     repeat (go_big_quiet_step (fail))
     refine wpQuiet_nil ?_
     refine ⟨fun kq hpar => ?_, hK1 _ ?_⟩
     ·change wpList _ _ _ (_ :: []) _ _
      obtain ⟨U0, U, hU1, ⟨hU2, hU4⟩, hU5⟩ := hpar 0 (by simp [wiS])
      have hU6 := hU4.to hU5; have hU7 : (σ 0).1 = some ⟨U0.heap.size, 0, none⟩ := hU2; have HUR := lh (HRT.out.below ((HCC4.out _).1 kq.holds).1); have HU6 := lh hU6; clear hU6 hU4 hU2 hU1 hU5 hpar
      rw [hU7]
      have HU7 := lh hU7; clear hU7
      go_wp2_with ((at_builtin; refine wpList_appOn rfl _ _ 27 rfl U0.heap.size 144 i0 _ 3 24 Tryz.underlying27 hi hz0 hz1 hz2 rfl (by decide) Sha.cells sha_len sha_one U0.heap.size rfl HU6.out (Nat.le_refl _) (some ⟨ab, ao, asp⟩) c3 (([] : List Sha).take 0) 0 HTL.out.symm rfl HUR.out (naSome _ _) (by have := HTL.out; unfold maxLen; omega) (by have := HTL.out; omega) ?_; intro g' c' w' hO' hb'))
      exact zb106
     simp only [Act.put]
     go_simp
     refine wpMk1_cons (some 53) rfl (.slice (σ 7).1 1 1) rfl fun K1 hK1 => ?_
     change wpQuiet _ _ _ _ (_ :: []) _
     repeat (go_big_quiet_step (fail))
     refine wpQuiet_nil ?_
     refine ⟨fun kq hpar => ?_, hK1 _ ?_⟩
     ·exact zb85
     simp only [Act.put]
     go_simp
     refine wpMk1_last ?_
     change wpQuiet _ _ _ _ (_ :: []) _
     repeat (go_big_quiet_step (fail))
     refine wpQuiet_nil ?_
     intro V0 V W hM hW
     obtain ⟨g0, g5, e0, e5, q5⟩ : ∃ g g', (σ 0).1 = some ⟨g, 0, none⟩ ∧ (σ 5).1 = some ⟨g', 0, none⟩ ∧ OwnV g 144 3 Sha.cells (V 5) (.slice (σ 5).1 (([] : List Sha).take 0).length (σ 5).2) (([] : List Sha).take 0) := hM.post 5 (by simp)
     obtain ⟨a0, _⟩ : (σ 0).1 = some ⟨(V0 0).heap.size, 0, none⟩ ∧ Blk (V 0) (V0 0).heap.size 144 #[] := hM.post 0 (by simp)
     obtain ⟨g7, e7, u7, q7⟩ : ∃ g, (σ 7).1 = some ⟨g, 0, none⟩ ∧ (V0 7).heap.size = g ∧ Blk (V 7) g 144 #[.int .i64 sm, .int .i64 st, .int .i64 ss] := hM.post 7 (by simp)
     have t0 : (V0 0).heap.size = g0 := by rw [a0] at e0; exact congrArg Addr.block (Option.some.inj e0)
     have O5 := (q5.later (hM.later 5 (by simp))).base (B' := wv.heap.size) (by rw [← t0]; exact (hM.from0 0 (by simp)).size); have hsl9 := hS.lt; have hB7 := q7.below (hM.later 7 (by simp)) q7.lt; have hq2v : Below wv.heap.size wv W := (hM.whole 5 (by simp)).undrew; clear f0 f1 f2 f3 f4; clear s0 s1 s2; clear x0 x1 x2 x3 x4; have hq5 : Below wv.heap.size wv W := bth bel (hM.whole 5 (by simp)).undrew
     replace HB := bth HB hq5; replace O2 := O2.later hq5; replace hF := hF.to hq5; replace hS := hS.to hq5; replace hZ := hZ.to hq5; have z' := hZ.cs5; replace hX := hX.to hq5
     obtain ⟨x0, x1, x2, x3, x4⟩ := hX.cs5
     clear hM q5 q7 a0 e0 t0 u7 hW
     generalize σ 5 = p5 at *
     generalize σ 7 = p7 at *
     obtain ⟨D5, d5⟩ := p5
     obtain ⟨D7, d7⟩ := p7
     simp only at O5 e5 e7
     subst e5
     subst e7
     rw [HTL.out] at O5
     have HR7 : Hid (Rds 3 Sha.cells W (some ⟨g7, 0, none⟩) [(⟨sm, st, ss⟩ : Sha)]) := lh (fun _ => ⟨g7, 0, rfl, hB7.lt, fun i y hy j u hu => by
      exact zb103⟩)
     have hdx5 := O5.notBlk hX (by decide); have hdz5 := O5.notBlk hZ (by decide); have hap5 := O2.apart O5 (by decide); have hdl5 := O5.lt g5 rfl; have szW := HB.size; have szV := hq2v.size; have HF9 := lh hF; have HS9 := lh hS; have hdf5 := O5.notBlk hF (by decide); have HX9 := lh hX; have HZ9 := lh hZ; have HO5 := lh O5; have HB9 := lh HB; have HOW := lh O2; have HAP5 := lh hap5; clear hB7 hX hZ hF hS O5 O2 HB hap5 z' x0 x1 x2 x3 x4
     haveI : Nonempty (Hld (fun _ => True)) := ⟨⟨w, trivial⟩⟩
     refine wpMx_cons fun K2 hK2 => ?_
     refine wpQuiet_nil ?_
     refine wpQuiet_nil ?_
     change wpList _ _ _ (_ :: []) _ _
     have HO5' : Hid (OwnV wv.heap.size 144 3 Sha.cells W (.slice (some ⟨g5, 0, none⟩) 0 d5) (([] : List Sha).take 0)) := HO5
     go_wp2_with ((at_builtin; refine wpList_app1 rfl _ _ 27 rfl wv.heap.size 144 i0 _ 3 24 Tryz.underlying27 hi hz0 hz1 hz2 rfl (by decide) Sha.cells sha_len sha_one _ (([] : List Sha).take 0) rfl HO5'.out ⟨g7, 0, none⟩ 1 ⟨sm, st, ss⟩ rfl HR7.out (by have := HTL.out; unfold maxLen; omega) (by have := HTL.out; omega) szV ?_; intro v8 w8 hO8 hg8 ha8; clear ha8; obtain ⟨Y8, y8, rfl, q1, q2, q3⟩ := hO8.form sha_len; clear q1 q2 q3; have hl8 : (([] : List Sha).take 0 ++ [(⟨sm, st, ss⟩ : Sha)]).length = 0 + 1 := (by rw [List.length_append, HTL.out]; rfl); rw [hl8] at hO8; clear hl8))
     have hF8 := HF9.out.grownN hg8 (fun e => hdf5 (Option.some.inj e)); have hS8 := HS9.out.grownN hg8 (fun e => by have h9 : w.heap.size + 1 = g5 := Option.some.inj e; omega); have hX8 := HX9.out.grownN hg8 (fun e => hdx5 (Option.some.inj e)); have hZ8 := HZ9.out.grownN hg8 (fun e => hdz5 (Option.some.inj e)); have O2w := HOW.out.kept hg8 (fun k hk e => HAP5.out k hk e); have HB8 : Below w.heap.size w w8 := HB9.out.grown hg8 szW (fun q hq => by have h9 : g5 = q := Option.some.inj hq; omega)
     have hdx8 := hO8.notBlkV hX8 (by decide); have hdz8 := hO8.notBlkV hZ8 (by decide); have hap8 := O2w.apart hO8 (by decide); have hdl8 := hO8.lt; have sz8 := HB8.size; have sz8v := Nat.le_trans szV hg8.size; have hdf8 := hO8.notBlkV hF8 (by decide); have hCk := ((HCC4.out _).2 ⟨HB8, hF8, hS8, hX8⟩); have HF9 := lh hF8; have HS9 := lh hS8; have HDF8 := lh hdf8; have HX9 := lh hX8; have HZ9 := lh hZ8
     have HO8 := lh hO8; have HB9 := lh HB8; have HOW := lh O2w; have HAP8 := lh hap8; have HDX8 := lh hdx8; have HDZ8 := lh hdz8; have HDL8 := lh hdl8; clear hX8 hZ8 hO8 O2w HB8 hap8 hdx8 hdz8 hdl8 hg8 hF8 hS8 hdf8
     refine Nrm_keep hCk (hK2 _ _ ?_)
     clear hCk
     refine wpMx_cons fun K3 hK3 => ?_
     refine wpQuiet_nil ?_
     refine wpQuiet_nil ?_
     change wpList _ _ _ (_ :: []) _ _
     try simp only [Act.put]
     try go_simp
     have HRW := lh (HRR.out.below HB9.out)
     go_wp2_with ((at_builtin; refine wpList_app rfl _ _ 27 rfl wv.heap.size 144 i0 _ 3 24 Tryz.underlying27 hi hz0 hz1 hz2 rfl (by decide) Sha.cells sha_len sha_one _ (([] : List Sha).take 0 ++ [(⟨sm, st, ss⟩ : Sha)]) rfl HO8.out (some ⟨ab, ao, asp⟩) (c3) (([] : List Sha)) (by rw [HRL.out]; rfl) HRW.out (naSome _ _) (by have h1 := HRL.out; have h2 := HTL.out; rw [List.length_append, h1, h2]; simp only [List.length_cons, List.length_nil]; unfold maxLen; omega) (by have h1 := HRL.out; have h2 := HTL.out; rw [List.length_append, h1, h2]; simp only [List.length_cons, List.length_nil]; omega) sz8v ?_; intro v10 w10 hO10 hg10; rw [← HE1.out] at hO10; obtain ⟨Y, yc, rfl, q1, q2, q3⟩ := hO10.form sha_len; clear q1 q2 q3))
     exact zb4
 obtain ⟨b3, o3, _, hA3, hbl3, _, _⟩ := HR3.out.at_ (Below.refl _ _) (k := 0) (by omega)
 subst hA3
 clear HN3; have HN3 : Hid ((some ⟨b3, o3, none⟩ : Option Addr) = none → sh = [] ∧ c3 = 0) := lh (fun h => by cases h)
 go_enter Tryz.func193, Tryz.ntmps193
 go_upto_region 1 with fail
 refine lay3 fun wX hq1 hF hS hZ => ?_
 have HB := hq1
 obtain ⟨f0, f1, f2, f3, f4⟩ := hF.cs5
 obtain ⟨s0, s1, s2⟩ := hS.cs3
 have z' := hZ.cs5; have hz0' := hZ.lt
 go_wp2_with fail
 refine (l8Own_is tu se sp A2 c2 ws (some ⟨b3, o3, none⟩) c3 sh h2 h3 HN2.out HN3.out _ (HR2.out.below (bth HB bel)) (HR3.out.below (bth HB bel))).mono ?_
 rintro e w2 ⟨D2, d2, D3, d3, rfl, OO, hb2⟩
 have hq2 : Below wX.heap.size wX w2 := bth bel hb2; replace HB := bth HB hq2; replace hF := hF.to hq2; clear f0 f1 f2 f3 f4
 obtain ⟨f0, f1, f2, f3, f4⟩ := hF.cs5
 replace hS := hS.to hq2; clear s0 s1 s2
 obtain ⟨s0, s1, s2⟩ := hS.cs3
 replace hZ := hZ.to hq2; clear z'; have z' := hZ.cs5; have szq := hq2.size; have szh := HB.size
 go_upto_region 2 with fail
 have O2' := (OO.o2.later (bl1 w2 (.cells #[.int .i64 tu, .int .i64 se, .int .i64 sp, .slice D2 ws.length d2, .slice D3 sh.length d3] 29))).base (B' := w.heap.size) (by omega); clear OO; have hq3 : Below w2.heap.size w2 (World.alloc w2 (.cells #[.int .i64 tu, .int .i64 se, .int .i64 sp, .slice D2 ws.length d2, .slice D3 sh.length d3] 29)) := bl1 w2 _
 have hX : Blk (World.alloc w2 (.cells #[.int .i64 tu, .int .i64 se, .int .i64 sp, .slice D2 ws.length d2, .slice D3 sh.length d3] 29)) (w2.heap.size) 29 #[.int .i64 tu, .int .i64 se, .int .i64 sp, .slice D2 ws.length d2, .slice D3 sh.length d3] := by repeat (first | exact Blk.new _ _ _ | exact Blk.new2 _ _ _ _ | exact Blk.new3 _ _ _ _ _ | exact Blk.new4 _ _ _ _ _ _ | refine Blk.alloc ?_ _)
 generalize World.alloc w2 (.cells #[.int .i64 tu, .int .i64 se, .int .i64 sp, .slice D2 ws.length d2, .slice D3 sh.length d3] 29) = wO at *
 replace HB := bth HB hq3
 obtain ⟨x0, x1, x2, x3, x4⟩ := hX.cs5
 clear f0 f1 f2 f3 f4; replace hF := hF.to hq3
 obtain ⟨f0, f1, f2, f3, f4⟩ := hF.cs5
 clear s0 s1 s2; replace hS := hS.to hq3
 obtain ⟨s0, s1, s2⟩ := hS.cs3
 clear z'; replace hZ := hZ.to hq3; have z' := hZ.cs5; have hx0 := hX.lt; have O2 := O2'; clear O2'; have HF := lh hF; have HS := lh hS; have HZ := lh hZ; have HX := lh hX; have HO2 := lh O2; have HBO := lh HB; clear hF hS hZ hX O2 f0 f1 f2 f3 f4 s0 s1 s2 z' x0 x1 x2 x3 x4
 go_wp2
 go_loopw [6] (fun i wr => ∃ k : Nat, k ≤ sh.length ∧ i = .int .i64 k ∧ (∀ j x, j < k → sh[j]? = some x → x.mem < sm) ∧ Below wO.heap.size wO wr) (fun i _ => sh.length - (intOf i).toNat)
 case atStart => exact ⟨0, Nat.zero_le _, rfl, fun j x h => absurd h (by omega), Below.refl _ _⟩
 case round =>
  obtain ⟨k, hk, rfl, hl, hb⟩ := hrel
  have HL := lh hl; clear hl; have hFr := HF.out.below hb HF.out.lt; have hSr := HS.out.below hb HS.out.lt
  have c4 := fun K : Kin wr.heap.size wr => ((hFr.below K.below hFr.lt).cell 4).trans (show _ = some (.slice (some ⟨b3, o3, none⟩) sh.length c3) from rfl)
  have s0 := fun K : Kin wr.heap.size wr => ((hSr.below K.below hSr.lt).cell 0).trans (show _ = some (.int .i64 sm) from rfl)
  by_cases hlt : k < sh.length
  ·obtain ⟨b, off, ⟨xm, xt, xc⟩, hAe, hbl, hx, hcx⟩ := (HR3.out.below HBO.out).at_ hb hlt
   obtain ⟨rfl, rfl⟩ : b3 = b ∧ o3 = off := by injection hAe with hAe; injection hAe with h1 h2; exact ⟨h1, h2⟩
   have x0 := hcx 0 _ rfl
   simp only [Nat.add_zero] at x0
   have HX3 := lh hx; clear hx hcx hAe; have hlt' : decide ((k : Int) < (sh.length : Int)) = true := decide_eq_true (by omega)
   by_cases hm : xm < sm
   ·go_wp2
    refine wp_region_kin (by kernel_rfl) (by kernel_rfl) ?_
    repeat (go_big_quiet_step ((fail)))
    refine wpQuiet_nil ?_
    intro K
    clear c4 s0 x0 hFr hSr
    go_wp2
    go_roundw
    case rel => exact ⟨k + 1, by omega, by go_num, fun j y hj hy => by
     by_cases e : j = k
     ·subst e; rw [HX3.out] at hy; cases hy; exact hm
     ·exact HL.out j y (by omega) hy, bth hb K.below⟩
    case measure => simp [intOf]; omega
   ·have hm' : decide (xm < sm) = false := decide_eq_false hm
    go_wp2
    refine wp_region_kin (by kernel_rfl) (by kernel_rfl) ?_
    repeat (go_big_quiet_step ((fail)))
    refine wpQuiet_nil ?_
    intro K
    clear c4 s0 x0 hm' hFr hSr; have hbk := bth hb K.below
    generalize K.world = wk at *
    have hFr := HF.out.below hbk HF.out.lt; have hSr := HS.out.below hbk HS.out.lt; have f0 := (hFr.cell 0).trans (show _ = some (.int .i64 tu) from rfl); have f4 := (hFr.cell 4).trans (show _ = some (.slice (some ⟨b3, o3, none⟩) sh.length c3) from rfl)
    have hck : ¬ c3 = k := by omega
    go_upto_region 6 with fail
    have x0 := fun K : Kin wk.heap.size wk => (rds_cellz (HR3.out.below (bth (bth HBO.out hbk) K.below)) HX3.out (i := 0) (u := .int .i64 xm) rfl)
    have s0 := fun K : Kin wk.heap.size wk => ((hSr.below K.below hSr.lt).cell 0).trans (show _ = some (.int .i64 sm) from rfl)
    simp only [Nat.add_zero] at x0
    have hgt : decide (0 < sh.length - k) = true := decide_eq_true (by omega)
    have hkc : k ≤ c3 := by omega
    clear f0 f4 hFr hSr
    by_cases he : xm = sm
    ·refine wp_region_kin (by kernel_rfl) (by kernel_rfl) ?_
     repeat (go_big_quiet_step ((fail)))
     refine wpQuiet_nil ?_
     intro K
     clear s0 x0 hgt; have hbv := bth hbk K.below
     generalize K.world = wv at *
     by_cases hc1 : c3 - k = 1
     ·skip
      have hd0 : sh.drop (k + 1) = [] := List.drop_of_length_le (by omega); have HE1 : Hid (setSh sh ⟨sm, st, ss⟩ = sh.take k ++ [(⟨sm, st, ss⟩ : Sha)] ++ sh.drop (k + 1)) := lh (by rw [setSh_cut (k := k) (by omega) HL.out (fun y hy => by rw [HX3.out] at hy; cases hy; show ¬ xm < sm; omega), HX3.out]; simp [he]); have HRL : Hid ((sh.drop (k + 1)).length = (sh.length - k - 1)) := lh (by rw [List.length_drop]; omega)
      have HTL : Hid ((sh.take k).length = k) := lh (by rw [List.length_take]; omega); have HRR : Hid (Rds 3 Sha.cells w (some ⟨b3, o3 + k * 3, none⟩) (sh.drop (k + 1))) := lh (by rw [hd0]; exact Rds.nil); have HRT : Hid (Rds 3 Sha.cells w (some ⟨b3, o3, none⟩) (sh.take k)) := lh (rds_takeq HR3.out k); have hF := HF.out.below hbv HF.out.lt; have hS := HS.out.below hbv HS.out.lt; have hZ := HZ.out.below hbv HZ.out.lt
      have hX := HX.out.below hbv HX.out.lt; have O2 := HO2.out.later hbv; have HB := bth HBO.out hbv; have szwv := HB.size; have szov := hbv.size
      obtain ⟨f0, f1, f2, f3, f4⟩ := hF.cs5
      obtain ⟨s0, s1, s2⟩ := hS.cs3
      have z' := hZ.cs5
      obtain ⟨x0, x1, x2, x3, x4⟩ := hX.cs5
      obtain ⟨CC4, hCC4⟩ : ∃ X : World → Prop, ∀ V, X V ↔ (Below w.heap.size w V ∧ Blk V (w.heap.size) 29 #[.int .i64 tu, .int .i64 se, .int .i64 sp, .slice A2 ws.length c2, .slice (some ⟨b3, o3, none⟩) sh.length c3] ∧ Blk V ((w.heap.size + 1)) 144 #[.int .i64 sm, .int .i64 st, .int .i64 ss] ∧ Blk V (w2.heap.size) 29 #[.int .i64 tu, .int .i64 se, .int .i64 sp, .slice D2 ws.length d2, .slice D3 sh.length d3]) := ⟨_, fun _ => Iff.rfl⟩
      have HCC4 := lh hCC4; clear hCC4
      haveI : Nonempty (Hld CC4) := ⟨⟨wv, ((HCC4.out _).2 ⟨HB, hF, hS, hX⟩)⟩⟩
      clear f0 f1 f2 f3 f4; clear s0 s1 s2; clear z'; clear x0 x1 x2 x3 x4
      obtain ⟨f0, f1, f2, f3, f4⟩ := Blk.cs5K (fun K : Hld CC4 => ((HCC4.out _).1 K.holds).2.1)
      obtain ⟨s0, s1, s2⟩ := Blk.cs3K (fun K : Hld CC4 => ((HCC4.out _).1 K.holds).2.2.1)
      obtain ⟨x0, x1, x2, x3, x4⟩ := Blk.cs5K (fun K : Hld CC4 => ((HCC4.out _).1 K.holds).2.2.2)
      go_upto_region 8 with fail
      refine wp_region_mky (wiS sh k ⟨sm, st, ss⟩) CC4 [([], 0), ([1, 2, 3, 4], 5), ([6], 7)] [9] [([], [], 8, false), ([], [], 10, false), ([], [11], 12, true)] [] [] (by kernel_rfl) (by kernel_rfl) ((HCC4.out _).2 ⟨HB.drew, hF, hS, hX⟩) (fun W W' h k => ((HCC4.out _).2 ⟨((HCC4.out _).1 h).1.trans (k.mono ((HCC4.out _).1 h).1.size), ((HCC4.out _).1 h).2.1.below k ((HCC4.out _).1 h).2.1.lt, ((HCC4.out _).1 h).2.2.1.below k ((HCC4.out _).1 h).2.2.1.lt, ((HCC4.out _).1 h).2.2.2.below k ((HCC4.out _).1 h).2.2.2.lt⟩)) ?_
      intro σ
      refine wpMk1_cons (some 46) rfl (.slice (σ 0).1 0 0) rfl fun K1 hK1 => ?_
      change wpQuiet _ _ _ _ ([]) _
      refine wpQuiet_nil ?_
      refine ⟨fun kq hpar => ?_, hK1 _ ?_⟩
      ·exact zb97
      simp only [Act.put]
      go_simp
      refine wpMk1_cons (some 51) rfl (.slice (σ 5).1 k (σ 5).2) rfl fun K1 hK1 => ?_
      change wpQuiet _ _ _ _ (_ :: _ :: _ :: _ :: []) _
      repeat (go_big_quiet_step (fail))
      refine wpQuiet_nil ?_
      refine ⟨fun kq hpar => ?_, hK1 _ ?_⟩
      ·change wpList _ _ _ (_ :: []) _ _
       obtain ⟨U0, U, hU1, ⟨hU2, hU4⟩, hU5⟩ := hpar 0 (by simp [wiS])
       have hU6 := hU4.to hU5; have hU7 : (σ 0).1 = some ⟨U0.heap.size, 0, none⟩ := hU2; have HUR := lh (HRT.out.below ((HCC4.out _).1 kq.holds).1)
       exact zb30
      simp only [Act.put]
      go_simp
      refine wpMk1_cons (some 53) rfl (.slice (σ 7).1 1 1) rfl fun K1 hK1 => ?_
      change wpQuiet _ _ _ _ (_ :: []) _
      repeat (go_big_quiet_step (fail))
      refine wpQuiet_nil ?_
      refine ⟨fun kq hpar => ?_, hK1 _ ?_⟩
      ·exact zb85
      simp only [Act.put]
      go_simp
      refine wpMk1_last ?_
      change wpQuiet _ _ _ _ (_ :: []) _
      repeat (go_big_quiet_step (fail))
      refine wpQuiet_nil ?_
      intro V0 V W hM hW
      obtain ⟨g0, g5, e0, e5, q5⟩ : ∃ g g', (σ 0).1 = some ⟨g, 0, none⟩ ∧ (σ 5).1 = some ⟨g', 0, none⟩ ∧ OwnV g 144 3 Sha.cells (V 5) (.slice (σ 5).1 (sh.take k).length (σ 5).2) (sh.take k) := hM.post 5 (by simp)
      obtain ⟨a0, _⟩ : (σ 0).1 = some ⟨(V0 0).heap.size, 0, none⟩ ∧ Blk (V 0) (V0 0).heap.size 144 #[] := hM.post 0 (by simp)
      obtain ⟨g7, e7, u7, q7⟩ : ∃ g, (σ 7).1 = some ⟨g, 0, none⟩ ∧ (V0 7).heap.size = g ∧ Blk (V 7) g 144 #[.int .i64 sm, .int .i64 st, .int .i64 ss] := hM.post 7 (by simp)
      have t0 : (V0 0).heap.size = g0 := by rw [a0] at e0; exact congrArg Addr.block (Option.some.inj e0)
      have O5 := (q5.later (hM.later 5 (by simp))).base (B' := wv.heap.size) (by rw [← t0]; exact (hM.from0 0 (by simp)).size); have hsl9 := hS.lt; have hB7 := q7.below (hM.later 7 (by simp)) q7.lt; have hq2v : Below wv.heap.size wv W := (hM.whole 5 (by simp)).undrew; clear f0 f1 f2 f3 f4; clear s0 s1 s2; clear x0 x1 x2 x3 x4; have hq5 : Below wv.heap.size wv W := bth bel (hM.whole 5 (by simp)).undrew
      replace HB := bth HB hq5; replace O2 := O2.later hq5; replace hF := hF.to hq5; replace hS := hS.to hq5; replace hZ := hZ.to hq5; have z' := hZ.cs5; replace hX := hX.to hq5
      obtain ⟨x0, x1, x2, x3, x4⟩ := hX.cs5
      clear hM q5 q7 a0 e0 t0 u7 hW
      generalize σ 5 = p5 at *
      generalize σ 7 = p7 at *
      obtain ⟨D5, d5⟩ := p5
      obtain ⟨D7, d7⟩ := p7
      simp only at O5 e5 e7
      subst e5
      subst e7
      rw [HTL.out] at O5
      have HR7 : Hid (Rds 3 Sha.cells W (some ⟨g7, 0, none⟩) [(⟨sm, st, ss⟩ : Sha)]) := lh (fun _ => ⟨g7, 0, rfl, hB7.lt, fun i y hy j u hu => by
       exact zb103⟩)
      have hdx5 := O5.notBlk hX (by decide); have hdz5 := O5.notBlk hZ (by decide); have hap5 := O2.apart O5 (by decide); have hdl5 := O5.lt g5 rfl; have szW := HB.size; have szV := hq2v.size; have HF9 := lh hF; have HS9 := lh hS; have hdf5 := O5.notBlk hF (by decide); have HX9 := lh hX; have HZ9 := lh hZ; have HO5 := lh O5; have HB9 := lh HB; have HOW := lh O2; have HAP5 := lh hap5; clear hB7 hX hZ hF hS O5 O2 HB hap5 z' x0 x1 x2 x3 x4
      haveI : Nonempty (Hld (fun _ => True)) := ⟨⟨w, trivial⟩⟩
      refine wpMx_cons fun K2 hK2 => ?_
      refine wpQuiet_nil ?_
      refine wpQuiet_nil ?_
      change wpList _ _ _ (_ :: []) _ _
      have HO5' : Hid (OwnV wv.heap.size 144 3 Sha.cells W (.slice (some ⟨g5, 0, none⟩) k d5) (sh.take k)) := HO5
      go_wp2_with ((at_builtin; refine wpList_app1 rfl _ _ 27 rfl wv.heap.size 144 i0 _ 3 24 Tryz.underlying27 hi hz0 hz1 hz2 rfl (by decide) Sha.cells sha_len sha_one _ (sh.take k) rfl HO5'.out ⟨g7, 0, none⟩ 1 ⟨sm, st, ss⟩ rfl HR7.out (by have := HTL.out; unfold maxLen; omega) (by have := HTL.out; omega) szV ?_; intro v8 w8 hO8 hg8 ha8; clear ha8; obtain ⟨Y8, y8, rfl, q1, q2, q3⟩ := hO8.form sha_len; clear q1 q2 q3; have hl8 : (sh.take k ++ [(⟨sm, st, ss⟩ : Sha)]).length = k + 1 := (by rw [List.length_append, HTL.out]; rfl); rw [hl8] at hO8; clear hl8))
      have hF8 := HF9.out.grownN hg8 (fun e => hdf5 (Option.some.inj e)); have hS8 := HS9.out.grownN hg8 (fun e => by have h9 : w.heap.size + 1 = g5 := Option.some.inj e; omega); have hX8 := HX9.out.grownN hg8 (fun e => hdx5 (Option.some.inj e)); have hZ8 := HZ9.out.grownN hg8 (fun e => hdz5 (Option.some.inj e)); have O2w := HOW.out.kept hg8 (fun k hk e => HAP5.out k hk e); have HB8 : Below w.heap.size w w8 := HB9.out.grown hg8 szW (fun q hq => by have h9 : g5 = q := Option.some.inj hq; omega)
      have hdx8 := hO8.notBlkV hX8 (by decide); have hdz8 := hO8.notBlkV hZ8 (by decide); have hap8 := O2w.apart hO8 (by decide); have hdl8 := hO8.lt; have sz8 := HB8.size; have sz8v := Nat.le_trans szV hg8.size; have hdf8 := hO8.notBlkV hF8 (by decide); have hCk := ((HCC4.out _).2 ⟨HB8, hF8, hS8, hX8⟩); have HF9 := lh hF8; have HS9 := lh hS8; have HDF8 := lh hdf8; have HX9 := lh hX8; have HZ9 := lh hZ8
      have HO8 := lh hO8; have HB9 := lh HB8; have HOW := lh O2w; have HAP8 := lh hap8; have HDX8 := lh hdx8; have HDZ8 := lh hdz8; have HDL8 := lh hdl8; clear hX8 hZ8 hO8 O2w HB8 hap8 hdx8 hdz8 hdl8 hg8 hF8 hS8 hdf8
      refine Nrm_keep hCk (hK2 _ _ ?_)
      clear hCk
      refine wpMx_cons fun K3 hK3 => ?_
      refine wpQuiet_nil ?_
      refine wpQuiet_nil ?_
      change wpList _ _ _ (_ :: []) _ _
      try simp only [Act.put]
      try go_simp
      have HRW := lh (HRR.out.below HB9.out)
      go_wp2_with ((at_builtin; refine wpList_app rfl _ _ 27 rfl wv.heap.size 144 i0 _ 3 24 Tryz.underlying27 hi hz0 hz1 hz2 rfl (by decide) Sha.cells sha_len sha_one _ (sh.take k ++ [(⟨sm, st, ss⟩ : Sha)]) rfl HO8.out (some ⟨b3, o3 + k * 3, none⟩) (0) (sh.drop (k + 1)) (by rw [HRL.out]; rfl) HRW.out (fun h => by cases h) (by have h1 := HRL.out; have h2 := HTL.out; rw [List.length_append, h1, h2]; simp only [List.length_cons, List.length_nil]; unfold maxLen; omega) (by have h1 := HRL.out; have h2 := HTL.out; rw [List.length_append, h1, h2]; simp only [List.length_cons, List.length_nil]; omega) sz8v ?_; intro v10 w10 hO10 hg10; rw [← HE1.out] at hO10; obtain ⟨Y, yc, rfl, q1, q2, q3⟩ := hO10.form sha_len; clear q1 q2 q3))
      have hF9 := HF9.out.grownN hg10 (fun e => HDF8.out _ e.symm rfl); have hS9 := HS9.out.grownN hg10 (fun e => by have h9 := (HDL8.out _ e.symm).1; omega); have hX9 := HX9.out.grownN hg10 (fun e => HDX8.out _ e.symm rfl); have hZ9 := HZ9.out.grownN hg10 (fun e => HDZ8.out _ e.symm rfl); have O2 := HOW.out.kept hg10 (fun k hk e => HAP8.out k hk e); have O3 := hO10; have HB := HB9.out.grown hg10 sz8 (fun q hq => by have := (HDL8.out q hq).1; omega)
      clear hg10 hO10
      refine Nrm_keep ((HCC4.out _).2 ⟨HB, hF9, hS9, hX9⟩) (hK3 _ _ ?_)
      exact zb8
     ·skip
      have HE1 : Hid (setSh sh ⟨sm, st, ss⟩ = sh.take k ++ [(⟨sm, st, ss⟩ : Sha)] ++ sh.drop (k + 1)) := lh (by rw [setSh_cut (k := k) (by omega) HL.out (fun y hy => by rw [HX3.out] at hy; cases hy; show ¬ xm < sm; omega), HX3.out]; simp [he]); have HRL : Hid ((sh.drop (k + 1)).length = (sh.length - k - 1)) := lh (by rw [List.length_drop]; omega); have HTL : Hid ((sh.take k).length = k) := lh (by rw [List.length_take]; omega)
      have HRR : Hid (Rds 3 Sha.cells w (some ⟨b3, o3 + k * 3 + 3, none⟩) (sh.drop (k + 1))) := lh (by have h := rds_dropz HR3.out (k + 1); rw [Nat.add_mul, Nat.one_mul, ← Nat.add_assoc] at h; exact h); have HRT : Hid (Rds 3 Sha.cells w (some ⟨b3, o3, none⟩) (sh.take k)) := lh (rds_takeq HR3.out k); have hF := HF.out.below hbv HF.out.lt; have hS := HS.out.below hbv HS.out.lt; have hZ := HZ.out.below hbv HZ.out.lt
      have hX := HX.out.below hbv HX.out.lt; have O2 := HO2.out.later hbv; have HB := bth HBO.out hbv; have szwv := HB.size; have szov := hbv.size
      obtain ⟨f0, f1, f2, f3, f4⟩ := hF.cs5
      obtain ⟨s0, s1, s2⟩ := hS.cs3
      have z' := hZ.cs5
      obtain ⟨x0, x1, x2, x3, x4⟩ := hX.cs5
      obtain ⟨CC6, hCC6⟩ : ∃ X : World → Prop, ∀ V, X V ↔ (Below w.heap.size w V ∧ Blk V (w.heap.size) 29 #[.int .i64 tu, .int .i64 se, .int .i64 sp, .slice A2 ws.length c2, .slice (some ⟨b3, o3, none⟩) sh.length c3] ∧ Blk V ((w.heap.size + 1)) 144 #[.int .i64 sm, .int .i64 st, .int .i64 ss] ∧ Blk V (w2.heap.size) 29 #[.int .i64 tu, .int .i64 se, .int .i64 sp, .slice D2 ws.length d2, .slice D3 sh.length d3]) := ⟨_, fun _ => Iff.rfl⟩
      have HCC6 := lh hCC6; clear hCC6
      haveI : Nonempty (Hld CC6) := ⟨⟨wv, ((HCC6.out _).2 ⟨HB, hF, hS, hX⟩)⟩⟩
      clear f0 f1 f2 f3 f4; clear s0 s1 s2; clear z'; clear x0 x1 x2 x3 x4
      obtain ⟨f0, f1, f2, f3, f4⟩ := Blk.cs5K (fun K : Hld CC6 => ((HCC6.out _).1 K.holds).2.1)
      obtain ⟨s0, s1, s2⟩ := Blk.cs3K (fun K : Hld CC6 => ((HCC6.out _).1 K.holds).2.2.1)
      obtain ⟨x0, x1, x2, x3, x4⟩ := Blk.cs5K (fun K : Hld CC6 => ((HCC6.out _).1 K.holds).2.2.2)
      go_upto_region 8 with fail
      refine wp_region_mky (wiS sh k ⟨sm, st, ss⟩) CC6 [([], 0), ([1, 2, 3, 4], 5), ([6], 7)] [9] [([], [], 8, false), ([], [], 10, false), ([], [11], 12, true)] [] [] (by kernel_rfl) (by kernel_rfl) ((HCC6.out _).2 ⟨HB.drew, hF, hS, hX⟩) (fun W W' h k => ((HCC6.out _).2 ⟨((HCC6.out _).1 h).1.trans (k.mono ((HCC6.out _).1 h).1.size), ((HCC6.out _).1 h).2.1.below k ((HCC6.out _).1 h).2.1.lt, ((HCC6.out _).1 h).2.2.1.below k ((HCC6.out _).1 h).2.2.1.lt, ((HCC6.out _).1 h).2.2.2.below k ((HCC6.out _).1 h).2.2.2.lt⟩)) ?_
      intro σ
      refine wpMk1_cons (some 46) rfl (.slice (σ 0).1 0 0) rfl fun K1 hK1 => ?_
      change wpQuiet _ _ _ _ ([]) _
      refine wpQuiet_nil ?_
      refine ⟨fun kq hpar => ?_, hK1 _ ?_⟩
      ·exact zb97
      simp only [Act.put]
      go_simp
      refine wpMk1_cons (some 51) rfl (.slice (σ 5).1 k (σ 5).2) rfl fun K1 hK1 => ?_
      change wpQuiet _ _ _ _ (_ :: _ :: _ :: _ :: []) _
      repeat (go_big_quiet_step (fail))
      refine wpQuiet_nil ?_
      refine ⟨fun kq hpar => ?_, hK1 _ ?_⟩
      ·change wpList _ _ _ (_ :: []) _ _
       obtain ⟨U0, U, hU1, ⟨hU2, hU4⟩, hU5⟩ := hpar 0 (by simp [wiS])
       have hU6 := hU4.to hU5; have hU7 : (σ 0).1 = some ⟨U0.heap.size, 0, none⟩ := hU2; have HUR := lh (HRT.out.below ((HCC6.out _).1 kq.holds).1)
       exact zb30
      simp only [Act.put]
      go_simp
      refine wpMk1_cons (some 53) rfl (.slice (σ 7).1 1 1) rfl fun K1 hK1 => ?_
      change wpQuiet _ _ _ _ (_ :: []) _
      repeat (go_big_quiet_step (fail))
      refine wpQuiet_nil ?_
      refine ⟨fun kq hpar => ?_, hK1 _ ?_⟩
      ·exact zb85
      simp only [Act.put]
      go_simp
      refine wpMk1_last ?_
      change wpQuiet _ _ _ _ (_ :: []) _
      repeat (go_big_quiet_step (fail))
      refine wpQuiet_nil ?_
      intro V0 V W hM hW
      obtain ⟨g0, g5, e0, e5, q5⟩ : ∃ g g', (σ 0).1 = some ⟨g, 0, none⟩ ∧ (σ 5).1 = some ⟨g', 0, none⟩ ∧ OwnV g 144 3 Sha.cells (V 5) (.slice (σ 5).1 (sh.take k).length (σ 5).2) (sh.take k) := hM.post 5 (by simp)
      obtain ⟨a0, _⟩ : (σ 0).1 = some ⟨(V0 0).heap.size, 0, none⟩ ∧ Blk (V 0) (V0 0).heap.size 144 #[] := hM.post 0 (by simp)
      obtain ⟨g7, e7, u7, q7⟩ : ∃ g, (σ 7).1 = some ⟨g, 0, none⟩ ∧ (V0 7).heap.size = g ∧ Blk (V 7) g 144 #[.int .i64 sm, .int .i64 st, .int .i64 ss] := hM.post 7 (by simp)
      have t0 : (V0 0).heap.size = g0 := by rw [a0] at e0; exact congrArg Addr.block (Option.some.inj e0)
      have O5 := (q5.later (hM.later 5 (by simp))).base (B' := wv.heap.size) (by rw [← t0]; exact (hM.from0 0 (by simp)).size); have hsl9 := hS.lt; have hB7 := q7.below (hM.later 7 (by simp)) q7.lt; have hq2v : Below wv.heap.size wv W := (hM.whole 5 (by simp)).undrew; clear f0 f1 f2 f3 f4; clear s0 s1 s2; clear x0 x1 x2 x3 x4; have hq7 : Below wv.heap.size wv W := bth bel (hM.whole 5 (by simp)).undrew
      replace HB := bth HB hq7; replace O2 := O2.later hq7; replace hF := hF.to hq7; replace hS := hS.to hq7; replace hZ := hZ.to hq7; have z' := hZ.cs5; replace hX := hX.to hq7
      obtain ⟨x0, x1, x2, x3, x4⟩ := hX.cs5
      clear hM q5 q7 a0 e0 t0 u7 hW
      generalize σ 5 = p5 at *
      generalize σ 7 = p7 at *
      obtain ⟨D5, d5⟩ := p5
      obtain ⟨D7, d7⟩ := p7
      simp only at O5 e5 e7
      subst e5
      subst e7
      rw [HTL.out] at O5
      have HR7 : Hid (Rds 3 Sha.cells W (some ⟨g7, 0, none⟩) [(⟨sm, st, ss⟩ : Sha)]) := lh (fun _ => ⟨g7, 0, rfl, hB7.lt, fun i y hy j u hu => by
       exact zb103⟩)
      have hdx5 := O5.notBlk hX (by decide); have hdz5 := O5.notBlk hZ (by decide); have hap5 := O2.apart O5 (by decide); have hdl5 := O5.lt g5 rfl; have szW := HB.size; have szV := hq2v.size; have HF9 := lh hF; have HS9 := lh hS; have hdf5 := O5.notBlk hF (by decide); have HX9 := lh hX; have HZ9 := lh hZ; have HO5 := lh O5; have HB9 := lh HB; have HOW := lh O2; have HAP5 := lh hap5; clear hB7 hX hZ hF hS O5 O2 HB hap5 z' x0 x1 x2 x3 x4
      haveI : Nonempty (Hld (fun _ => True)) := ⟨⟨w, trivial⟩⟩
      refine wpMx_cons fun K2 hK2 => ?_
      refine wpQuiet_nil ?_
      refine wpQuiet_nil ?_
      change wpList _ _ _ (_ :: []) _ _
      have HO5' : Hid (OwnV wv.heap.size 144 3 Sha.cells W (.slice (some ⟨g5, 0, none⟩) k d5) (sh.take k)) := HO5
      go_wp2_with ((at_builtin; refine wpList_app1 rfl _ _ 27 rfl wv.heap.size 144 i0 _ 3 24 Tryz.underlying27 hi hz0 hz1 hz2 rfl (by decide) Sha.cells sha_len sha_one _ (sh.take k) rfl HO5'.out ⟨g7, 0, none⟩ 1 ⟨sm, st, ss⟩ rfl HR7.out (by have := HTL.out; unfold maxLen; omega) (by have := HTL.out; omega) szV ?_; intro v8 w8 hO8 hg8 ha8; clear ha8; obtain ⟨Y8, y8, rfl, q1, q2, q3⟩ := hO8.form sha_len; clear q1 q2 q3; have hl8 : (sh.take k ++ [(⟨sm, st, ss⟩ : Sha)]).length = k + 1 := (by rw [List.length_append, HTL.out]; rfl); rw [hl8] at hO8; clear hl8))
      have hF8 := HF9.out.grownN hg8 (fun e => hdf5 (Option.some.inj e)); have hS8 := HS9.out.grownN hg8 (fun e => by have h9 : w.heap.size + 1 = g5 := Option.some.inj e; omega); have hX8 := HX9.out.grownN hg8 (fun e => hdx5 (Option.some.inj e)); have hZ8 := HZ9.out.grownN hg8 (fun e => hdz5 (Option.some.inj e)); have O2w := HOW.out.kept hg8 (fun k hk e => HAP5.out k hk e); have HB8 : Below w.heap.size w w8 := HB9.out.grown hg8 szW (fun q hq => by have h9 : g5 = q := Option.some.inj hq; omega)
      have hdx8 := hO8.notBlkV hX8 (by decide); have hdz8 := hO8.notBlkV hZ8 (by decide); have hap8 := O2w.apart hO8 (by decide); have hdl8 := hO8.lt; have sz8 := HB8.size; have sz8v := Nat.le_trans szV hg8.size; have hdf8 := hO8.notBlkV hF8 (by decide); have hCk := ((HCC6.out _).2 ⟨HB8, hF8, hS8, hX8⟩); have HF9 := lh hF8; have HS9 := lh hS8; have HDF8 := lh hdf8; have HX9 := lh hX8; have HZ9 := lh hZ8
      have HO8 := lh hO8; have HB9 := lh HB8; have HOW := lh O2w; have HAP8 := lh hap8; have HDX8 := lh hdx8; have HDZ8 := lh hdz8; have HDL8 := lh hdl8; clear hX8 hZ8 hO8 O2w HB8 hap8 hdx8 hdz8 hdl8 hg8 hF8 hS8 hdf8
      refine Nrm_keep hCk (hK2 _ _ ?_)
      clear hCk
      refine wpMx_cons fun K3 hK3 => ?_
      refine wpQuiet_nil ?_
      refine wpQuiet_nil ?_
      change wpList _ _ _ (_ :: []) _ _
      try simp only [Act.put]
      try go_simp
      have HRW := lh (HRR.out.below HB9.out)
      go_wp2_with ((at_builtin; refine wpList_app rfl _ _ 27 rfl wv.heap.size 144 i0 _ 3 24 Tryz.underlying27 hi hz0 hz1 hz2 rfl (by decide) Sha.cells sha_len sha_one _ (sh.take k ++ [(⟨sm, st, ss⟩ : Sha)]) rfl HO8.out (some ⟨b3, o3 + k * 3 + 3, none⟩) (c3 - k - 1) (sh.drop (k + 1)) (by rw [HRL.out]; rfl) HRW.out (fun h => by cases h) (by have h1 := HRL.out; have h2 := HTL.out; rw [List.length_append, h1, h2]; simp only [List.length_cons, List.length_nil]; unfold maxLen; omega) (by have h1 := HRL.out; have h2 := HTL.out; rw [List.length_append, h1, h2]; simp only [List.length_cons, List.length_nil]; omega) sz8v ?_; intro v10 w10 hO10 hg10; rw [← HE1.out] at hO10; obtain ⟨Y, yc, rfl, q1, q2, q3⟩ := hO10.form sha_len; clear q1 q2 q3))
      have hF9 := HF9.out.grownN hg10 (fun e => HDF8.out _ e.symm rfl); have hS9 := HS9.out.grownN hg10 (fun e => by have h9 := (HDL8.out _ e.symm).1; omega); have hX9 := HX9.out.grownN hg10 (fun e => HDX8.out _ e.symm rfl); have hZ9 := HZ9.out.grownN hg10 (fun e => HDZ8.out _ e.symm rfl); have O2 := HOW.out.kept hg10 (fun k hk e => HAP8.out k hk e); have O3 := hO10; have HB := HB9.out.grown hg10 sz8 (fun q hq => by have := (HDL8.out q hq).1; omega)
      clear hg10 hO10
      refine Nrm_keep ((HCC6.out _).2 ⟨HB, hF9, hS9, hX9⟩) (hK3 _ _ ?_)
      exact zb8
    ·have he' : (xm == sm) = false := beq_eq_false_iff_ne.2 he
     refine wp_region_kin (by kernel_rfl) (by kernel_rfl) ?_
     repeat (go_big_quiet_step ((fail)))
     refine wpQuiet_nil ?_
     intro K
     clear s0 x0 he' hgt; have hbv := bth hbk K.below
     generalize K.world = wv at *
     skip
     have HE1 : Hid (setSh sh ⟨sm, st, ss⟩ = sh.take k ++ [(⟨sm, st, ss⟩ : Sha)] ++ sh.drop k) := lh (by rw [setSh_cut (k := k) (by omega) HL.out (fun y hy => by rw [HX3.out] at hy; cases hy; show ¬ xm < sm; omega), HX3.out]; simp [he]); have HRL : Hid ((sh.drop k).length = (sh.length - k)) := lh (by rw [List.length_drop]); have HTL : Hid ((sh.take k).length = k) := lh (by rw [List.length_take]; omega)
     have HRR : Hid (Rds 3 Sha.cells w (some ⟨b3, o3 + k * 3, none⟩) (sh.drop k)) := lh (rds_dropz HR3.out k); have HRT : Hid (Rds 3 Sha.cells w (some ⟨b3, o3, none⟩) (sh.take k)) := lh (rds_takeq HR3.out k); have hF := HF.out.below hbv HF.out.lt; have hS := HS.out.below hbv HS.out.lt; have hZ := HZ.out.below hbv HZ.out.lt; have hX := HX.out.below hbv HX.out.lt; have O2 := HO2.out.later hbv; have HB := bth HBO.out hbv
     have szwv := HB.size; have szov := hbv.size
     obtain ⟨f0, f1, f2, f3, f4⟩ := hF.cs5
     obtain ⟨s0, s1, s2⟩ := hS.cs3
     have z' := hZ.cs5
     obtain ⟨x0, x1, x2, x3, x4⟩ := hX.cs5
     obtain ⟨CC8, hCC8⟩ : ∃ X : World → Prop, ∀ V, X V ↔ (Below w.heap.size w V ∧ Blk V (w.heap.size) 29 #[.int .i64 tu, .int .i64 se, .int .i64 sp, .slice A2 ws.length c2, .slice (some ⟨b3, o3, none⟩) sh.length c3] ∧ Blk V ((w.heap.size + 1)) 144 #[.int .i64 sm, .int .i64 st, .int .i64 ss] ∧ Blk V (w2.heap.size) 29 #[.int .i64 tu, .int .i64 se, .int .i64 sp, .slice D2 ws.length d2, .slice D3 sh.length d3]) := ⟨_, fun _ => Iff.rfl⟩
     have HCC8 := lh hCC8; clear hCC8
     haveI : Nonempty (Hld CC8) := ⟨⟨wv, ((HCC8.out _).2 ⟨HB, hF, hS, hX⟩)⟩⟩
     clear f0 f1 f2 f3 f4; clear s0 s1 s2; clear z'; clear x0 x1 x2 x3 x4
     obtain ⟨f0, f1, f2, f3, f4⟩ := Blk.cs5K (fun K : Hld CC8 => ((HCC8.out _).1 K.holds).2.1)
     obtain ⟨s0, s1, s2⟩ := Blk.cs3K (fun K : Hld CC8 => ((HCC8.out _).1 K.holds).2.2.1)
     obtain ⟨x0, x1, x2, x3, x4⟩ := Blk.cs5K (fun K : Hld CC8 => ((HCC8.out _).1 K.holds).2.2.2)
     go_upto_region 8 with fail
     refine wp_region_mky (wiS sh k ⟨sm, st, ss⟩) CC8 [([], 0), ([1, 2, 3, 4], 5), ([6], 7)] [9] [([], [], 8, false), ([], [], 10, false), ([], [11], 12, true)] [] [] (by kernel_rfl) (by kernel_rfl) ((HCC8.out _).2 ⟨HB.drew, hF, hS, hX⟩) (fun W W' h k => ((HCC8.out _).2 ⟨((HCC8.out _).1 h).1.trans (k.mono ((HCC8.out _).1 h).1.size), ((HCC8.out _).1 h).2.1.below k ((HCC8.out _).1 h).2.1.lt, ((HCC8.out _).1 h).2.2.1.below k ((HCC8.out _).1 h).2.2.1.lt, ((HCC8.out _).1 h).2.2.2.below k ((HCC8.out _).1 h).2.2.2.lt⟩)) ?_
     intro σ
     refine wpMk1_cons (some 46) rfl (.slice (σ 0).1 0 0) rfl fun K1 hK1 => ?_
     change wpQuiet _ _ _ _ ([]) _
     refine wpQuiet_nil ?_
     refine ⟨fun kq hpar => ?_, hK1 _ ?_⟩
     ·exact zb97
     simp only [Act.put]
     go_simp
     refine wpMk1_cons (some 51) rfl (.slice (σ 5).1 k (σ 5).2) rfl fun K1 hK1 => ?_
     change wpQuiet _ _ _ _ (_ :: _ :: _ :: _ :: []) _
     repeat (go_big_quiet_step (fail))
     refine wpQuiet_nil ?_
     refine ⟨fun kq hpar => ?_, hK1 _ ?_⟩
     ·change wpList _ _ _ (_ :: []) _ _
      obtain ⟨U0, U, hU1, ⟨hU2, hU4⟩, hU5⟩ := hpar 0 (by simp [wiS])
      have hU6 := hU4.to hU5; have hU7 : (σ 0).1 = some ⟨U0.heap.size, 0, none⟩ := hU2; have HUR := lh (HRT.out.below ((HCC8.out _).1 kq.holds).1)
      exact zb30
     simp only [Act.put]
     go_simp
     refine wpMk1_cons (some 53) rfl (.slice (σ 7).1 1 1) rfl fun K1 hK1 => ?_
     change wpQuiet _ _ _ _ (_ :: []) _
     repeat (go_big_quiet_step (fail))
     refine wpQuiet_nil ?_
     refine ⟨fun kq hpar => ?_, hK1 _ ?_⟩
     ·exact zb85
     simp only [Act.put]
     go_simp
     refine wpMk1_last ?_
     change wpQuiet _ _ _ _ (_ :: []) _
     repeat (go_big_quiet_step (fail))
     refine wpQuiet_nil ?_
     intro V0 V W hM hW
     obtain ⟨g0, g5, e0, e5, q5⟩ : ∃ g g', (σ 0).1 = some ⟨g, 0, none⟩ ∧ (σ 5).1 = some ⟨g', 0, none⟩ ∧ OwnV g 144 3 Sha.cells (V 5) (.slice (σ 5).1 (sh.take k).length (σ 5).2) (sh.take k) := hM.post 5 (by simp)
     obtain ⟨a0, _⟩ : (σ 0).1 = some ⟨(V0 0).heap.size, 0, none⟩ ∧ Blk (V 0) (V0 0).heap.size 144 #[] := hM.post 0 (by simp)
     obtain ⟨g7, e7, u7, q7⟩ : ∃ g, (σ 7).1 = some ⟨g, 0, none⟩ ∧ (V0 7).heap.size = g ∧ Blk (V 7) g 144 #[.int .i64 sm, .int .i64 st, .int .i64 ss] := hM.post 7 (by simp)
     have t0 : (V0 0).heap.size = g0 := by rw [a0] at e0; exact congrArg Addr.block (Option.some.inj e0)
     have O5 := (q5.later (hM.later 5 (by simp))).base (B' := wv.heap.size) (by rw [← t0]; exact (hM.from0 0 (by simp)).size); have hsl9 := hS.lt; have hB7 := q7.below (hM.later 7 (by simp)) q7.lt; have hq2v : Below wv.heap.size wv W := (hM.whole 5 (by simp)).undrew; clear f0 f1 f2 f3 f4; clear s0 s1 s2; clear x0 x1 x2 x3 x4; have hq9 : Below wv.heap.size wv W := bth bel (hM.whole 5 (by simp)).undrew
     replace HB := bth HB hq9; replace O2 := O2.later hq9; replace hF := hF.to hq9; replace hS := hS.to hq9; replace hZ := hZ.to hq9; have z' := hZ.cs5; replace hX := hX.to hq9
     obtain ⟨x0, x1, x2, x3, x4⟩ := hX.cs5
     clear hM q5 q7 a0 e0 t0 u7 hW
     generalize σ 5 = p5 at *
     generalize σ 7 = p7 at *
     obtain ⟨D5, d5⟩ := p5
     obtain ⟨D7, d7⟩ := p7
     simp only at O5 e5 e7
     subst e5
     subst e7
     rw [HTL.out] at O5
     have HR7 : Hid (Rds 3 Sha.cells W (some ⟨g7, 0, none⟩) [(⟨sm, st, ss⟩ : Sha)]) := lh (fun _ => ⟨g7, 0, rfl, hB7.lt, fun i y hy j u hu => by
      exact zb103⟩)
     have hdx5 := O5.notBlk hX (by decide); have hdz5 := O5.notBlk hZ (by decide); have hap5 := O2.apart O5 (by decide); have hdl5 := O5.lt g5 rfl; have szW := HB.size; have szV := hq2v.size; have HF9 := lh hF; have HS9 := lh hS; have hdf5 := O5.notBlk hF (by decide); have HX9 := lh hX; have HZ9 := lh hZ; have HO5 := lh O5; have HB9 := lh HB; have HOW := lh O2; have HAP5 := lh hap5; clear hB7 hX hZ hF hS O5 O2 HB hap5 z' x0 x1 x2 x3 x4
     haveI : Nonempty (Hld (fun _ => True)) := ⟨⟨w, trivial⟩⟩
     refine wpMx_cons fun K2 hK2 => ?_
     refine wpQuiet_nil ?_
     refine wpQuiet_nil ?_
     change wpList _ _ _ (_ :: []) _ _
     have HO5' : Hid (OwnV wv.heap.size 144 3 Sha.cells W (.slice (some ⟨g5, 0, none⟩) k d5) (sh.take k)) := HO5
     go_wp2_with ((at_builtin; refine wpList_app1 rfl _ _ 27 rfl wv.heap.size 144 i0 _ 3 24 Tryz.underlying27 hi hz0 hz1 hz2 rfl (by decide) Sha.cells sha_len sha_one _ (sh.take k) rfl HO5'.out ⟨g7, 0, none⟩ 1 ⟨sm, st, ss⟩ rfl HR7.out (by have := HTL.out; unfold maxLen; omega) (by have := HTL.out; omega) szV ?_; intro v8 w8 hO8 hg8 ha8; clear ha8; obtain ⟨Y8, y8, rfl, q1, q2, q3⟩ := hO8.form sha_len; clear q1 q2 q3; have hl8 : (sh.take k ++ [(⟨sm, st, ss⟩ : Sha)]).length = k + 1 := (by rw [List.length_append, HTL.out]; rfl); rw [hl8] at hO8; clear hl8))
     have hF8 := HF9.out.grownN hg8 (fun e => hdf5 (Option.some.inj e)); have hS8 := HS9.out.grownN hg8 (fun e => by have h9 : w.heap.size + 1 = g5 := Option.some.inj e; omega); have hX8 := HX9.out.grownN hg8 (fun e => hdx5 (Option.some.inj e)); have hZ8 := HZ9.out.grownN hg8 (fun e => hdz5 (Option.some.inj e)); have O2w := HOW.out.kept hg8 (fun k hk e => HAP5.out k hk e); have HB8 : Below w.heap.size w w8 := HB9.out.grown hg8 szW (fun q hq => by have h9 : g5 = q := Option.some.inj hq; omega)
     have hdx8 := hO8.notBlkV hX8 (by decide); have hdz8 := hO8.notBlkV hZ8 (by decide); have hap8 := O2w.apart hO8 (by decide); have hdl8 := hO8.lt; have sz8 := HB8.size; have sz8v := Nat.le_trans szV hg8.size; have hdf8 := hO8.notBlkV hF8 (by decide); have hCk := ((HCC8.out _).2 ⟨HB8, hF8, hS8, hX8⟩); have HF9 := lh hF8; have HS9 := lh hS8; have HDF8 := lh hdf8; have HX9 := lh hX8; have HZ9 := lh hZ8
     have HO8 := lh hO8; have HB9 := lh HB8; have HOW := lh O2w; have HAP8 := lh hap8; have HDX8 := lh hdx8; have HDZ8 := lh hdz8; have HDL8 := lh hdl8; clear hX8 hZ8 hO8 O2w HB8 hap8 hdx8 hdz8 hdl8 hg8 hF8 hS8 hdf8
     refine Nrm_keep hCk (hK2 _ _ ?_)
     clear hCk
     refine wpMx_cons fun K3 hK3 => ?_
     refine wpQuiet_nil ?_
     refine wpQuiet_nil ?_
     change wpList _ _ _ (_ :: []) _ _
     try simp only [Act.put]
     try go_simp
     have HRW := lh (HRR.out.below HB9.out)
     go_wp2_with ((at_builtin; refine wpList_app rfl _ _ 27 rfl wv.heap.size 144 i0 _ 3 24 Tryz.underlying27 hi hz0 hz1 hz2 rfl (by decide) Sha.cells sha_len sha_one _ (sh.take k ++ [(⟨sm, st, ss⟩ : Sha)]) rfl HO8.out (some ⟨b3, o3 + k * 3, none⟩) (c3 - k) (sh.drop k) (by rw [HRL.out]; rfl) HRW.out (fun h => by cases h) (by have h1 := HRL.out; have h2 := HTL.out; rw [List.length_append, h1, h2]; simp only [List.length_cons, List.length_nil]; unfold maxLen; omega) (by have h1 := HRL.out; have h2 := HTL.out; rw [List.length_append, h1, h2]; simp only [List.length_cons, List.length_nil]; omega) sz8v ?_; intro v10 w10 hO10 hg10; rw [← HE1.out] at hO10; obtain ⟨Y, yc, rfl, q1, q2, q3⟩ := hO10.form sha_len; clear q1 q2 q3))
     have hF9 := HF9.out.grownN hg10 (fun e => HDF8.out _ e.symm rfl); have hS9 := HS9.out.grownN hg10 (fun e => by have h9 := (HDL8.out _ e.symm).1; omega); have hX9 := HX9.out.grownN hg10 (fun e => HDX8.out _ e.symm rfl); have hZ9 := HZ9.out.grownN hg10 (fun e => HDZ8.out _ e.symm rfl); have O2 := HOW.out.kept hg10 (fun k hk e => HAP8.out k hk e); have O3 := hO10; have HB := HB9.out.grown hg10 sz8 (fun q hq => by have := (HDL8.out q hq).1; omega)
     clear hg10 hO10
     refine Nrm_keep ((HCC8.out _).2 ⟨HB, hF9, hS9, hX9⟩) (hK3 _ _ ?_)
     exact zb8
  ·obtain rfl : k = sh.length := by omega
   go_wp2
   refine wp_region_kin (by kernel_rfl) (by kernel_rfl) ?_
   repeat (go_big_quiet_step ((fail)))
   refine wpQuiet_nil ?_
   intro K
   clear c4 s0 hFr hSr; have hbk := bth hb K.below
   generalize K.world = wk at *
   have hFr := HF.out.below hbk HF.out.lt; have hSr := HS.out.below hbk HS.out.lt; have f4 := (hFr.cell 4).trans (show _ = some (.slice (some ⟨b3, o3, none⟩) sh.length c3) from rfl); have hkc : sh.length ≤ c3 := k3; have HNT : Hid ((some ⟨b3, o3, none⟩ : Option Addr) = none → sh.take sh.length = [] ∧ c3 = 0) := lh (fun h => by cases h)
   by_cases hcn : c3 = sh.length
   ·subst hcn
    go_upto_region 6 with fail
    have s0 := fun K : Kin wk.heap.size wk => ((hSr.below K.below hSr.lt).cell 0).trans (show _ = some (.int .i64 sm) from rfl)
    clear hFr hSr f4
    refine wp_region_kin (by kernel_rfl) (by kernel_rfl) ?_
    repeat (go_big_quiet_step ((fail)))
    refine wpQuiet_nil ?_
    intro K
    clear s0; have hbv := bth hbk K.below
    generalize K.world = wv at *
    have HE1 : Hid (setSh sh ⟨sm, st, ss⟩ = sh.take sh.length ++ [(⟨sm, st, ss⟩ : Sha)] ++ ([] : List Sha)) := lh (by rw [setSh_cut (k := sh.length) (Nat.le_refl _) HL.out (fun y hy => by have := (List.getElem?_eq_some_iff.1 hy).1; omega), List.getElem?_eq_none (Nat.le_refl _)]; simp); have HRL : Hid ((([] : List Sha)).length = 0) := lh (rfl); have HTL : Hid ((sh.take sh.length).length = sh.length) := lh (by rw [List.length_take]; omega)
    have HRR : Hid (Rds 3 Sha.cells w (some ⟨b3, o3, none⟩) (([] : List Sha))) := lh (Rds.nil); have HRT : Hid (Rds 3 Sha.cells w (some ⟨b3, o3, none⟩) (sh.take sh.length)) := lh (rds_takeq HR3.out sh.length); have hF := HF.out.below hbv HF.out.lt; have hS := HS.out.below hbv HS.out.lt; have hZ := HZ.out.below hbv HZ.out.lt; have hX := HX.out.below hbv HX.out.lt; have O2 := HO2.out.later hbv; have HB := bth HBO.out hbv
    have szwv := HB.size; have szov := hbv.size
    obtain ⟨f0, f1, f2, f3, f4⟩ := hF.cs5
    obtain ⟨s0, s1, s2⟩ := hS.cs3
    have z' := hZ.cs5
    obtain ⟨x0, x1, x2, x3, x4⟩ := hX.cs5
    obtain ⟨CC10, hCC10⟩ : ∃ X : World → Prop, ∀ V, X V ↔ (Below w.heap.size w V ∧ Blk V (w.heap.size) 29 #[.int .i64 tu, .int .i64 se, .int .i64 sp, .slice A2 ws.length c2, .slice (some ⟨b3, o3, none⟩) sh.length sh.length] ∧ Blk V ((w.heap.size + 1)) 144 #[.int .i64 sm, .int .i64 st, .int .i64 ss] ∧ Blk V (w2.heap.size) 29 #[.int .i64 tu, .int .i64 se, .int .i64 sp, .slice D2 ws.length d2, .slice D3 sh.length d3]) := ⟨_, fun _ => Iff.rfl⟩
    have HCC10 := lh hCC10; clear hCC10
    haveI : Nonempty (Hld CC10) := ⟨⟨wv, ((HCC10.out _).2 ⟨HB, hF, hS, hX⟩)⟩⟩
    clear f0 f1 f2 f3 f4; clear s0 s1 s2; clear z'; clear x0 x1 x2 x3 x4
    obtain ⟨f0, f1, f2, f3, f4⟩ := Blk.cs5K (fun K : Hld CC10 => ((HCC10.out _).1 K.holds).2.1)
    obtain ⟨s0, s1, s2⟩ := Blk.cs3K (fun K : Hld CC10 => ((HCC10.out _).1 K.holds).2.2.1)
    obtain ⟨x0, x1, x2, x3, x4⟩ := Blk.cs5K (fun K : Hld CC10 => ((HCC10.out _).1 K.holds).2.2.2)
    go_upto_region 8 with fail
    refine wp_region_mky (wiS sh sh.length ⟨sm, st, ss⟩) CC10 [([], 0), ([1, 2, 3, 4], 5), ([6], 7)] [9] [([], [], 8, false), ([], [], 10, false), ([], [11], 12, true)] [] [] (by kernel_rfl) (by kernel_rfl) ((HCC10.out _).2 ⟨HB.drew, hF, hS, hX⟩) (fun W W' h k => ((HCC10.out _).2 ⟨((HCC10.out _).1 h).1.trans (k.mono ((HCC10.out _).1 h).1.size), ((HCC10.out _).1 h).2.1.below k ((HCC10.out _).1 h).2.1.lt, ((HCC10.out _).1 h).2.2.1.below k ((HCC10.out _).1 h).2.2.1.lt, ((HCC10.out _).1 h).2.2.2.below k ((HCC10.out _).1 h).2.2.2.lt⟩)) ?_
    intro σ
    refine wpMk1_cons (some 46) rfl (.slice (σ 0).1 0 0) rfl fun K1 hK1 => ?_
    change wpQuiet _ _ _ _ ([]) _
    refine wpQuiet_nil ?_
    refine ⟨fun kq hpar => ?_, hK1 _ ?_⟩
    ·exact zb97
    simp only [Act.put]
    go_simp
    refine wpMk1_cons (some 51) rfl (.slice (σ 5).1 sh.length (σ 5).2) rfl fun K1 hK1 => ?_
    change wpQuiet _ _ _ _ (_ :: _ :: _ :: _ :: []) _
    repeat (go_big_quiet_step (fail))
    refine wpQuiet_nil ?_
    refine ⟨fun kq hpar => ?_, hK1 _ ?_⟩
    ·change wpList _ _ _ (_ :: []) _ _
     obtain ⟨U0, U, hU1, ⟨hU2, hU4⟩, hU5⟩ := hpar 0 (by simp [wiS])
     have hU6 := hU4.to hU5; have hU7 : (σ 0).1 = some ⟨U0.heap.size, 0, none⟩ := hU2; have HUR := lh (HRT.out.below ((HCC10.out _).1 kq.holds).1); have HU6 := lh hU6; clear hU6 hU4 hU2 hU1 hU5 hpar
     rw [hU7]
     have HU7 := lh hU7; clear hU7
     go_wp2_with ((at_builtin; refine wpList_appOn rfl _ _ 27 rfl U0.heap.size 144 i0 _ 3 24 Tryz.underlying27 hi hz0 hz1 hz2 rfl (by decide) Sha.cells sha_len sha_one U0.heap.size rfl HU6.out (Nat.le_refl _) (some ⟨b3, o3, none⟩) sh.length (sh.take sh.length) sh.length HTL.out.symm rfl HUR.out (fun h => by cases h) (by have := HTL.out; unfold maxLen; omega) (by have := HTL.out; omega) ?_; intro g' c' w' hO' hb'))
     exact zb106
    simp only [Act.put]
    go_simp
    refine wpMk1_cons (some 53) rfl (.slice (σ 7).1 1 1) rfl fun K1 hK1 => ?_
    change wpQuiet _ _ _ _ (_ :: []) _
    repeat (go_big_quiet_step (fail))
    refine wpQuiet_nil ?_
    refine ⟨fun kq hpar => ?_, hK1 _ ?_⟩
    ·exact zb85
    simp only [Act.put]
    go_simp
    refine wpMk1_last ?_
    change wpQuiet _ _ _ _ (_ :: []) _
    repeat (go_big_quiet_step (fail))
    refine wpQuiet_nil ?_
    intro V0 V W hM hW
    obtain ⟨g0, g5, e0, e5, q5⟩ : ∃ g g', (σ 0).1 = some ⟨g, 0, none⟩ ∧ (σ 5).1 = some ⟨g', 0, none⟩ ∧ OwnV g 144 3 Sha.cells (V 5) (.slice (σ 5).1 (sh.take sh.length).length (σ 5).2) (sh.take sh.length) := hM.post 5 (by simp)
    obtain ⟨a0, _⟩ : (σ 0).1 = some ⟨(V0 0).heap.size, 0, none⟩ ∧ Blk (V 0) (V0 0).heap.size 144 #[] := hM.post 0 (by simp)
    obtain ⟨g7, e7, u7, q7⟩ : ∃ g, (σ 7).1 = some ⟨g, 0, none⟩ ∧ (V0 7).heap.size = g ∧ Blk (V 7) g 144 #[.int .i64 sm, .int .i64 st, .int .i64 ss] := hM.post 7 (by simp)
    have t0 : (V0 0).heap.size = g0 := by rw [a0] at e0; exact congrArg Addr.block (Option.some.inj e0)
    have O5 := (q5.later (hM.later 5 (by simp))).base (B' := wv.heap.size) (by rw [← t0]; exact (hM.from0 0 (by simp)).size); have hsl9 := hS.lt; have hB7 := q7.below (hM.later 7 (by simp)) q7.lt; have hq2v : Below wv.heap.size wv W := (hM.whole 5 (by simp)).undrew; clear f0 f1 f2 f3 f4; clear s0 s1 s2; clear x0 x1 x2 x3 x4; have hq11 : Below wv.heap.size wv W := bth bel (hM.whole 5 (by simp)).undrew
    replace HB := bth HB hq11; replace O2 := O2.later hq11; replace hF := hF.to hq11; replace hS := hS.to hq11; replace hZ := hZ.to hq11; have z' := hZ.cs5; replace hX := hX.to hq11
    obtain ⟨x0, x1, x2, x3, x4⟩ := hX.cs5
    clear hM q5 q7 a0 e0 t0 u7 hW
    generalize σ 5 = p5 at *
    generalize σ 7 = p7 at *
    obtain ⟨D5, d5⟩ := p5
    obtain ⟨D7, d7⟩ := p7
    simp only at O5 e5 e7
    subst e5
    subst e7
    rw [HTL.out] at O5
    have HR7 : Hid (Rds 3 Sha.cells W (some ⟨g7, 0, none⟩) [(⟨sm, st, ss⟩ : Sha)]) := lh (fun _ => ⟨g7, 0, rfl, hB7.lt, fun i y hy j u hu => by
     exact zb103⟩)
    have hdx5 := O5.notBlk hX (by decide); have hdz5 := O5.notBlk hZ (by decide); have hap5 := O2.apart O5 (by decide); have hdl5 := O5.lt g5 rfl; have szW := HB.size; have szV := hq2v.size; have HF9 := lh hF; have HS9 := lh hS; have hdf5 := O5.notBlk hF (by decide); have HX9 := lh hX; have HZ9 := lh hZ; have HO5 := lh O5; have HB9 := lh HB; have HOW := lh O2; have HAP5 := lh hap5; clear hB7 hX hZ hF hS O5 O2 HB hap5 z' x0 x1 x2 x3 x4
    haveI : Nonempty (Hld (fun _ => True)) := ⟨⟨w, trivial⟩⟩
    refine wpMx_cons fun K2 hK2 => ?_
    refine wpQuiet_nil ?_
    refine wpQuiet_nil ?_
    change wpList _ _ _ (_ :: []) _ _
    have HO5' : Hid (OwnV wv.heap.size 144 3 Sha.cells W (.slice (some ⟨g5, 0, none⟩) sh.length d5) (sh.take sh.length)) := HO5
    go_wp2_with ((at_builtin; refine wpList_app1 rfl _ _ 27 rfl wv.heap.size 144 i0 _ 3 24 Tryz.underlying27 hi hz0 hz1 hz2 rfl (by decide) Sha.cells sha_len sha_one _ (sh.take sh.length) rfl HO5'.out ⟨g7, 0, none⟩ 1 ⟨sm, st, ss⟩ rfl HR7.out (by have := HTL.out; unfold maxLen; omega) (by have := HTL.out; omega) szV ?_; intro v8 w8 hO8 hg8 ha8; clear ha8; obtain ⟨Y8, y8, rfl, q1, q2, q3⟩ := hO8.form sha_len; clear q1 q2 q3; have hl8 : (sh.take sh.length ++ [(⟨sm, st, ss⟩ : Sha)]).length = sh.length + 1 := (by rw [List.length_append, HTL.out]; rfl); rw [hl8] at hO8; clear hl8))
    have hF8 := HF9.out.grownN hg8 (fun e => hdf5 (Option.some.inj e)); have hS8 := HS9.out.grownN hg8 (fun e => by have h9 : w.heap.size + 1 = g5 := Option.some.inj e; omega); have hX8 := HX9.out.grownN hg8 (fun e => hdx5 (Option.some.inj e)); have hZ8 := HZ9.out.grownN hg8 (fun e => hdz5 (Option.some.inj e)); have O2w := HOW.out.kept hg8 (fun k hk e => HAP5.out k hk e); have HB8 : Below w.heap.size w w8 := HB9.out.grown hg8 szW (fun q hq => by have h9 : g5 = q := Option.some.inj hq; omega)
    have hdx8 := hO8.notBlkV hX8 (by decide); have hdz8 := hO8.notBlkV hZ8 (by decide); have hap8 := O2w.apart hO8 (by decide); have hdl8 := hO8.lt; have sz8 := HB8.size; have sz8v := Nat.le_trans szV hg8.size; have hdf8 := hO8.notBlkV hF8 (by decide); have hCk := ((HCC10.out _).2 ⟨HB8, hF8, hS8, hX8⟩); have HF9 := lh hF8; have HS9 := lh hS8; have HDF8 := lh hdf8; have HX9 := lh hX8; have HZ9 := lh hZ8
    have HO8 := lh hO8; have HB9 := lh HB8; have HOW := lh O2w; have HAP8 := lh hap8; have HDX8 := lh hdx8; have HDZ8 := lh hdz8; have HDL8 := lh hdl8; clear hX8 hZ8 hO8 O2w HB8 hap8 hdx8 hdz8 hdl8 hg8 hF8 hS8 hdf8
    refine Nrm_keep hCk (hK2 _ _ ?_)
    clear hCk
    refine wpMx_cons fun K3 hK3 => ?_
    refine wpQuiet_nil ?_
    refine wpQuiet_nil ?_
    change wpList _ _ _ (_ :: []) _ _
    try simp only [Act.put]
    try go_simp
    have HRW := lh (HRR.out.below HB9.out)
    go_wp2_with ((at_builtin; refine wpList_app rfl _ _ 27 rfl wv.heap.size 144 i0 _ 3 24 Tryz.underlying27 hi hz0 hz1 hz2 rfl (by decide) Sha.cells sha_len sha_one _ (sh.take sh.length ++ [(⟨sm, st, ss⟩ : Sha)]) rfl HO8.out (some ⟨b3, o3, none⟩) (0) (([] : List Sha)) (by rw [HRL.out]; rfl) HRW.out (fun h => by cases h) (by have h1 := HRL.out; have h2 := HTL.out; rw [List.length_append, h1, h2]; simp only [List.length_cons, List.length_nil]; unfold maxLen; omega) (by have h1 := HRL.out; have h2 := HTL.out; rw [List.length_append, h1, h2]; simp only [List.length_cons, List.length_nil]; omega) sz8v ?_; intro v10 w10 hO10 hg10; rw [← HE1.out] at hO10; obtain ⟨Y, yc, rfl, q1, q2, q3⟩ := hO10.form sha_len; clear q1 q2 q3))
    have hF9 := HF9.out.grownN hg10 (fun e => HDF8.out _ e.symm rfl); have hS9 := HS9.out.grownN hg10 (fun e => by have h9 := (HDL8.out _ e.symm).1; omega); have hX9 := HX9.out.grownN hg10 (fun e => HDX8.out _ e.symm rfl); have hZ9 := HZ9.out.grownN hg10 (fun e => HDZ8.out _ e.symm rfl); have O2 := HOW.out.kept hg10 (fun k hk e => HAP8.out k hk e); have O3 := hO10; have HB := HB9.out.grown hg10 sz8 (fun q hq => by have := (HDL8.out q hq).1; omega)
    clear hg10 hO10
    refine Nrm_keep ((HCC10.out _).2 ⟨HB, hF9, hS9, hX9⟩) (hK3 _ _ ?_)
    exact zb8
   ·skip
    go_upto_region 6 with fail
    have s0 := fun K : Kin wk.heap.size wk => ((hSr.below K.below hSr.lt).cell 0).trans (show _ = some (.int .i64 sm) from rfl)
    clear hFr hSr f4
    refine wp_region_kin (by kernel_rfl) (by kernel_rfl) ?_
    repeat (go_big_quiet_step ((fail)))
    refine wpQuiet_nil ?_
    intro K
    clear s0; have hbv := bth hbk K.below
    generalize K.world = wv at *
    have HE1 : Hid (setSh sh ⟨sm, st, ss⟩ = sh.take sh.length ++ [(⟨sm, st, ss⟩ : Sha)] ++ ([] : List Sha)) := lh (by rw [setSh_cut (k := sh.length) (Nat.le_refl _) HL.out (fun y hy => by have := (List.getElem?_eq_some_iff.1 hy).1; omega), List.getElem?_eq_none (Nat.le_refl _)]; simp); have HRL : Hid ((([] : List Sha)).length = 0) := lh (rfl); have HTL : Hid ((sh.take sh.length).length = sh.length) := lh (by rw [List.length_take]; omega)
    have HRR : Hid (Rds 3 Sha.cells w (some ⟨b3, o3 + sh.length * 3, none⟩) (([] : List Sha))) := lh (Rds.nil); have HRT : Hid (Rds 3 Sha.cells w (some ⟨b3, o3, none⟩) (sh.take sh.length)) := lh (rds_takeq HR3.out sh.length); have hF := HF.out.below hbv HF.out.lt; have hS := HS.out.below hbv HS.out.lt; have hZ := HZ.out.below hbv HZ.out.lt; have hX := HX.out.below hbv HX.out.lt; have O2 := HO2.out.later hbv
    have HB := bth HBO.out hbv; have szwv := HB.size; have szov := hbv.size
    obtain ⟨f0, f1, f2, f3, f4⟩ := hF.cs5
    obtain ⟨s0, s1, s2⟩ := hS.cs3
    have z' := hZ.cs5
    obtain ⟨x0, x1, x2, x3, x4⟩ := hX.cs5
    obtain ⟨CC12, hCC12⟩ : ∃ X : World → Prop, ∀ V, X V ↔ (Below w.heap.size w V ∧ Blk V (w.heap.size) 29 #[.int .i64 tu, .int .i64 se, .int .i64 sp, .slice A2 ws.length c2, .slice (some ⟨b3, o3, none⟩) sh.length c3] ∧ Blk V ((w.heap.size + 1)) 144 #[.int .i64 sm, .int .i64 st, .int .i64 ss] ∧ Blk V (w2.heap.size) 29 #[.int .i64 tu, .int .i64 se, .int .i64 sp, .slice D2 ws.length d2, .slice D3 sh.length d3]) := ⟨_, fun _ => Iff.rfl⟩
    have HCC12 := lh hCC12; clear hCC12
    haveI : Nonempty (Hld CC12) := ⟨⟨wv, ((HCC12.out _).2 ⟨HB, hF, hS, hX⟩)⟩⟩
    clear f0 f1 f2 f3 f4; clear s0 s1 s2; clear z'; clear x0 x1 x2 x3 x4
    obtain ⟨f0, f1, f2, f3, f4⟩ := Blk.cs5K (fun K : Hld CC12 => ((HCC12.out _).1 K.holds).2.1)
    obtain ⟨s0, s1, s2⟩ := Blk.cs3K (fun K : Hld CC12 => ((HCC12.out _).1 K.holds).2.2.1)
    obtain ⟨x0, x1, x2, x3, x4⟩ := Blk.cs5K (fun K : Hld CC12 => ((HCC12.out _).1 K.holds).2.2.2)
    go_upto_region 8 with fail
    refine wp_region_mky (wiS sh sh.length ⟨sm, st, ss⟩) CC12 [([], 0), ([1, 2, 3, 4], 5), ([6], 7)] [9] [([], [], 8, false), ([], [], 10, false), ([], [11], 12, true)] [] [] (by kernel_rfl) (by kernel_rfl) ((HCC12.out _).2 ⟨HB.drew, hF, hS, hX⟩) (fun W W' h k => ((HCC12.out _).2 ⟨((HCC12.out _).1 h).1.trans (k.mono ((HCC12.out _).1 h).1.size), ((HCC12.out _).1 h).2.1.below k ((HCC12.out _).1 h).2.1.lt, ((HCC12.out _).1 h).2.2.1.below k ((HCC12.out _).1 h).2.2.1.lt, ((HCC12.out _).1 h).2.2.2.below k ((HCC12.out _).1 h).2.2.2.lt⟩)) ?_
    intro σ
    refine wpMk1_cons (some 46) rfl (.slice (σ 0).1 0 0) rfl fun K1 hK1 => ?_
    change wpQuiet _ _ _ _ ([]) _
    refine wpQuiet_nil ?_
    refine ⟨fun kq hpar => ?_, hK1 _ ?_⟩
    ·exact zb97
    simp only [Act.put]
    go_simp
    refine wpMk1_cons (some 51) rfl (.slice (σ 5).1 sh.length (σ 5).2) rfl fun K1 hK1 => ?_
    change wpQuiet _ _ _ _ (_ :: _ :: _ :: _ :: []) _
    repeat (go_big_quiet_step (fail))
    refine wpQuiet_nil ?_
    refine ⟨fun kq hpar => ?_, hK1 _ ?_⟩
    ·change wpList _ _ _ (_ :: []) _ _
     obtain ⟨U0, U, hU1, ⟨hU2, hU4⟩, hU5⟩ := hpar 0 (by simp [wiS])
     have hU6 := hU4.to hU5; have hU7 : (σ 0).1 = some ⟨U0.heap.size, 0, none⟩ := hU2; have HUR := lh (HRT.out.below ((HCC12.out _).1 kq.holds).1); have HU6 := lh hU6; clear hU6 hU4 hU2 hU1 hU5 hpar
     rw [hU7]
     have HU7 := lh hU7; clear hU7
     go_wp2_with ((at_builtin; refine wpList_appOn rfl _ _ 27 rfl U0.heap.size 144 i0 _ 3 24 Tryz.underlying27 hi hz0 hz1 hz2 rfl (by decide) Sha.cells sha_len sha_one U0.heap.size rfl HU6.out (Nat.le_refl _) (some ⟨b3, o3, none⟩) c3 (sh.take sh.length) sh.length HTL.out.symm rfl HUR.out (fun h => by cases h) (by have := HTL.out; unfold maxLen; omega) (by have := HTL.out; omega) ?_; intro g' c' w' hO' hb'))
     exact zb106
    simp only [Act.put]
    go_simp
    refine wpMk1_cons (some 53) rfl (.slice (σ 7).1 1 1) rfl fun K1 hK1 => ?_
    change wpQuiet _ _ _ _ (_ :: []) _
    repeat (go_big_quiet_step (fail))
    refine wpQuiet_nil ?_
    refine ⟨fun kq hpar => ?_, hK1 _ ?_⟩
    ·exact zb85
    simp only [Act.put]
    go_simp
    refine wpMk1_last ?_
    change wpQuiet _ _ _ _ (_ :: []) _
    repeat (go_big_quiet_step (fail))
    refine wpQuiet_nil ?_
    intro V0 V W hM hW
    obtain ⟨g0, g5, e0, e5, q5⟩ : ∃ g g', (σ 0).1 = some ⟨g, 0, none⟩ ∧ (σ 5).1 = some ⟨g', 0, none⟩ ∧ OwnV g 144 3 Sha.cells (V 5) (.slice (σ 5).1 (sh.take sh.length).length (σ 5).2) (sh.take sh.length) := hM.post 5 (by simp)
    obtain ⟨a0, _⟩ : (σ 0).1 = some ⟨(V0 0).heap.size, 0, none⟩ ∧ Blk (V 0) (V0 0).heap.size 144 #[] := hM.post 0 (by simp)
    obtain ⟨g7, e7, u7, q7⟩ : ∃ g, (σ 7).1 = some ⟨g, 0, none⟩ ∧ (V0 7).heap.size = g ∧ Blk (V 7) g 144 #[.int .i64 sm, .int .i64 st, .int .i64 ss] := hM.post 7 (by simp)
    have t0 : (V0 0).heap.size = g0 := by rw [a0] at e0; exact congrArg Addr.block (Option.some.inj e0)
    have O5 := (q5.later (hM.later 5 (by simp))).base (B' := wv.heap.size) (by rw [← t0]; exact (hM.from0 0 (by simp)).size); have hsl9 := hS.lt; have hB7 := q7.below (hM.later 7 (by simp)) q7.lt; have hq2v : Below wv.heap.size wv W := (hM.whole 5 (by simp)).undrew; clear f0 f1 f2 f3 f4; clear s0 s1 s2; clear x0 x1 x2 x3 x4; have hq13 : Below wv.heap.size wv W := bth bel (hM.whole 5 (by simp)).undrew
    replace HB := bth HB hq13; replace O2 := O2.later hq13; replace hF := hF.to hq13; replace hS := hS.to hq13; replace hZ := hZ.to hq13; have z' := hZ.cs5; replace hX := hX.to hq13
    obtain ⟨x0, x1, x2, x3, x4⟩ := hX.cs5
    clear hM q5 q7 a0 e0 t0 u7 hW
    generalize σ 5 = p5 at *
    generalize σ 7 = p7 at *
    obtain ⟨D5, d5⟩ := p5
    obtain ⟨D7, d7⟩ := p7
    simp only at O5 e5 e7
    subst e5
    subst e7
    rw [HTL.out] at O5
    have HR7 : Hid (Rds 3 Sha.cells W (some ⟨g7, 0, none⟩) [(⟨sm, st, ss⟩ : Sha)]) := lh (fun _ => ⟨g7, 0, rfl, hB7.lt, fun i y hy j u hu => by
     exact zb103⟩)
    have hdx5 := O5.notBlk hX (by decide); have hdz5 := O5.notBlk hZ (by decide); have hap5 := O2.apart O5 (by decide); have hdl5 := O5.lt g5 rfl; have szW := HB.size; have szV := hq2v.size; have HF9 := lh hF; have HS9 := lh hS; have hdf5 := O5.notBlk hF (by decide); have HX9 := lh hX; have HZ9 := lh hZ; have HO5 := lh O5; have HB9 := lh HB; have HOW := lh O2; have HAP5 := lh hap5; clear hB7 hX hZ hF hS O5 O2 HB hap5 z' x0 x1 x2 x3 x4
    haveI : Nonempty (Hld (fun _ => True)) := ⟨⟨w, trivial⟩⟩
    refine wpMx_cons fun K2 hK2 => ?_
    refine wpQuiet_nil ?_
    refine wpQuiet_nil ?_
    change wpList _ _ _ (_ :: []) _ _
    have HO5' : Hid (OwnV wv.heap.size 144 3 Sha.cells W (.slice (some ⟨g5, 0, none⟩) sh.length d5) (sh.take sh.length)) := HO5
    go_wp2_with ((at_builtin; refine wpList_app1 rfl _ _ 27 rfl wv.heap.size 144 i0 _ 3 24 Tryz.underlying27 hi hz0 hz1 hz2 rfl (by decide) Sha.cells sha_len sha_one _ (sh.take sh.length) rfl HO5'.out ⟨g7, 0, none⟩ 1 ⟨sm, st, ss⟩ rfl HR7.out (by have := HTL.out; unfold maxLen; omega) (by have := HTL.out; omega) szV ?_; intro v8 w8 hO8 hg8 ha8; clear ha8; obtain ⟨Y8, y8, rfl, q1, q2, q3⟩ := hO8.form sha_len; clear q1 q2 q3; have hl8 : (sh.take sh.length ++ [(⟨sm, st, ss⟩ : Sha)]).length = sh.length + 1 := (by rw [List.length_append, HTL.out]; rfl); rw [hl8] at hO8; clear hl8))
    have hF8 := HF9.out.grownN hg8 (fun e => hdf5 (Option.some.inj e)); have hS8 := HS9.out.grownN hg8 (fun e => by have h9 : w.heap.size + 1 = g5 := Option.some.inj e; omega); have hX8 := HX9.out.grownN hg8 (fun e => hdx5 (Option.some.inj e)); have hZ8 := HZ9.out.grownN hg8 (fun e => hdz5 (Option.some.inj e)); have O2w := HOW.out.kept hg8 (fun k hk e => HAP5.out k hk e); have HB8 : Below w.heap.size w w8 := HB9.out.grown hg8 szW (fun q hq => by have h9 : g5 = q := Option.some.inj hq; omega)
    have hdx8 := hO8.notBlkV hX8 (by decide); have hdz8 := hO8.notBlkV hZ8 (by decide); have hap8 := O2w.apart hO8 (by decide); have hdl8 := hO8.lt; have sz8 := HB8.size; have sz8v := Nat.le_trans szV hg8.size; have hdf8 := hO8.notBlkV hF8 (by decide); have hCk := ((HCC12.out _).2 ⟨HB8, hF8, hS8, hX8⟩); have HF9 := lh hF8; have HS9 := lh hS8; have HDF8 := lh hdf8; have HX9 := lh hX8; have HZ9 := lh hZ8
    have HO8 := lh hO8; have HB9 := lh HB8; have HOW := lh O2w; have HAP8 := lh hap8; have HDX8 := lh hdx8; have HDZ8 := lh hdz8; have HDL8 := lh hdl8; clear hX8 hZ8 hO8 O2w HB8 hap8 hdx8 hdz8 hdl8 hg8 hF8 hS8 hdf8
    refine Nrm_keep hCk (hK2 _ _ ?_)
    clear hCk
    refine wpMx_cons fun K3 hK3 => ?_
    refine wpQuiet_nil ?_
    refine wpQuiet_nil ?_
    change wpList _ _ _ (_ :: []) _ _
    try simp only [Act.put]
    try go_simp
    have HRW := lh (HRR.out.below HB9.out)
    go_wp2_with ((at_builtin; refine wpList_app rfl _ _ 27 rfl wv.heap.size 144 i0 _ 3 24 Tryz.underlying27 hi hz0 hz1 hz2 rfl (by decide) Sha.cells sha_len sha_one _ (sh.take sh.length ++ [(⟨sm, st, ss⟩ : Sha)]) rfl HO8.out (some ⟨b3, o3 + sh.length * 3, none⟩) ((c3 - sh.length)) (([] : List Sha)) (by rw [HRL.out]; rfl) HRW.out (fun h => by cases h) (by have h1 := HRL.out; have h2 := HTL.out; rw [List.length_append, h1, h2]; simp only [List.length_cons, List.length_nil]; unfold maxLen; omega) (by have h1 := HRL.out; have h2 := HTL.out; rw [List.length_append, h1, h2]; simp only [List.length_cons, List.length_nil]; omega) sz8v ?_; intro v10 w10 hO10 hg10; rw [← HE1.out] at hO10; obtain ⟨Y, yc, rfl, q1, q2, q3⟩ := hO10.form sha_len; clear q1 q2 q3))
    have hF9 := HF9.out.grownN hg10 (fun e => HDF8.out _ e.symm rfl); have hS9 := HS9.out.grownN hg10 (fun e => by have h9 := (HDL8.out _ e.symm).1; omega); have hX9 := HX9.out.grownN hg10 (fun e => HDX8.out _ e.symm rfl); have hZ9 := HZ9.out.grownN hg10 (fun e => HDZ8.out _ e.symm rfl); have O2 := HOW.out.kept hg10 (fun k hk e => HAP8.out k hk e); have O3 := hO10; have HB := HB9.out.grown hg10 sz8 (fun q hq => by have := (HDL8.out q hq).1; omega)
    clear hg10 hO10
    refine Nrm_keep ((HCC12.out _).2 ⟨HB, hF9, hS9, hX9⟩) (hK3 _ _ ?_)
    exact zb8
end Go.Proofs.YtjimibkgocieoaaGreat
