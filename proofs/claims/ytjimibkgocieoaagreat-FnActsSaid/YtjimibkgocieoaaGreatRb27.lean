/- Texts of the proof: walks of the functions, and what they compute. -/
import Derived.Test.YtjimibkgocieoaaGreatRb25
import Derived.Test.YtjimibkgocieoaaGreatRb23
import Derived.Test.YtjimibkgocieoaaGreatRb26
import Derived.Test.YtjimibkgocieoaaGreatRb24
import Derived.Test.YtjimibkgocieoaaGreatRb15
import Derived.Test.YtjimibkgocieoaaGreatRb0
set_option maxHeartbeats 16000000
set_option maxRecDepth 100000
namespace Go.Proofs.YtjimibkgocieoaaGreat
open Go.RowKit Go.G9
theorem rds_oneS3 (w : World) (m t s : Int) (e : TypeId) : Rds 3 Sha.cells (w.alloc (.cells #[.int .i64 m, .int .i64 t, .int .i64 s] e)) (some ⟨w.heap.size, 0, none⟩) [(⟨m, t, s⟩ : Sha)] := by
 have h := (OwnV.built (B := w.heap.size) (f := Sha.cells) w [(⟨m, t, s⟩ : Sha)] e (Nat.le_refl _) (by simp [maxLen]) sha_len).rds (hf := sha_len)
 simpa [Sha.cells] using h
theorem rds_oneD (w : World) (v : Int) (e : TypeId) : Rds 1 intC (w.alloc (.cells #[.int .i64 v] e)) (some ⟨w.heap.size, 0, none⟩) [v] := Rds.one _ _
theorem floor_is (p : Nat) (A : Option Addr) (c : Nat) (cs : List UInt8) (hcs : cs.length ≤ 1048576) (N : Nat) (hN : N ≤ 300000) (w : World) (hC : Cur w p A c cs N) :
 Calls Tryz.prog 101 #[.pointer (some ⟨p, 0, none⟩)] w fun e w' => ∃ (tu se sp : Int) (ws : List Int) (sh : List Sha) (D2 : Option Addr) (d2 : Nat) (D3 : Option Addr) (d3 : Nat), e = .returned (.agg #[.int .i64 tu, .int .i64 se, .int .i64 sp, .slice D2 ws.length d2, .slice D3 sh.length d3]) ∧ ws.length ≤ 60 ∧ sh.length ≤ 60 ∧ FlO w.heap.size w' D2 d2 D3 d3 ws sh ∧ Stepped w w' p A c cs (N + 400) := by
 obtain ⟨i0, hi, hz0, hz1, hz2⟩ := info_parts info_int
 obtain ⟨j0, hj, jz0, jz1, jz2⟩ := info_parts info_Sha
 go_in
 have hp := hC.lt; have HG := grown_refl w (some p)
 go_upto_region 1 with fail
 have hb1 : Below w.heap.size w (World.alloc w (.cells #[.int .i64 0, .int .i64 0, .int .i64 0, .slice none 0 0, .slice none 0 0] 29)) := bl1 w _
 have hZ : Blk (World.alloc w (.cells #[.int .i64 0, .int .i64 0, .int .i64 0, .slice none 0 0, .slice none 0 0] 29)) (w.heap.size) 29 #[.int .i64 0, .int .i64 0, .int .i64 0, .slice none 0 0, .slice none 0 0] := by repeat (first | exact Blk.new _ _ _ | exact Blk.new2 _ _ _ _ | exact Blk.new3 _ _ _ _ _ | exact Blk.new4 _ _ _ _ _ _ | refine Blk.alloc ?_ _)
 generalize World.alloc w (.cells #[.int .i64 0, .int .i64 0, .int .i64 0, .slice none 0 0, .slice none 0 0] 29) = w1 at *
 replace hC := hC.later hb1; replace HG := grown_tr HG (bgr hb1 (some p)); have sz1 := hb1.size; have LhZ := hZ.lt; have z' := hZ.cs5
 go_wp2_with fail
 refine (pick_is 3 p A c cs hcs (N + 0) (by omega) (by omega) _ (hC.later bel)).mono ?_
 rintro e w2 ⟨r1, rfl, ⟨hbr1, _, hcr1⟩, hS2⟩
 clear z'; have hg2 : w1.grownBy w2 (some p) := grown_tr (bgr bel _) hS2.2; replace hC := hS2.1; have sz2 := hg2.size; replace HG := grown_tr HG hg2; replace hZ := hZ.grownB hg2 (by omega); have z' := hZ.cs5; replace hcr1 := hcr1 (by omega)
 go_wp2_with fail
 refine (amongL [1, 10, 60, 300, 3600] (1) 3600 (by decide) (by decide) (by decide) p A c cs hcs (N + 2) (by omega) w2 (hC.later (bl0 _))).mono ?_
 rintro e w3 ⟨s0, rfl, hbs0, hS3⟩
 clear z'; have hg3 : w2.grownBy w3 (some p) := grown_tr (bgr bel _) hS3.2; replace hC := hS3.1; have sz3 := hg3.size; replace HG := grown_tr HG hg3; replace hZ := hZ.grownB hg3 (by omega); have z' := hZ.cs5
 go_wp2_with fail
 refine (drNew_is (1 + r1) s0 _).mono ?_
 rintro e w4 ⟨tu, se, b0, rfl, hS4⟩
 clear z'; have hb4 : Below w3.heap.size w3 w4 := bth bel hS4; have hg4 : w3.grownBy w4 (some p) := bgr hb4 _; replace hC := hC.later hb4; have sz4 := hg4.size; replace HG := grown_tr HG hg4; replace hZ := hZ.grownB hg4 (by omega); have z' := hZ.cs5; clear hbr1 hcr1 hbs0
 go_upto_region 2 with fail
 have hb5 : Below w4.heap.size w4 (World.alloc w4 (.cells #[.int .i64 tu, .int .i64 se, .int .i64 0, .slice none 0 0, .slice none 0 0] 29)) := bl1 w4 _
 have hF : Blk (World.alloc w4 (.cells #[.int .i64 tu, .int .i64 se, .int .i64 0, .slice none 0 0, .slice none 0 0] 29)) (w4.heap.size) 29 #[.int .i64 tu, .int .i64 se, .int .i64 0, .slice none 0 0, .slice none 0 0] := by repeat (first | exact Blk.new _ _ _ | exact Blk.new2 _ _ _ _ | exact Blk.new3 _ _ _ _ _ | exact Blk.new4 _ _ _ _ _ _ | refine Blk.alloc ?_ _)
 generalize World.alloc w4 (.cells #[.int .i64 tu, .int .i64 se, .int .i64 0, .slice none 0 0, .slice none 0 0] 29) = wF at *
 replace hC := hC.later hb5; replace HG := grown_tr HG (bgr hb5 (some p)); clear z'; replace hZ := hZ.grownB (bgr hb5 (some p)) (by omega); have z' := hZ.cs5; have sz5 := hb5.size; have LhF := hF.lt
 obtain ⟨f0, f1, f2, f3, f4⟩ := hF.cs5
 obtain ⟨fb, hfb⟩ : ∃ b, b = w4.heap.size := ⟨_, rfl⟩
 have hfp : w.heap.size < fb := by omega
 rw [← hfb] at hF f0 f1 f2 f3 f4
 rw [← hfb]
 clear hfb
 go_wp2_with fail
 refine (pick_is 14 p A c cs hcs (N + 4) (by omega) (by omega) _ (hC.later bel)).mono ?_
 rintro e w6 ⟨r2, rfl, ⟨hbr2, _, hcr2⟩, hS6⟩
 clear z'; clear f0 f1 f2 f3 f4; have hg6 : wF.grownBy w6 (some p) := grown_tr (bgr bel _) hS6.2; replace hC := hS6.1; have sz6 := hg6.size; replace HG := grown_tr HG hg6; replace hZ := hZ.grownB hg6 (by omega); replace hF := hF.grownB hg6 (by omega); have z' := hZ.cs5
 obtain ⟨f0, f1, f2, f3, f4⟩ := hF.cs5
 replace hcr2 := hcr2 (by omega)
 obtain ⟨m0, rfl⟩ : ∃ m : Nat, r2 = m := ⟨r2.toNat, by omega⟩
 go_wp2
 go_loopw [5] (fun i wr => ∃ (m : Nat) (tu se sp : Int) (ws : List Int) (sh : List Sha) (D2 : Option Addr) (d2 : Nat) (D3 : Option Addr) (d3 : Nat), i = .int .i64 (m : Int) ∧ ws.length + m ≤ 13 ∧ sh.length + 2 * m ≤ 26 ∧ Blk wr w.heap.size 29 #[.int .i64 0, .int .i64 0, .int .i64 0, .slice none 0 0, .slice none 0 0] ∧ Blk wr fb 29 #[.int .i64 tu, .int .i64 se, .int .i64 sp, .slice D2 ws.length d2, .slice D3 sh.length d3] ∧ FlO w.heap.size wr D2 d2 D3 d3 ws sh ∧ Cur wr p A c cs (N + 10 + 8 * (13 - m)) ∧ w.grownBy wr (some p)) (fun i _ => (intOf i).toNat)
 case atStart => exact ⟨m0, tu, se, 0, [], [], none, 0, none, 0, rfl, by simp; omega, by simp; omega, hZ, hF, flO_nil, hC.mono (by omega), HG⟩
 case round =>
  clear hC hZ hF HG z' f0 f1 f2 f3 f4
  obtain ⟨m, tu, se, sp, ws, sh, D2, d2, D3, d3, rfl, hlw, hls, hZ, hF, OO, hC, HG⟩ := hrel
  have O2 := OO.o2; have O3 := OO.o3; clear OO; have HN2 := lh O2.nilOk; have HN3 := lh O3.nilOk; have HK2 := lh (own_cap O2 intC_len); have HK3 := lh (own_cap O3 sha_len)
  by_cases hlt : 0 < m
  ·have z' := hZ.cs5
   obtain ⟨f0, f1, f2, f3, f4⟩ := hF.cs5
   have hfl := hF.lt
   have hmm : (m : Int) - 1 = ((m - 1 : Nat) : Int) := by omega
   have hm1 : (0 : Int) < (m : Int) := by omega
   have hm2 : decide ((0 : Int) < (m : Int)) = true := decide_eq_true hm1
   go_upto_region 6 with fail
   have hb7 : Below wr.heap.size wr (World.alloc wr (.cells #[.int .i64 tu, .int .i64 se, .int .i64 sp, .slice D2 ws.length d2, .slice D3 sh.length d3] 29)) := bl1 wr _
   have hN : Blk (World.alloc wr (.cells #[.int .i64 tu, .int .i64 se, .int .i64 sp, .slice D2 ws.length d2, .slice D3 sh.length d3] 29)) (wr.heap.size) 29 #[.int .i64 tu, .int .i64 se, .int .i64 sp, .slice D2 ws.length d2, .slice D3 sh.length d3] := by repeat (first | exact Blk.new _ _ _ | exact Blk.new2 _ _ _ _ | exact Blk.new3 _ _ _ _ _ | exact Blk.new4 _ _ _ _ _ _ | refine Blk.alloc ?_ _)
   generalize World.alloc wr (.cells #[.int .i64 tu, .int .i64 se, .int .i64 sp, .slice D2 ws.length d2, .slice D3 sh.length d3] 29) = wN at *
   replace hC := hC.later hb7; replace HG := grown_tr HG (bgr hb7 (some p)); clear z'; replace hZ := hZ.grownB (bgr hb7 (some p)) (by omega); have z' := hZ.cs5; clear f0 f1 f2 f3 f4; replace hF := hF.grownB (bgr hb7 (some p)) (by omega)
   obtain ⟨f0, f1, f2, f3, f4⟩ := hF.cs5
   replace O2 := O2.kept (bgr hb7 (some p)) (fun k hk e => by have h1 := (O2.lt k hk); have h2 : k = p := (Option.some.inj e); omega); replace O3 := O3.kept (bgr hb7 (some p)) (fun k hk e => by have h1 := (O3.lt k hk); have h2 : k = p := (Option.some.inj e); omega); have sz7 := hb7.size; have LhN := hN.lt; have n' := hN.cs5
   go_wp2_with fail
   refine (pick_is 6 p A c cs hcs (N + 10 + 8 * (13 - m)) (by omega) (by omega) _ (hC.later bel)).mono ?_
   rintro e w8 ⟨r, rfl, ⟨hbr, _, hcr⟩, hS8⟩
   clear z'; clear f0 f1 f2 f3 f4; clear n'; have hg8 : wN.grownBy w8 (some p) := grown_tr (bgr bel _) hS8.2; replace hC := hS8.1; have sz8 := hg8.size; replace HG := grown_tr HG hg8; replace hZ := hZ.grownB hg8 (by omega); replace hF := hF.grownB hg8 (by omega); replace hN := hN.grownB hg8 (by omega); replace O2 := O2.kept hg8 (fun k hk e => by have h1 := (O2.lt k hk); have h2 : k = p := (Option.some.inj e); omega)
   replace O3 := O3.kept hg8 (fun k hk e => by have h1 := (O3.lt k hk); have h2 : k = p := (Option.some.inj e); omega); have z' := hZ.cs5
   obtain ⟨f0, f1, f2, f3, f4⟩ := hF.cs5
   have n' := hN.cs5; replace hcr := hcr (by omega); clear hm1 hm2; have nbO2 : ∀ k, (Value.slice D2 ws.length d2).ownBlock = some k → ¬ k = wr.heap.size := O2.nb hN; have nbO3 : ∀ k, (Value.slice D3 sh.length d3).ownBlock = some k → ¬ k = wr.heap.size := O3.nb hN
   rcases (show r = 0 ∨ r = 1 ∨ r = 2 ∨ r = 3 ∨ r = 4 ∨ r = 5 by omega) with rfl | rfl | rfl | rfl | rfl | rfl
   case' inr.inr.inl =>
    have szb := HG.size
    go_wp2_with fail
    refine (drNext_is tu se sp D2 d2 ws D3 d3 sh (by omega) (by omega) HN2.out HN3.out HK2.out HK3.out _ (O2.rds intC_len) (O3.rds sha_len)).mono ?_
    rintro e w9 ⟨tu1, se1, sp1, q1, ws1, sh1, E2, e2, E3, e3, b, rfl, hw1, hs1, OQ, hS9⟩
    clear z'; clear f0 f1 f2 f3 f4; clear n'; have hb9 : Below w8.heap.size w8 w9 := bth bel hS9; have hg9 : w8.grownBy w9 (some p) := bgr hb9 _; replace hC := hC.later hb9; have sz9 := hg9.size; replace HG := grown_tr HG hg9; replace hZ := hZ.grownB hg9 (by omega); replace hF := hF.grownB hg9 (by omega); replace hN := hN.grownB hg9 (by omega); replace O2 := O2.kept hg9 (fun k hk e => by have h1 := (O2.lt k hk); have h2 : k = p := (Option.some.inj e); omega)
    replace O3 := O3.kept hg9 (fun k hk e => by have h1 := (O3.lt k hk); have h2 : k = p := (Option.some.inj e); omega); have z' := hZ.cs5
    obtain ⟨f0, f1, f2, f3, f4⟩ := hF.cs5
    have n' := hN.cs5; have Q2 := OQ.o2; have Q3 := OQ.o3; clear OQ; replace Q2 := Q2.base (B' := w.heap.size) szb; replace Q3 := Q3.base (B' := w.heap.size) szb; have neO2 := nbO2; have neO3 := nbO3; have neQ2 := Q2.nb hN; have neQ3 := Q3.nb hN; have fhN' := hN.fz5; have yhZ := hZ.lt; have yhF := hF.lt; have yhN := hN.lt
    go_upto_region 16 with fail
    clear z' f0 f1 f2 f3 f4 n'
    refine st5 0 fun wS twS => ?_
    replace HG := stG twS HG; replace hC := stC twS hC; replace hZ := twS.fa hZ; replace hF := twS.fa hF; replace hN := twS.all5 hN; replace O2 := O2.kS twS; replace O3 := O3.kS twS; replace Q2 := Q2.kS twS; replace Q3 := Q3.kS twS; have z' := hZ.cs5
    obtain ⟨f0, f1, f2, f3, f4⟩ := hF.cs5
    have n' := hN.cs5; replace hC := hC.mono (M := N + 10 + 8 * (13 - m) + 6) (by omega); clear neO2 neO3 neQ2 neQ3 nbO2 nbO3
   case' inr.inr.inr.inl =>
    have szb := HG.size
    go_wp2_with fail
    refine (drNext_is tu se sp D2 d2 ws D3 d3 sh (by omega) (by omega) HN2.out HN3.out HK2.out HK3.out _ (O2.rds intC_len) (O3.rds sha_len)).mono ?_
    rintro e w9 ⟨tu1, se1, sp1, q1, ws1, sh1, E2, e2, E3, e3, b, rfl, hw1, hs1, OQ, hS9⟩
    clear z'; clear f0 f1 f2 f3 f4; clear n'; have hb9 : Below w8.heap.size w8 w9 := bth bel hS9; have hg9 : w8.grownBy w9 (some p) := bgr hb9 _; replace hC := hC.later hb9; have sz9 := hg9.size; replace HG := grown_tr HG hg9; replace hZ := hZ.grownB hg9 (by omega); replace hF := hF.grownB hg9 (by omega); replace hN := hN.grownB hg9 (by omega); replace O2 := O2.kept hg9 (fun k hk e => by have h1 := (O2.lt k hk); have h2 : k = p := (Option.some.inj e); omega)
    replace O3 := O3.kept hg9 (fun k hk e => by have h1 := (O3.lt k hk); have h2 : k = p := (Option.some.inj e); omega); have z' := hZ.cs5
    obtain ⟨f0, f1, f2, f3, f4⟩ := hF.cs5
    have n' := hN.cs5; have Q2 := OQ.o2; have Q3 := OQ.o3; clear OQ; replace Q2 := Q2.base (B' := w.heap.size) szb; replace Q3 := Q3.base (B' := w.heap.size) szb; have neO2 := nbO2; have neO3 := nbO3; have neQ2 := Q2.nb hN; have neQ3 := Q3.nb hN; have fhN' := hN.fz5; have yhZ := hZ.lt; have yhF := hF.lt; have yhN := hN.lt
    go_upto_region 16 with fail
    clear z' f0 f1 f2 f3 f4 n'
    refine st5 0 fun wS twS => ?_
    replace HG := stG twS HG; replace hC := stC twS hC; replace hZ := twS.fa hZ; replace hF := twS.fa hF; replace hN := twS.all5 hN; replace O2 := O2.kS twS; replace O3 := O3.kS twS; replace Q2 := Q2.kS twS; replace Q3 := Q3.kS twS; have z' := hZ.cs5
    obtain ⟨f0, f1, f2, f3, f4⟩ := hF.cs5
    have n' := hN.cs5; replace hC := hC.mono (M := N + 10 + 8 * (13 - m) + 6) (by omega); clear neO2 neO3 neQ2 neQ3 nbO2 nbO3
   case' inr.inr.inr.inr.inr =>
    have szb := HG.size
    go_wp2_with fail
    refine (drYield_is tu se sp D2 d2 ws D3 d3 sh (by omega) (by omega) HN2.out HN3.out HK2.out HK3.out _ (O2.rds intC_len) (O3.rds sha_len)).mono ?_
    rintro e w9 ⟨tu1, se1, sp1, ws1, sh1, E2, e2, E3, e3, b, rfl, hw1, hs1, OQ, hS9⟩
    clear z'; clear f0 f1 f2 f3 f4; clear n'; have hb9 : Below w8.heap.size w8 w9 := bth bel hS9; have hg9 : w8.grownBy w9 (some p) := bgr hb9 _; replace hC := hC.later hb9; have sz9 := hg9.size; replace HG := grown_tr HG hg9; replace hZ := hZ.grownB hg9 (by omega); replace hF := hF.grownB hg9 (by omega); replace hN := hN.grownB hg9 (by omega); replace O2 := O2.kept hg9 (fun k hk e => by have h1 := (O2.lt k hk); have h2 : k = p := (Option.some.inj e); omega)
    replace O3 := O3.kept hg9 (fun k hk e => by have h1 := (O3.lt k hk); have h2 : k = p := (Option.some.inj e); omega); have z' := hZ.cs5
    obtain ⟨f0, f1, f2, f3, f4⟩ := hF.cs5
    have n' := hN.cs5; have Q2 := OQ.o2; have Q3 := OQ.o3; clear OQ; replace Q2 := Q2.base (B' := w.heap.size) szb; replace Q3 := Q3.base (B' := w.heap.size) szb; have neO2 := nbO2; have neO3 := nbO3; have neQ2 := Q2.nb hN; have neQ3 := Q3.nb hN; have fhN' := hN.fz5; have yhZ := hZ.lt; have yhF := hF.lt; have yhN := hN.lt
    go_upto_region 16 with fail
    clear z' f0 f1 f2 f3 f4 n'
    refine st5 0 fun wS twS => ?_
    replace HG := stG twS HG; replace hC := stC twS hC; replace hZ := twS.fa hZ; replace hF := twS.fa hF; replace hN := twS.all5 hN; replace O2 := O2.kS twS; replace O3 := O3.kS twS; replace Q2 := Q2.kS twS; replace Q3 := Q3.kS twS; have z' := hZ.cs5
    obtain ⟨f0, f1, f2, f3, f4⟩ := hF.cs5
    have n' := hN.cs5; replace hC := hC.mono (M := N + 10 + 8 * (13 - m) + 6) (by omega); clear neO2 neO3 neQ2 neQ3 nbO2 nbO3
   case' inl =>
    go_upto_region 10 with fail
    obtain ⟨CC, hCC⟩ : ∃ X : World → Prop, ∀ V, X V ↔ Blk V fb 29 #[.int .i64 tu, .int .i64 se, .int .i64 sp, .slice D2 ws.length d2, .slice D3 sh.length d3] := ⟨_, fun _ => Iff.rfl⟩
    have HCC := lh hCC; clear hCC
    refine wp_region_mixh CC [([0, 1], 2), ([3], 4), ([5, 6, 7], 8)] [9] (by kernel_rfl) (by kernel_rfl) ((HCC.out _).2 hF) ?_
    replace O2 := O2.later (Below.refl w8.heap.size w8).drew; replace O3 := O3.later (Below.refl w8.heap.size w8).drew
    haveI : Nonempty (Hld CC) := ⟨⟨_, (HCC.out _).2 hF⟩⟩
    replace hC := hC.later (Below.refl _ _).drew; replace HG := grown_tr HG (bgr (Below.refl w8.heap.size w8).drew (some p)); clear z'; replace hZ : Blk w8.drew (w.heap.size) 29 #[.int .i64 0, .int .i64 0, .int .i64 0, .slice none 0 0, .slice none 0 0] := hZ; clear f0 f1 f2 f3 f4; replace hF : Blk w8.drew (fb) 29 #[.int .i64 tu, .int .i64 se, .int .i64 sp, .slice D2 ws.length d2, .slice D3 sh.length d3] := hF
    clear n'; replace hN : Blk w8.drew (wr.heap.size) 29 #[.int .i64 tu, .int .i64 se, .int .i64 sp, .slice D2 ws.length d2, .slice D3 sh.length d3] := hN; have szd : w8.drew.heap.size = w8.heap.size := rfl
    generalize w8.drew = wd at *
    have z' := hZ.cs5
    obtain ⟨f0, f1, f2, f3, f4⟩ := hF.cs5
    have n' := hN.cs5; clear szd; have szd2 : w.heap.size ≤ wd.heap.size := HG.size; clear f0 f1 f2 f3 f4
    obtain ⟨f0, f1, f2, f3, f4⟩ := Blk.cs5K (fun K : Hld CC => (HCC.out _).1 K.holds)
    refine wpMix_cons fun K2 hK2 => ?_
    change wpQuiet _ _ _ _ (_ :: _ :: []) _
    repeat (go_big_quiet_step (fail))
    refine wpQuiet_nil ?_
    change wpList _ _ _ (_ :: []) _ _
    go_wp2_with fail
    refine (pick_is 6 p A c cs hcs (N + 10 + 8 * (13 - m) + 2) (by omega) (by omega) _ (hC.later bel)).mono ?_
    rintro e w9 ⟨q, rfl, ⟨hbq, _, hcq⟩, hS9⟩
    clear z'; clear n'; have hg9 : wd.grownBy w9 (some p) := grown_tr (bgr bel _) hS9.2; replace hC := hS9.1; have sz9 := hg9.size; replace HG := grown_tr HG hg9; replace hZ := hZ.grownB hg9 (by omega); replace hN := hN.grownB hg9 (by omega); replace O2 := O2.kept hg9 (fun k hk e => by have h1 := (O2.lt k hk); have h2 : k = p := (Option.some.inj e); omega); replace O3 := O3.kept hg9 (fun k hk e => by have h1 := (O3.lt k hk); have h2 : k = p := (Option.some.inj e); omega)
    have z' := hZ.cs5; have n' := hN.cs5; replace hcq := hcq (by omega); replace hF := hF.grownB hg9 (by omega)
    go_wp2
    refine Nrm_intro ((HCC.out _).2 hF) (hK2 _ _ ?_)
    refine wpMix_cons fun K2 hK2 => ?_
    change wpQuiet _ _ _ _ (_ :: []) _
    repeat (go_big_quiet_step (fail))
    refine wpQuiet_nil ?_
    change wpList _ _ _ (_ :: []) _ _
    have szb := HG.size
    go_wp2_with fail
    refine (drAsk_is tu se sp D2 d2 ws D3 d3 sh (by omega) (by omega) HN2.out HN3.out HK2.out HK3.out (1 + q) _ (O2.rds intC_len) (O3.rds sha_len)).mono ?_
    rintro e w10 ⟨tu1, se1, sp1, ws1, sh1, E2, e2, E3, e3, b, rfl, hw1, hs1, OQ, hS10⟩
    clear z'; clear n'; have hb10 : Below w9.heap.size w9 w10 := bth bel hS10; have hg10 : w9.grownBy w10 (some p) := bgr hb10 _; replace hC := hC.later hb10; have sz10 := hg10.size; replace HG := grown_tr HG hg10; replace hZ := hZ.grownB hg10 (by omega); replace hN := hN.grownB hg10 (by omega); replace O2 := O2.kept hg10 (fun k hk e => by have h1 := (O2.lt k hk); have h2 : k = p := (Option.some.inj e); omega)
    replace O3 := O3.kept hg10 (fun k hk e => by have h1 := (O3.lt k hk); have h2 : k = p := (Option.some.inj e); omega); have z' := hZ.cs5; have n' := hN.cs5; replace hF := hF.grownB hg10 (by omega)
    go_wp2
    refine Nrm_intro ((HCC.out _).2 hF) (hK2 _ _ ?_)
    refine wpMix_cons fun K2 hK2 => ?_
    change wpQuiet _ _ _ _ (_ :: _ :: _ :: []) _
    repeat (go_big_quiet_step (fail))
    refine wpQuiet_nil ?_
    change wpList _ _ _ (_ :: []) _ _
    clear f0 f1 f2 f3 f4
    obtain ⟨f0, f1, f2, f3, f4⟩ := hF.cs5
    have Q2 := OQ.o2; have Q3 := OQ.o3; clear OQ; replace Q2 := Q2.base (B' := w.heap.size) szb; replace Q3 := Q3.base (B' := w.heap.size) szb; have neO2 := nbO2; have neO3 := nbO3; have neQ2 := Q2.nb hN; have neQ3 := Q3.nb hN; have fhN' := hN.fz5; have yhZ := hZ.lt; have yhN := hN.lt; have yhF := hF.lt
    go_wp2
    clear z' n' f0 f1 f2 f3 f4
    refine st5 0 fun wS twS => ?_
    replace HG := stG twS HG; replace hC := stC twS hC; replace hZ := twS.fa hZ; replace hN := twS.all5 hN; replace hF := twS.fa hF; replace O2 := O2.kS twS; replace O3 := O3.kS twS; replace Q2 := Q2.kS twS; replace Q3 := Q3.kS twS; have z' := hZ.cs5; have n' := hN.cs5
    obtain ⟨f0, f1, f2, f3, f4⟩ := hF.cs5
    refine Nrm_intro ((HCC.out _).2 hF) (hK2 _ _ ?_)
    refine wpMix_last ?_
    change wpQuiet _ _ _ _ (_ :: []) _
    repeat (go_big_quiet_step (fail))
    refine wpQuiet_nil ?_
    go_upto_region 16 with fail
    replace hC := hC.mono (M := N + 10 + 8 * (13 - m) + 6) (by omega); clear neO2 neO3 neQ2 neQ3 nbO2 nbO3
   case' inr.inl =>
    go_upto_region 10 with fail
    obtain ⟨CC, hCC⟩ : ∃ X : World → Prop, ∀ V, X V ↔ Blk V fb 29 #[.int .i64 tu, .int .i64 se, .int .i64 sp, .slice D2 ws.length d2, .slice D3 sh.length d3] := ⟨_, fun _ => Iff.rfl⟩
    have HCC := lh hCC; clear hCC
    refine wp_region_mixh CC [([0, 1], 2), ([3], 4), ([5, 6, 7], 8)] [9] (by kernel_rfl) (by kernel_rfl) ((HCC.out _).2 hF) ?_
    replace O2 := O2.later (Below.refl w8.heap.size w8).drew; replace O3 := O3.later (Below.refl w8.heap.size w8).drew
    haveI : Nonempty (Hld CC) := ⟨⟨_, (HCC.out _).2 hF⟩⟩
    replace hC := hC.later (Below.refl _ _).drew; replace HG := grown_tr HG (bgr (Below.refl w8.heap.size w8).drew (some p)); clear z'; replace hZ : Blk w8.drew (w.heap.size) 29 #[.int .i64 0, .int .i64 0, .int .i64 0, .slice none 0 0, .slice none 0 0] := hZ; clear f0 f1 f2 f3 f4; replace hF : Blk w8.drew (fb) 29 #[.int .i64 tu, .int .i64 se, .int .i64 sp, .slice D2 ws.length d2, .slice D3 sh.length d3] := hF
    clear n'; replace hN : Blk w8.drew (wr.heap.size) 29 #[.int .i64 tu, .int .i64 se, .int .i64 sp, .slice D2 ws.length d2, .slice D3 sh.length d3] := hN; have szd : w8.drew.heap.size = w8.heap.size := rfl
    generalize w8.drew = wd at *
    have z' := hZ.cs5
    obtain ⟨f0, f1, f2, f3, f4⟩ := hF.cs5
    have n' := hN.cs5; clear szd; have szd2 : w.heap.size ≤ wd.heap.size := HG.size; clear f0 f1 f2 f3 f4
    obtain ⟨f0, f1, f2, f3, f4⟩ := Blk.cs5K (fun K : Hld CC => (HCC.out _).1 K.holds)
    refine wpMix_cons fun K2 hK2 => ?_
    change wpQuiet _ _ _ _ (_ :: _ :: []) _
    repeat (go_big_quiet_step (fail))
    refine wpQuiet_nil ?_
    change wpList _ _ _ (_ :: []) _ _
    go_wp2_with fail
    refine (pick_is 6 p A c cs hcs (N + 10 + 8 * (13 - m) + 2) (by omega) (by omega) _ (hC.later bel)).mono ?_
    rintro e w9 ⟨q, rfl, ⟨hbq, _, hcq⟩, hS9⟩
    clear z'; clear n'; have hg9 : wd.grownBy w9 (some p) := grown_tr (bgr bel _) hS9.2; replace hC := hS9.1; have sz9 := hg9.size; replace HG := grown_tr HG hg9; replace hZ := hZ.grownB hg9 (by omega); replace hN := hN.grownB hg9 (by omega); replace O2 := O2.kept hg9 (fun k hk e => by have h1 := (O2.lt k hk); have h2 : k = p := (Option.some.inj e); omega); replace O3 := O3.kept hg9 (fun k hk e => by have h1 := (O3.lt k hk); have h2 : k = p := (Option.some.inj e); omega)
    have z' := hZ.cs5; have n' := hN.cs5; replace hcq := hcq (by omega); replace hF := hF.grownB hg9 (by omega)
    go_wp2
    refine Nrm_intro ((HCC.out _).2 hF) (hK2 _ _ ?_)
    refine wpMix_cons fun K2 hK2 => ?_
    change wpQuiet _ _ _ _ (_ :: []) _
    repeat (go_big_quiet_step (fail))
    refine wpQuiet_nil ?_
    change wpList _ _ _ (_ :: []) _ _
    have szb := HG.size
    go_wp2_with fail
    refine (drAsk_is tu se sp D2 d2 ws D3 d3 sh (by omega) (by omega) HN2.out HN3.out HK2.out HK3.out (1 + q) _ (O2.rds intC_len) (O3.rds sha_len)).mono ?_
    rintro e w10 ⟨tu1, se1, sp1, ws1, sh1, E2, e2, E3, e3, b, rfl, hw1, hs1, OQ, hS10⟩
    clear z'; clear n'; have hb10 : Below w9.heap.size w9 w10 := bth bel hS10; have hg10 : w9.grownBy w10 (some p) := bgr hb10 _; replace hC := hC.later hb10; have sz10 := hg10.size; replace HG := grown_tr HG hg10; replace hZ := hZ.grownB hg10 (by omega); replace hN := hN.grownB hg10 (by omega); replace O2 := O2.kept hg10 (fun k hk e => by have h1 := (O2.lt k hk); have h2 : k = p := (Option.some.inj e); omega)
    replace O3 := O3.kept hg10 (fun k hk e => by have h1 := (O3.lt k hk); have h2 : k = p := (Option.some.inj e); omega); have z' := hZ.cs5; have n' := hN.cs5; replace hF := hF.grownB hg10 (by omega)
    go_wp2
    refine Nrm_intro ((HCC.out _).2 hF) (hK2 _ _ ?_)
    refine wpMix_cons fun K2 hK2 => ?_
    change wpQuiet _ _ _ _ (_ :: _ :: _ :: []) _
    repeat (go_big_quiet_step (fail))
    refine wpQuiet_nil ?_
    change wpList _ _ _ (_ :: []) _ _
    clear f0 f1 f2 f3 f4
    obtain ⟨f0, f1, f2, f3, f4⟩ := hF.cs5
    have Q2 := OQ.o2; have Q3 := OQ.o3; clear OQ; replace Q2 := Q2.base (B' := w.heap.size) szb; replace Q3 := Q3.base (B' := w.heap.size) szb; have neO2 := nbO2; have neO3 := nbO3; have neQ2 := Q2.nb hN; have neQ3 := Q3.nb hN; have fhN' := hN.fz5; have yhZ := hZ.lt; have yhN := hN.lt; have yhF := hF.lt
    go_wp2
    clear z' n' f0 f1 f2 f3 f4
    refine st5 0 fun wS twS => ?_
    replace HG := stG twS HG; replace hC := stC twS hC; replace hZ := twS.fa hZ; replace hN := twS.all5 hN; replace hF := twS.fa hF; replace O2 := O2.kS twS; replace O3 := O3.kS twS; replace Q2 := Q2.kS twS; replace Q3 := Q3.kS twS; have z' := hZ.cs5; have n' := hN.cs5
    obtain ⟨f0, f1, f2, f3, f4⟩ := hF.cs5
    refine Nrm_intro ((HCC.out _).2 hF) (hK2 _ _ ?_)
    refine wpMix_last ?_
    change wpQuiet _ _ _ _ (_ :: []) _
    repeat (go_big_quiet_step (fail))
    refine wpQuiet_nil ?_
    go_upto_region 16 with fail
    replace hC := hC.mono (M := N + 10 + 8 * (13 - m) + 6) (by omega); clear neO2 neO3 neQ2 neQ3 nbO2 nbO3
   case' inr.inr.inr.inr.inl =>
    go_upto_region 15 with fail
    obtain ⟨CC, hCC⟩ : ∃ X : World → Prop, ∀ V, X V ↔ Blk V fb 29 #[.int .i64 tu, .int .i64 se, .int .i64 sp, .slice D2 ws.length d2, .slice D3 sh.length d3] := ⟨_, fun _ => Iff.rfl⟩
    have HCC := lh hCC; clear hCC
    refine wp_region_mixh CC [([0, 1], 2), ([], 3), ([], 4), ([5, 6, 7, 8], 9)] [10] (by kernel_rfl) (by kernel_rfl) ((HCC.out _).2 hF) ?_
    replace O2 := O2.later (Below.refl w8.heap.size w8).drew; replace O3 := O3.later (Below.refl w8.heap.size w8).drew
    haveI : Nonempty (Hld CC) := ⟨⟨_, (HCC.out _).2 hF⟩⟩
    replace hC := hC.later (Below.refl _ _).drew; replace HG := grown_tr HG (bgr (Below.refl w8.heap.size w8).drew (some p)); clear z'; replace hZ : Blk w8.drew (w.heap.size) 29 #[.int .i64 0, .int .i64 0, .int .i64 0, .slice none 0 0, .slice none 0 0] := hZ; clear f0 f1 f2 f3 f4; replace hF : Blk w8.drew (fb) 29 #[.int .i64 tu, .int .i64 se, .int .i64 sp, .slice D2 ws.length d2, .slice D3 sh.length d3] := hF
    clear n'; replace hN : Blk w8.drew (wr.heap.size) 29 #[.int .i64 tu, .int .i64 se, .int .i64 sp, .slice D2 ws.length d2, .slice D3 sh.length d3] := hN; have szd : w8.drew.heap.size = w8.heap.size := rfl
    generalize w8.drew = wd at *
    have z' := hZ.cs5
    obtain ⟨f0, f1, f2, f3, f4⟩ := hF.cs5
    have n' := hN.cs5; clear szd; have szd2 : w.heap.size ≤ wd.heap.size := HG.size; clear f0 f1 f2 f3 f4
    obtain ⟨f0, f1, f2, f3, f4⟩ := Blk.cs5K (fun K : Hld CC => (HCC.out _).1 K.holds)
    refine wpMix_cons fun K2 hK2 => ?_
    change wpQuiet _ _ _ _ (_ :: _ :: []) _
    repeat (go_big_quiet_step (fail))
    refine wpQuiet_nil ?_
    change wpList _ _ _ (_ :: []) _ _
    go_wp2
    refine Nrm_intro ((HCC.out _).2 (hF.to (bl1 _ _))) (hK2 _ _ ?_)
    refine wpMix_cons fun K2 hK2 => ?_
    change wpQuiet _ _ _ _ ([]) _
    refine wpQuiet_nil ?_
    change wpList _ _ _ (_ :: []) _ _
    go_wp2_with fail
    refine (amongL [1, 5, 30, 100] (1) 100 (by decide) (by decide) (by decide) p A c cs hcs (N + 10 + 8 * (13 - m) + 2) (by omega) wd (hC.later (bl0 _))).mono ?_
    rintro e w9 ⟨q, rfl, hbq, hS9⟩
    clear z'; clear n'; have hg9 : wd.grownBy w9 (some p) := grown_tr (bgr bel _) hS9.2; replace hC := hS9.1; have sz9 := hg9.size; replace HG := grown_tr HG hg9; replace hZ := hZ.grownB hg9 (by omega); replace hN := hN.grownB hg9 (by omega); replace O2 := O2.kept hg9 (fun k hk e => by have h1 := (O2.lt k hk); have h2 : k = p := (Option.some.inj e); omega); replace O3 := O3.kept hg9 (fun k hk e => by have h1 := (O3.lt k hk); have h2 : k = p := (Option.some.inj e); omega)
    have z' := hZ.cs5; have n' := hN.cs5; replace hF := hF.grownB hg9 (by omega)
    go_wp2
    refine Nrm_intro ((HCC.out _).2 hF) (hK2 _ _ ?_)
    refine wpMix_cons fun K2 hK2 => ?_
    change wpQuiet _ _ _ _ ([]) _
    refine wpQuiet_nil ?_
    change wpList _ _ _ (_ :: []) _ _
    have szb := HG.size
    go_wp2_with fail
    refine (drSpeak_is tu se sp D2 d2 ws D3 d3 sh (by omega) (by omega) HN2.out HN3.out HK2.out HK3.out q _ (O2.rds intC_len) (O3.rds sha_len)).mono ?_
    rintro e w10 ⟨tu1, se1, sp1, q1, ws1, sh1, E2, e2, E3, e3, b, rfl, hw1, hs1, OQ, hS10⟩
    clear z'; clear n'; have hb10 : Below w9.heap.size w9 w10 := bth bel hS10; have hg10 : w9.grownBy w10 (some p) := bgr hb10 _; replace hC := hC.later hb10; have sz10 := hg10.size; replace HG := grown_tr HG hg10; replace hZ := hZ.grownB hg10 (by omega); replace hN := hN.grownB hg10 (by omega); replace O2 := O2.kept hg10 (fun k hk e => by have h1 := (O2.lt k hk); have h2 : k = p := (Option.some.inj e); omega)
    replace O3 := O3.kept hg10 (fun k hk e => by have h1 := (O3.lt k hk); have h2 : k = p := (Option.some.inj e); omega); have z' := hZ.cs5; have n' := hN.cs5; replace hF := hF.grownB hg10 (by omega)
    go_wp2
    refine Nrm_intro ((HCC.out _).2 hF) (hK2 _ _ ?_)
    refine wpMix_cons fun K2 hK2 => ?_
    change wpQuiet _ _ _ _ (_ :: _ :: _ :: _ :: []) _
    repeat (go_big_quiet_step (fail))
    refine wpQuiet_nil ?_
    change wpList _ _ _ (_ :: []) _ _
    clear f0 f1 f2 f3 f4
    obtain ⟨f0, f1, f2, f3, f4⟩ := hF.cs5
    have Q2 := OQ.o2; have Q3 := OQ.o3; clear OQ; replace Q2 := Q2.base (B' := w.heap.size) szb; replace Q3 := Q3.base (B' := w.heap.size) szb; have neO2 := nbO2; have neO3 := nbO3; have neQ2 := Q2.nb hN; have neQ3 := Q3.nb hN; have fhN' := hN.fz5; have yhZ := hZ.lt; have yhN := hN.lt; have yhF := hF.lt
    go_wp2
    clear z' n' f0 f1 f2 f3 f4
    refine st5 0 fun wS twS => ?_
    replace HG := stG twS HG; replace hC := stC twS hC; replace hZ := twS.fa hZ; replace hN := twS.all5 hN; replace hF := twS.fa hF; replace O2 := O2.kS twS; replace O3 := O3.kS twS; replace Q2 := Q2.kS twS; replace Q3 := Q3.kS twS; have z' := hZ.cs5; have n' := hN.cs5
    obtain ⟨f0, f1, f2, f3, f4⟩ := hF.cs5
    refine Nrm_intro ((HCC.out _).2 hF) (hK2 _ _ ?_)
    refine wpMix_last ?_
    change wpQuiet _ _ _ _ (_ :: []) _
    repeat (go_big_quiet_step (fail))
    refine wpQuiet_nil ?_
    go_upto_region 16 with fail
    replace hC := hC.mono (M := N + 10 + 8 * (13 - m) + 6) (by omega); clear neO2 neO3 neQ2 neQ3 nbO2 nbO3
   all_goals
    cases b
    ·go_wp2
     go_roundw
     case rel => exact ⟨m - 1, tu, se, sp, ws, sh, D2, d2, D3, d3, by rw [← hmm], by omega, by omega, hZ, hF, ⟨O2, O3, O2.apart O3 (by decide)⟩, hC.mono (by omega), HG⟩
     case measure => simp [intOf]; omega
    ·have neO2 := O2.nb hF
     have neO3 := O3.nb hF; have neQ2 := Q2.nb hF; have neQ3 := Q3.nb hF
     obtain ⟨fhF0, fhF1, fhF2, fhF3, fhF4⟩ := hF.fz5
     have yhZ := hZ.lt; have yhF := hF.lt; have yhN := hN.lt
     go_upto_region 4 with fail
     clear z' f0 f1 f2 f3 f4 n'
     refine st5 0 fun wU twU => ?_
     replace HG := stG twU HG; replace hC := stC twU hC; replace hZ := twU.fa hZ; replace hF := twU.all5 hF; replace hN := twU.fa hN; replace O2 := O2.kS twU; replace O3 := O3.kS twU; replace Q2 := Q2.kS twU; replace Q3 := Q3.kS twU; have z' := hZ.cs5
     obtain ⟨f0, f1, f2, f3, f4⟩ := hF.cs5
     have n' := hN.cs5
     go_wp2
     go_roundw
     case rel => exact ⟨m - 1, tu1, se1, sp1, ws1, sh1, E2, e2, E3, e3, by rw [← hmm], by omega, by omega, hZ, hF, ⟨Q2, Q3, Q2.apart Q3 (by decide)⟩, hC.mono (by omega), HG⟩
     case measure => simp [intOf]; omega
  ·have hlt1 : ¬ (0 : Int) < (m : Int) := by omega
   have hlt2 : decide ((0 : Int) < (m : Int)) = false := decide_eq_false hlt1; have z' := hZ.cs5
   obtain ⟨f0, f1, f2, f3, f4⟩ := hF.cs5
   have hfl := hF.lt; replace hC := hC.mono (M := N + 120) (by omega)
   go_wp2_with fail
   refine (pick_is 24 p A c cs hcs (N + 120) (by omega) (by omega) _ (hC.later bel)).mono ?_
   rintro e w10 ⟨q, rfl, ⟨hbq, _, hcq⟩, hS10⟩
   clear z'; clear f0 f1 f2 f3 f4; have hg10 : wr.grownBy w10 (some p) := grown_tr (bgr bel _) hS10.2; replace hC := hS10.1; have sz10 := hg10.size; replace HG := grown_tr HG hg10; replace hZ := hZ.grownB hg10 (by omega); replace hF := hF.grownB hg10 (by omega); replace O2 := O2.kept hg10 (fun k hk e => by have h1 := (O2.lt k hk); have h2 : k = p := (Option.some.inj e); omega); replace O3 := O3.kept hg10 (fun k hk e => by have h1 := (O3.lt k hk); have h2 : k = p := (Option.some.inj e); omega)
   have z' := hZ.cs5
   obtain ⟨f0, f1, f2, f3, f4⟩ := hF.cs5
   replace hcq := hcq (by omega); clear hlt1 hlt2; have nbO2 : ∀ k, (Value.slice D2 ws.length d2).ownBlock = some k → ¬ k = fb := O2.nb hF; have nbO3 : ∀ k, (Value.slice D3 sh.length d3).ownBlock = some k → ¬ k = fb := O3.nb hF
   have hlw2 : ws.length ≤ 14 := by omega
   have hls2 : sh.length ≤ 27 := by omega
   clear hlw hls
   rcases (show q = 0 ∨ q = 1 ∨ q = 2 ∨ q = 3 ∨ 3 < q by omega) with rfl | rfl | rfl | rfl | hq4
   case' inl =>
    go_wp2_with fail
    refine (amongL [0, 1, 4] (0) 4 (by decide) (by decide) (by decide) p A c cs hcs (N + 122) (by omega) w10 (hC.later (bl0 _))).mono ?_
    rintro e w11 ⟨tu, rfl, hbtu, hS11⟩
    clear z'; clear f0 f1 f2 f3 f4; have hg11 : w10.grownBy w11 (some p) := grown_tr (bgr bel _) hS11.2; replace hC := hS11.1; have sz11 := hg11.size; replace HG := grown_tr HG hg11; replace hZ := hZ.grownB hg11 (by omega); replace hF := hF.grownB hg11 (by omega); replace O2 := O2.kept hg11 (fun k hk e => by have h1 := (O2.lt k hk); have h2 : k = p := (Option.some.inj e); omega); replace O3 := O3.kept hg11 (fun k hk e => by have h1 := (O3.lt k hk); have h2 : k = p := (Option.some.inj e); omega)
    have z' := hZ.cs5
    obtain ⟨f0, f1, f2, f3, f4⟩ := hF.cs5
    have neO2 := nbO2; have neO3 := nbO3; have fhF0 := hF.frozen 0; have yhZ := hZ.lt; have yhF := hF.lt
    go_upto_region 27 with fail
    clear z' f0 f1 f2 f3 f4
    refine st1 0 fun wE twE => ?_
    replace HG := stG twE HG; replace hC := stC twE hC; replace hZ := twE.fa hZ; replace hF : Blk wE (fb) 29 #[.int .i64 tu, .int .i64 se, .int .i64 sp, .slice D2 ws.length d2, .slice D3 sh.length d3] := twE.own hF; replace O2 := O2.kS twE; replace O3 := O3.kS twE; have z' := hZ.cs5
    obtain ⟨f0, f1, f2, f3, f4⟩ := hF.cs5
    replace hC := hC.mono (M := N + 140) (by omega); clear neO2 neO3 nbO2 nbO3
   case' inr.inl =>
    have szb := HG.size
    go_wp2_with fail
    refine (l1Own_is D2 d2 ws (by omega) HN2.out _ (O2.rds intC_len)).mono ?_
    rintro e w11 ⟨Y, y, rfl, OY, hS11⟩
    clear z'; clear f0 f1 f2 f3 f4; have hb11 : Below w10.heap.size w10 w11 := bth bel hS11; have hg11 : w10.grownBy w11 (some p) := bgr hb11 _; replace hC := hC.later hb11; have sz11 := hg11.size; replace HG := grown_tr HG hg11; replace hZ := hZ.grownB hg11 (by omega); replace hF := hF.grownB hg11 (by omega); replace O2 := O2.kept hg11 (fun k hk e => by have h1 := (O2.lt k hk); have h2 : k = p := (Option.some.inj e); omega)
    replace O3 := O3.kept hg11 (fun k hk e => by have h1 := (O3.lt k hk); have h2 : k = p := (Option.some.inj e); omega); have z' := hZ.cs5
    obtain ⟨f0, f1, f2, f3, f4⟩ := hF.cs5
    replace OY := OY.base (B' := w.heap.size) szb
    go_wp2_with fail
    refine (member_is p A c cs hcs (N + 122) (by omega) _ (hC.later bel)).mono ?_
    rintro e w12 ⟨v, rfl, hbv, hS12⟩
    clear z'; clear f0 f1 f2 f3 f4; have hg12 : w11.grownBy w12 (some p) := grown_tr (bgr bel _) hS12.2; replace hC := hS12.1; have sz12 := hg12.size; replace HG := grown_tr HG hg12; replace hZ := hZ.grownB hg12 (by omega); replace hF := hF.grownB hg12 (by omega); replace O2 := O2.kept hg12 (fun k hk e => by have h1 := (O2.lt k hk); have h2 : k = p := (Option.some.inj e); omega); replace O3 := O3.kept hg12 (fun k hk e => by have h1 := (O3.lt k hk); have h2 : k = p := (Option.some.inj e); omega)
    replace OY := OY.kept hg12 (fun k hk e => by have h1 := (OY.lt k hk); have h2 : k = p := (Option.some.inj e); omega); have z' := hZ.cs5
    obtain ⟨f0, f1, f2, f3, f4⟩ := hF.cs5

    have nyF : ∀ k, (Value.slice Y ws.length y).ownBlock = some k → ¬ k = fb := OY.nb hF; have nyZ : ∀ k, (Value.slice Y ws.length y).ownBlock = some k → ¬ k = w.heap.size := OY.nb hZ; have HCX := lh hC; have HGX := lh HG; have HZX := lh hZ; have HFX := lh hF; have HO3 := lh O3; have HAP := lh (O3.apart OY (by decide)); have HOY := lh OY; have HNZ := lh nyZ; have HNF := lh nyF; clear hC HG hZ hF O3 OY nyZ nyF O2 z' f0 f1 f2 f4
    go_upto_region 27 with ((at_builtin; refine wpList_app1 rfl _ _ 26 rfl w.heap.size 3 i0 _ 1 8 Tryz.underlying26 hi hz0 hz1 hz2 rfl (by decide) intC intC_len intC_one _ ws rfl (HOY.out.alloc _) ⟨w12.heap.size, 0, none⟩ 1 (v) rfl (rds_oneD _ _ _) (by unfold maxLen; omega) (by omega) (by have := HGX.out.size; simp; omega) ?_; intro va wa hOa hga haa; clear haa; obtain ⟨ga, dd, rfl⟩ := own_some hOa (by simp); have hF := (HFX.out.to (bl1 _ _)).grownN hga (fun e => HNF.out _ e.symm rfl); have f3 := (hF.cell 3).trans (show _ = some (.slice D2 ws.length d2) from rfl); have r3 := hF.frozen 3; have hfl := hF.lt))
    have hl8 : (ws ++ [v]).length = ws.length + 1 := by simp
    rw [hl8] at hOa
    have hC := (HCX.out.later (bl1 _ (.cells #[.int .i64 (v)] 3))).row hga (fun k hk => by have := (HOY.out.lt k hk).1; omega); have HG := grown_row2 (grown_tr HGX.out (bgr (bl1 _ (.cells #[.int .i64 (v)] 3)) _)) hga (fun k hk => (HOY.out.lt k hk).1); have hZ := (HZX.out.to (bl1 _ (.cells #[.int .i64 (v)] 3))).grownN hga (fun e => HNZ.out _ e.symm rfl); have O3 := (HO3.out.later (bl1 _ (.cells #[.int .i64 (v)] 3))).kept hga (fun k hk e => HAP.out k hk e)
    have O2 := hOa; clear f3 hga hOa r3 hfl; have z' := hZ.cs5
    obtain ⟨f0, f1, f2, f3, f4⟩ := hF.cs5
    have neO2 := O2.nb hF; have neO3 := nbO3; have hfl := hF.lt; clear z' f0 f1 f2 f3 f4
    refine st1 3 fun wE twE => ?_
    replace HG := stG twE HG; replace hC := stC twE hC; replace hZ := twE.fa hZ; replace hF : Blk wE (fb) 29 #[.int .i64 tu, .int .i64 se, .int .i64 sp, .slice (some ⟨ga, 0, none⟩) (ws.length + 1) dd, .slice D3 sh.length d3] := twE.own hF; replace O2 := O2.kS twE; replace O3 := O3.kS twE; have z' := hZ.cs5
    obtain ⟨f0, f1, f2, f3, f4⟩ := hF.cs5
    replace hlw2 : (ws ++ [v]).length ≤ 15 := by rw [hl8]; omega
    rw [← hl8] at hF f3 O2
    clear hl8 neO2 neO3
    generalize ws ++ [v] = ws at *
    generalize (some ⟨ga, 0, none⟩ : Option Addr) = D2 at *
    generalize dd = d2 at *
    replace hC := hC.mono (M := N + 140) (by omega); clear nbO2 nbO3
   case' inr.inr.inl =>
    go_wp2_with fail
    refine (member_is p A c cs hcs (N + 122) (by omega) _ (hC.later bel)).mono ?_
    rintro e w11 ⟨sp, rfl, hbsp, hS11⟩
    clear z'; clear f0 f1 f2 f3 f4; have hg11 : w10.grownBy w11 (some p) := grown_tr (bgr bel _) hS11.2; replace hC := hS11.1; have sz11 := hg11.size; replace HG := grown_tr HG hg11; replace hZ := hZ.grownB hg11 (by omega); replace hF := hF.grownB hg11 (by omega); replace O2 := O2.kept hg11 (fun k hk e => by have h1 := (O2.lt k hk); have h2 : k = p := (Option.some.inj e); omega); replace O3 := O3.kept hg11 (fun k hk e => by have h1 := (O3.lt k hk); have h2 : k = p := (Option.some.inj e); omega)
    have z' := hZ.cs5
    obtain ⟨f0, f1, f2, f3, f4⟩ := hF.cs5
    have neO2 := nbO2; have neO3 := nbO3; have fhF2 := hF.frozen 2; have yhZ := hZ.lt; have yhF := hF.lt
    go_upto_region 27 with fail
    clear z' f0 f1 f2 f3 f4
    refine st1 2 fun wE twE => ?_
    replace HG := stG twE HG; replace hC := stC twE hC; replace hZ := twE.fa hZ; replace hF : Blk wE (fb) 29 #[.int .i64 tu, .int .i64 se, .int .i64 sp, .slice D2 ws.length d2, .slice D3 sh.length d3] := twE.own hF; replace O2 := O2.kS twE; replace O3 := O3.kS twE; have z' := hZ.cs5
    obtain ⟨f0, f1, f2, f3, f4⟩ := hF.cs5
    replace hC := hC.mono (M := N + 140) (by omega); clear neO2 neO3 nbO2 nbO3
   case' inr.inr.inr.inl =>
    have szb := HG.size; have HCX := lh hC; have HGX := lh HG; have HZX := lh hZ; have HFX := lh hF; have HO3 := lh O3; have HO2 := lh O2; have yhZ := hZ.lt; have yhF := hF.lt; clear hC HG hZ O2 O3 z' f0 f1 f2 f3
    go_wp2_with ((at_builtin; refine wpList_appOn rfl _ _ 27 rfl w10.heap.size 144 j0 _ 3 24 Tryz.underlying27 hj jz0 jz1 jz2 rfl (by decide) Sha.cells sha_len sha_one w10.heap.size rfl (Blk.new _ _ _) (Nat.le_refl _) D3 d3 sh sh.length rfl rfl ((HO3.out.rds sha_len).alloc _) HN3.out (by unfold maxLen; omega) (by omega) ?_; intro gs ds wb hO' hb'))
    have hb2 : Below w10.heap.size w10 wb := bth (bl1 _ _) hb'; have hC := HCX.out.later hb2; have HG := grown_tr HGX.out (bgr hb2 (some p)); have hZ := HZX.out.to hb2; replace hF := HFX.out.to hb2; have O2 := HO2.out.later hb2; have OS := hO'.base (B' := w.heap.size) szb; clear f4 hO' hb'; have z' := hZ.cs5
    obtain ⟨f0, f1, f2, f3, f4⟩ := hF.cs5
    have hfl := hF.lt
    go_wp2_with fail
    refine (amongL [7, 99, 100] (7) 100 (by decide) (by decide) (by decide) p A c cs hcs (N + 122) (by omega) wb (hC.later (bl0 _))).mono ?_
    rintro e w11 ⟨sm, rfl, hbsm, hS11⟩
    clear z'; clear f0 f1 f2 f3 f4; have hg11 : wb.grownBy w11 (some p) := grown_tr (bgr bel _) hS11.2; replace hC := hS11.1; have sz11 := hg11.size; replace HG := grown_tr HG hg11; replace hZ := hZ.grownB hg11 (by omega); replace hF := hF.grownB hg11 (by omega); replace O2 := O2.kept hg11 (fun k hk e => by have h1 := (O2.lt k hk); have h2 : k = p := (Option.some.inj e); omega); replace OS := OS.kept hg11 (fun k hk e => by have h1 := (OS.lt k hk); have h2 : k = p := (Option.some.inj e); omega)
    have z' := hZ.cs5
    obtain ⟨f0, f1, f2, f3, f4⟩ := hF.cs5
    go_wp2_with fail
    refine (pick_is 4 p A c cs hcs (N + 124) (by omega) (by omega) _ (hC.later bel)).mono ?_
    rintro e w12 ⟨st, rfl, ⟨hbst, _, hcst⟩, hS12⟩
    clear z'; clear f0 f1 f2 f3 f4; have hg12 : w11.grownBy w12 (some p) := grown_tr (bgr bel _) hS12.2; replace hC := hS12.1; have sz12 := hg12.size; replace HG := grown_tr HG hg12; replace hZ := hZ.grownB hg12 (by omega); replace hF := hF.grownB hg12 (by omega); replace O2 := O2.kept hg12 (fun k hk e => by have h1 := (O2.lt k hk); have h2 : k = p := (Option.some.inj e); omega); replace OS := OS.kept hg12 (fun k hk e => by have h1 := (OS.lt k hk); have h2 : k = p := (Option.some.inj e); omega)
    have z' := hZ.cs5
    obtain ⟨f0, f1, f2, f3, f4⟩ := hF.cs5
    replace hcst := hcst (by omega)
    go_wp2_with fail
    refine (amongL [0, 1, 3600] (0) 3600 (by decide) (by decide) (by decide) p A c cs hcs (N + 126) (by omega) w12 (hC.later (bl0 _))).mono ?_
    rintro e w13 ⟨ss, rfl, hbss, hS13⟩
    clear z'; clear f0 f1 f2 f3 f4; have hg13 : w12.grownBy w13 (some p) := grown_tr (bgr bel _) hS13.2; replace hC := hS13.1; have sz13 := hg13.size; replace HG := grown_tr HG hg13; replace hZ := hZ.grownB hg13 (by omega); replace hF := hF.grownB hg13 (by omega); replace O2 := O2.kept hg13 (fun k hk e => by have h1 := (O2.lt k hk); have h2 : k = p := (Option.some.inj e); omega); replace OS := OS.kept hg13 (fun k hk e => by have h1 := (OS.lt k hk); have h2 : k = p := (Option.some.inj e); omega)
    have z' := hZ.cs5
    obtain ⟨f0, f1, f2, f3, f4⟩ := hF.cs5
    have nyF : ∀ k, (Value.slice (some ⟨gs, 0, none⟩) sh.length ds).ownBlock = some k → ¬ k = fb := OS.nb hF; have nyZ : ∀ k, (Value.slice (some ⟨gs, 0, none⟩) sh.length ds).ownBlock = some k → ¬ k = w.heap.size := OS.nb hZ; have HCY := lh hC; have HGY := lh HG; have HZY := lh hZ; have HFY := lh hF; have HO2Y := lh O2; have HAP := lh (O2.apart OS (by decide)); have HOS := lh OS; have HNZ := lh nyZ
    have HNF := lh nyF; clear hC HG hZ hF O2 OS nyZ nyF z' f0 f1 f2 f3 f4
    go_upto_region 27 with ((at_builtin; refine wpList_app1 rfl _ _ 27 rfl w.heap.size 144 j0 _ 3 24 Tryz.underlying27 hj jz0 jz1 jz2 rfl (by decide) Sha.cells sha_len sha_one _ sh rfl (HOS.out.alloc _) ⟨w13.heap.size, 0, none⟩ 1 ⟨sm, st, ss⟩ rfl (rds_oneS3 _ _ _ _ _) (by unfold maxLen; omega) (by omega) (by have := HGY.out.size; simp; omega) ?_; intro va wa hOa hga haa; clear haa; obtain ⟨ga, dd, rfl⟩ := own_some hOa (by simp); have hF := (HFY.out.to (bl1 _ _)).grownN hga (fun e => HNF.out _ e.symm rfl); have f4 := (hF.cell 4).trans (show _ = some (.slice D3 sh.length d3) from rfl); have r4 := hF.frozen 4; have hfl := hF.lt))
    have hl8 : (sh ++ [(⟨sm, st, ss⟩ : Sha)]).length = sh.length + 1 := by simp
    rw [hl8] at hOa
    have hC := (HCY.out.later (bl1 _ (.cells #[.int .i64 sm, .int .i64 st, .int .i64 ss] 144))).row hga (fun k hk => by have := (HOS.out.lt k hk).1; omega); have HG := grown_row2 (grown_tr HGY.out (bgr (bl1 _ (.cells #[.int .i64 sm, .int .i64 st, .int .i64 ss] 144)) _)) hga (fun k hk => (HOS.out.lt k hk).1); have hZ := (HZY.out.to (bl1 _ (.cells #[.int .i64 sm, .int .i64 st, .int .i64 ss] 144))).grownN hga (fun e => HNZ.out _ e.symm rfl)
    have O2 := (HO2Y.out.later (bl1 _ (.cells #[.int .i64 sm, .int .i64 st, .int .i64 ss] 144))).kept hga (fun k hk e => HAP.out k hk e); have O3 := hOa; clear f4 hga hOa r4 hfl; have z' := hZ.cs5
    obtain ⟨f0, f1, f2, f3, f4⟩ := hF.cs5
    have neO3 := O3.nb hF; have neO2 := nbO2; have hfl := hF.lt; clear z' f0 f1 f2 f3 f4
    refine st1 4 fun wE twE => ?_
    replace HG := stG twE HG; replace hC := stC twE hC; replace hZ := twE.fa hZ; replace hF : Blk wE (fb) 29 #[.int .i64 tu, .int .i64 se, .int .i64 sp, .slice D2 ws.length d2, .slice (some ⟨ga, 0, none⟩) (sh.length + 1) dd] := twE.own hF; replace O2 := O2.kS twE; replace O3 := O3.kS twE; have z' := hZ.cs5
    obtain ⟨f0, f1, f2, f3, f4⟩ := hF.cs5
    replace hls2 : (sh ++ [(⟨sm, st, ss⟩ : Sha)]).length ≤ 28 := by rw [hl8]; omega
    rw [← hl8] at hF f4 O3
    clear hl8 neO2 neO3
    generalize sh ++ [(⟨sm, st, ss⟩ : Sha)] = sh at *
    generalize (some ⟨ga, 0, none⟩ : Option Addr) = D3 at *
    generalize dd = d3 at *
    replace hC := hC.mono (M := N + 140) (by omega); clear nbO2 nbO3
   case' inr.inr.inr.inr =>
    have g0 : (q == 0) = false := beq_eq_false_iff_ne.2 (by omega); have g1 : (q == 1) = false := beq_eq_false_iff_ne.2 (by omega); have g2 : (q == 2) = false := beq_eq_false_iff_ne.2 (by omega); have g3 : (q == 3) = false := beq_eq_false_iff_ne.2 (by omega)
    go_upto_region 27 with fail
    replace hC := hC.mono (M := N + 140) (by omega)
    generalize w10 = wE at *
    clear g0 g1 g2 g3 hq4 nbO2 nbO3
   all_goals
    go_wp2_with fail
    refine (one_is 24 p A c cs hcs (N + 140) (by omega) (by omega) _ (hC.later bel)).mono ?_
    rintro e w12 ⟨b1, rfl, hS12⟩
    clear z'; clear f0 f1 f2 f3 f4; have hg12 : wE.grownBy w12 (some p) := grown_tr (bgr bel _) hS12.2; replace hC := hS12.1; have sz12 := hg12.size; replace HG := grown_tr HG hg12; replace hZ := hZ.grownB hg12 (by omega); replace hF := hF.grownB hg12 (by omega); replace O2 := O2.kept hg12 (fun k hk e => by have h1 := (O2.lt k hk); have h2 : k = p := (Option.some.inj e); omega); replace O3 := O3.kept hg12 (fun k hk e => by have h1 := (O3.lt k hk); have h2 : k = p := (Option.some.inj e); omega)
    have z' := hZ.cs5
    obtain ⟨f0, f1, f2, f3, f4⟩ := hF.cs5
    cases b1
    ·have neO2 := O2.nb hZ
     have neO3 := O3.nb hZ; have fhZ' := hZ.fz5; have yhZ := hZ.lt; have yhF := hF.lt
     go_wp2
     clear z' f0 f1 f2 f3 f4
     refine st5 0 fun W9 tW9 => ?_
     replace HG := stG tW9 HG; replace hC := stC tW9 hC; replace hZ := tW9.all5 hZ; replace hF := tW9.fa hF; replace O2 := O2.kS tW9; replace O3 := O3.kS tW9; have z' := hZ.cs5
     obtain ⟨f0, f1, f2, f3, f4⟩ := hF.cs5
     exact brt ⟨tu, se, sp, ws, sh, D2, d2, D3, d3, rfl, by omega, by omega, ⟨O2, O3, O2.apart O3 (by decide)⟩, hC.mono (by omega), HG⟩ (by simp [results, Tryz.results101, go_sem, z'])
    ·have nbZ3 : ∀ k, (Value.slice D3 sh.length d3).ownBlock = some k → ¬ k = fb := O3.nb hF
     clear hfl
     go_wp2
     go_loopw [8] (fun i wr => ∃ (m : Nat) (ws : List Int) (D2 : Option Addr) (d2 : Nat), i = .int .i64 (m : Int) ∧ 20 ≤ m ∧ m ≤ 40 ∧ ws.length ≤ m - 5 ∧ Blk wr w.heap.size 29 #[.int .i64 0, .int .i64 0, .int .i64 0, .slice none 0 0, .slice none 0 0] ∧ Blk wr fb 29 #[.int .i64 tu, .int .i64 se, .int .i64 sp, .slice D2 ws.length d2, .slice D3 sh.length d3] ∧ OwnV w.heap.size 3 1 intC wr (.slice D2 ws.length d2) ws ∧ OwnV w.heap.size 144 3 Sha.cells wr (.slice D3 sh.length d3) sh ∧ Cur wr p A c cs (N + 150 + 2 * (m - 20)) ∧ w.grownBy wr (some p)) (fun i _ => 40 - (intOf i).toNat)
     case atStart => exact ⟨20, ws, D2, d2, rfl, by omega, by omega, by omega, hZ, hF, O2, O3, hC.mono (by omega), HG⟩
     case round =>
      clear hC hZ hF HG O2 O3 z' f0 f1 f2 f3 f4 hlw2
      obtain ⟨m, ws, D2, d2, rfl, hm1, hm2, hlw2, hZ, hF, O2, O3, hC, HG⟩ := hrel
      have HN2 := lh O2.nilOk; have z' := hZ.cs5
      obtain ⟨f0, f1, f2, f3, f4⟩ := hF.cs5
      have hfl := hF.lt
      go_upto_region 29 with fail
      obtain ⟨CC, hCC⟩ : ∃ X : World → Prop, ∀ V, X V ↔ Blk V fb 29 #[.int .i64 tu, .int .i64 se, .int .i64 sp, .slice D2 ws.length d2, .slice D3 sh.length d3] := ⟨_, fun _ => Iff.rfl⟩
      have HCC := lh hCC; clear hCC
      refine wp_region_mixh CC [([0, 1, 2, 3], 4)] [5, 6, 7, 8, 9, 10] (by kernel_rfl) (by kernel_rfl) ((HCC.out _).2 hF) ?_
      replace O2 := O2.later (Below.refl wr.heap.size wr).drew; replace O3 := O3.later (Below.refl wr.heap.size wr).drew
      haveI : Nonempty (Hld CC) := ⟨⟨_, (HCC.out _).2 hF⟩⟩
      replace hC := hC.later (Below.refl _ _).drew; replace HG := grown_tr HG (bgr (Below.refl wr.heap.size wr).drew (some p)); clear z'; replace hZ : Blk wr.drew (w.heap.size) 29 #[.int .i64 0, .int .i64 0, .int .i64 0, .slice none 0 0, .slice none 0 0] := hZ; clear f0 f1 f2 f3 f4; replace hF : Blk wr.drew (fb) 29 #[.int .i64 tu, .int .i64 se, .int .i64 sp, .slice D2 ws.length d2, .slice D3 sh.length d3] := hF
      have szd : wr.drew.heap.size = wr.heap.size := rfl
      generalize wr.drew = wd at *
      have z' := hZ.cs5
      obtain ⟨f0, f1, f2, f3, f4⟩ := hF.cs5
      clear szd; have szd2 : w.heap.size ≤ wd.heap.size := HG.size; clear f0 f1 f2 f3 f4
      obtain ⟨f0, f1, f2, f3, f4⟩ := Blk.cs5K (fun K : Hld CC => (HCC.out _).1 K.holds)
      refine wpMix_cons fun K2 hK2 => ?_
      change wpQuiet _ _ _ _ (_ :: _ :: _ :: _ :: []) _
      repeat (go_big_quiet_step (fail))
      refine wpQuiet_nil ?_
      change wpList _ _ _ (_ :: []) _ _
      go_wp2_with fail
      refine (pick_is 2 p A c cs hcs (N + 150 + 2 * (m - 20)) (by omega) (by omega) _ (hC.later bel)).mono ?_
      rintro e w13 ⟨q, rfl, ⟨hbq, _, hcq⟩, hS13⟩
      clear z'; have hg13 : wd.grownBy w13 (some p) := grown_tr (bgr bel _) hS13.2; replace hC := hS13.1; have sz13 := hg13.size; replace HG := grown_tr HG hg13; replace hZ := hZ.grownB hg13 (by omega); replace O2 := O2.kept hg13 (fun k hk e => by have h1 := (O2.lt k hk); have h2 : k = p := (Option.some.inj e); omega); replace O3 := O3.kept hg13 (fun k hk e => by have h1 := (O3.lt k hk); have h2 : k = p := (Option.some.inj e); omega)
      have z' := hZ.cs5; replace hcq := hcq (by omega); replace hF := hF.grownB hg13 (by omega)
      rcases (show ((ws.length : Int) < 10 + q ∧ m < 40) ∨ ((ws.length : Int) < 10 + q ∧ m = 40) ∨ ¬ ((ws.length : Int) < 10 + q) by omega) with ⟨hl1, hl3⟩ | ⟨hl1, hl3⟩ | hl1
      case' inl =>
       have hd1 : decide ((ws.length : Int) < 10 + q) = true := decide_eq_true hl1; have hd2 : decide ((m : Int) < 40) = true := decide_eq_true (by omega)
       have hd3 : (m : Int) < 40 := by omega
       go_wp2
       refine Nrm_intro ((HCC.out _).2 hF) (hK2 _ _ ?_)
       refine wpMix_last ?_
       change wpQuiet _ _ _ _ (_ :: _ :: _ :: _ :: _ :: _ :: []) _
       repeat (go_big_quiet_step (fail))
       refine wpQuiet_nil ?_
       clear f0 f1 f2 f3 f4
       obtain ⟨f0, f1, f2, f3, f4⟩ := hF.cs5
       clear hd1 hd2; have nbO3 := nbZ3; replace hC := hC.mono (M := N + 150 + 2 * (m + 1 - 20)) (by omega); have szb := HG.size
       go_wp2_with fail
       refine (l1Own_is D2 d2 ws (by omega) HN2.out _ (O2.rds intC_len)).mono ?_
       rintro e w14 ⟨Y, y, rfl, OY, hS14⟩
       clear z'; clear f0 f1 f2 f3 f4; have hb14 : Below w13.heap.size w13 w14 := bth bel hS14; have hg14 : w13.grownBy w14 (some p) := bgr hb14 _; replace hC := hC.later hb14; have sz14 := hg14.size; replace HG := grown_tr HG hg14; replace hZ := hZ.grownB hg14 (by omega); replace hF := hF.grownB hg14 (by omega); replace O2 := O2.kept hg14 (fun k hk e => by have h1 := (O2.lt k hk); have h2 : k = p := (Option.some.inj e); omega)
       replace O3 := O3.kept hg14 (fun k hk e => by have h1 := (O3.lt k hk); have h2 : k = p := (Option.some.inj e); omega); have z' := hZ.cs5
       obtain ⟨f0, f1, f2, f3, f4⟩ := hF.cs5
       replace OY := OY.base (B' := w.heap.size) szb

       have nyF : ∀ k, (Value.slice Y ws.length y).ownBlock = some k → ¬ k = fb := OY.nb hF; have nyZ : ∀ k, (Value.slice Y ws.length y).ownBlock = some k → ¬ k = w.heap.size := OY.nb hZ; have HCX := lh hC; have HGX := lh HG; have HZX := lh hZ; have HFX := lh hF; have HO3 := lh O3; have HAP := lh (O3.apart OY (by decide)); have HOY := lh OY; have HNZ := lh nyZ; have HNF := lh nyF; clear hC HG hZ hF O3 OY nyZ nyF O2 z' f0 f1 f2 f4
       go_upto_region 30 with ((at_builtin; refine wpList_app1 rfl _ _ 26 rfl w.heap.size 3 i0 _ 1 8 Tryz.underlying26 hi hz0 hz1 hz2 rfl (by decide) intC intC_len intC_one _ ws rfl (HOY.out.alloc _) ⟨w14.heap.size, 0, none⟩ 1 ((m : Int)) rfl (rds_oneD _ _ _) (by unfold maxLen; omega) (by omega) (by have := HGX.out.size; simp; omega) ?_; intro va wa hOa hga haa; clear haa; obtain ⟨ga, dd, rfl⟩ := own_some hOa (by simp); have hF := (HFX.out.to (bl1 _ _)).grownN hga (fun e => HNF.out _ e.symm rfl); have f3 := (hF.cell 3).trans (show _ = some (.slice D2 ws.length d2) from rfl); have r3 := hF.frozen 3; have hfl := hF.lt))
       have hl8 : (ws ++ [(m : Int)]).length = ws.length + 1 := by simp
       rw [hl8] at hOa
       have hC := (HCX.out.later (bl1 _ (.cells #[.int .i64 ((m : Int))] 3))).row hga (fun k hk => by have := (HOY.out.lt k hk).1; omega); have HG := grown_row2 (grown_tr HGX.out (bgr (bl1 _ (.cells #[.int .i64 ((m : Int))] 3)) _)) hga (fun k hk => (HOY.out.lt k hk).1); have hZ := (HZX.out.to (bl1 _ (.cells #[.int .i64 ((m : Int))] 3))).grownN hga (fun e => HNZ.out _ e.symm rfl); have O3 := (HO3.out.later (bl1 _ (.cells #[.int .i64 ((m : Int))] 3))).kept hga (fun k hk e => HAP.out k hk e)
       have O2 := hOa; clear f3 hga hOa r3 hfl; have z' := hZ.cs5
       obtain ⟨f0, f1, f2, f3, f4⟩ := hF.cs5
       have neO2 := O2.nb hF; have neO3 := nbO3; have hfl := hF.lt; clear z' f0 f1 f2 f3 f4
       refine st1 3 fun wE twE => ?_
       replace HG := stG twE HG; replace hC := stC twE hC; replace hZ := twE.fa hZ; replace hF : Blk wE (fb) 29 #[.int .i64 tu, .int .i64 se, .int .i64 sp, .slice (some ⟨ga, 0, none⟩) (ws.length + 1) dd, .slice D3 sh.length d3] := twE.own hF; replace O2 := O2.kS twE; replace O3 := O3.kS twE; have z' := hZ.cs5
       obtain ⟨f0, f1, f2, f3, f4⟩ := hF.cs5
       replace hlw2 : (ws ++ [(m : Int)]).length ≤ m + 1 - 5 := by rw [hl8]; omega
       rw [← hl8] at hF f3 O2
       clear hl8 neO2 neO3
       generalize ws ++ [(m : Int)] = ws at *
       generalize (some ⟨ga, 0, none⟩ : Option Addr) = D2 at *
       generalize dd = d2 at *
       go_wp2
       go_roundw
       case rel => exact ⟨m + 1, ws, D2, d2, by go_num, by omega, by omega, by omega, hZ, hF, O2, O3, hC, HG⟩
       case measure => simp [intOf]; omega
      case' inr.inl =>
       have hd1 : decide ((ws.length : Int) < 10 + q) = true := decide_eq_true hl1; have hd2 : decide ((m : Int) < 40) = false := decide_eq_false (by omega)
       have hd3 : ¬ (m : Int) < 40 := by omega
       go_wp2
       refine Nrm_intro ((HCC.out _).2 hF) (hK2 _ _ ?_)
       refine wpMix_last ?_
       change wpQuiet _ _ _ _ (_ :: _ :: _ :: _ :: _ :: _ :: []) _
       repeat (go_big_quiet_step (fail))
       refine wpQuiet_nil ?_
       clear f0 f1 f2 f3 f4
       obtain ⟨f0, f1, f2, f3, f4⟩ := hF.cs5
       clear hd1 hd2; have neO2 := O2.nb hZ; have neO3 := O3.nb hZ; have fhZ' := hZ.fz5; have yhZ := hZ.lt; have yhF := hF.lt
       go_wp2
       clear z' f0 f1 f2 f3 f4
       refine st5 0 fun W9 tW9 => ?_
       replace HG := stG tW9 HG; replace hC := stC tW9 hC; replace hZ := tW9.all5 hZ; replace hF := tW9.fa hF; replace O2 := O2.kS tW9; replace O3 := O3.kS tW9; have z' := hZ.cs5
       obtain ⟨f0, f1, f2, f3, f4⟩ := hF.cs5
       exact brt ⟨tu, se, sp, ws, sh, D2, d2, D3, d3, rfl, by omega, by omega, ⟨O2, O3, O2.apart O3 (by decide)⟩, hC.mono (by omega), HG⟩ (by simp [results, Tryz.results101, go_sem, z'])
      case' inr.inr =>
       have hd1 : decide ((ws.length : Int) < 10 + q) = false := decide_eq_false hl1
       go_wp2
       refine Nrm_intro ((HCC.out _).2 hF) (hK2 _ _ ?_)
       refine wpMix_last ?_
       change wpQuiet _ _ _ _ (_ :: _ :: _ :: _ :: _ :: _ :: []) _
       repeat (go_big_quiet_step (fail))
       refine wpQuiet_nil ?_
       clear f0 f1 f2 f3 f4
       obtain ⟨f0, f1, f2, f3, f4⟩ := hF.cs5
       clear hd1; have neO2 := O2.nb hZ; have neO3 := O3.nb hZ; have fhZ' := hZ.fz5; have yhZ := hZ.lt; have yhF := hF.lt
       go_wp2
       clear z' f0 f1 f2 f3 f4
       refine st5 0 fun W9 tW9 => ?_
       replace HG := stG tW9 HG; replace hC := stC tW9 hC; replace hZ := tW9.all5 hZ; replace hF := tW9.fa hF; replace O2 := O2.kS tW9; replace O3 := O3.kS tW9; have z' := hZ.cs5
       obtain ⟨f0, f1, f2, f3, f4⟩ := hF.cs5
       exact brt ⟨tu, se, sp, ws, sh, D2, d2, D3, d3, rfl, by omega, by omega, ⟨O2, O3, O2.apart O3 (by decide)⟩, hC.mono (by omega), HG⟩ (by simp [results, Tryz.results101, go_sem, z'])
end Go.Proofs.YtjimibkgocieoaaGreat
