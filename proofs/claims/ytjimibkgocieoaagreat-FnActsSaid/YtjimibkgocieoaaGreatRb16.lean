/- Texts of the proof: walks of the functions, and what they compute. -/
import Derived.Test.YtjimibkgocieoaaGreatRb15
import Derived.Test.YtjimibkgocieoaaGreatRb0
import Derived.Test.YtjimibkgocieoaaGreatRb12
import Derived.Test.YtjimibkgocieoaaGreatRb14
import Derived.Test.YtjimibkgocieoaaGreatRb8
set_option maxHeartbeats 16000000
set_option maxRecDepth 100000
namespace Go.Proofs.YtjimibkgocieoaaGreat
open Go.RowKit Go.G9
theorem l1Least_is (a b v : Int) (hv : v = if a < b then a else b) (w : World) : Calls Tryz.prog 128 #[.int .i64 a, .int .i64 b] w fun e w' => e = .returned (.int .i64 v) ∧ w' = w := by
 subst hv
 by_cases h : a < b
 ·rw [if_pos h]
  go_in
  go_wp2
  go_ret
  exact ⟨rfl, rfl⟩
 ·rw [if_neg h]
  go_in
  go_wp2
  go_ret
  exact ⟨rfl, rfl⟩
theorem zb95 {p : Prop} (h : p := by
 have fhZ' := hZ.fz5
 go_wp2
 clear f' z'
 refine st5 0 fun W9 tW9 => ?_
 replace HB := tW9.hc HB; replace hZ := tW9.all5 hZ; have z' := hZ.cs5
 exact brt ⟨rfl, HB⟩ (by simp [results, Tryz.results158, go_sem, z'])) : p := h
theorem sSpeakF_is (tu se sp : Int) (A2 : Option Addr) (c2 : Nat) (ws : List Int) (A3 : Option Addr) (c3 : Nat) (sh : List Sha) (h2 : ws.length ≤ 1048576) (h3 : sh.length ≤ 1048576) (n2 : A2 = none → ws = [] ∧ c2 = 0) (n3 : A3 = none → sh = [] ∧ c3 = 0) (k2 : ws.length ≤ c2) (k3 : sh.length ≤ c3) (n : Int) (hv : spB ⟨tu, se, sp, ws, sh⟩ n = false) (w : World) (R2 : Rds 1 intC w A2 ws) (R3 : Rds 3 Sha.cells w A3 sh) :
 Calls Tryz.prog 158 #[.agg #[.int .i64 tu, .int .i64 se, .int .i64 sp, .slice A2 ws.length c2, .slice A3 sh.length c3], .int .i64 n] w fun e w' => e = .returned (.tuple #[.agg #[.int .i64 0, .int .i64 0, .int .i64 0, .slice none 0 0, .slice none 0 0], .int .i64 0, .bool false]) ∧ Below w.heap.size w w' := by
 have HR2 := lh R2; have HR3 := lh R3; clear R2 R3 n2 n3 k3
 cases hf : floB tu se sp ws sh
 ·have HV := lh hf
  clear hf hv
  go_in
  go_upto_region 1 with fail
  refine lay2 fun wX hq1 hF hZ => ?_
  have HB := hq1; have f' := hF.cs5; have z' := hZ.cs5
  go_wp2_with fail
  refine (l8Good_is tu se sp A2 ws c2 A3 c3 sh h2 h3 k2 _ HV.out _ (HR2.out.below (bth HB bel)) (HR3.out.below (bth HB bel))).mono ?_
  rintro e w2 ⟨rfl, hb2⟩
  have hq2 := be wX hb2; replace HB := bth HB hq2; clear f'; replace hZ := hZ.to hq2; clear z'; have z' := hZ.cs5; have fhZ' := hZ.fz5
  go_wp2
  clear z'
  refine st5 0 fun W9 tW9 => ?_
  replace HB := tW9.hc HB; replace hZ := tW9.all5 hZ; have z' := hZ.cs5
  exact brt ⟨rfl, HB⟩ (by simp [results, Tryz.results158, go_sem, z'])
 ·cases hs : (sp == 0)
  case true =>
   have HV := lh hf; clear hf hv
   go_in
   go_upto_region 1 with fail
   refine lay2 fun wX hq1 hF hZ => ?_
   have HB := hq1; have f' := hF.cs5; have z' := hZ.cs5
   go_wp2_with fail
   refine (l8Good_is tu se sp A2 ws c2 A3 c3 sh h2 h3 k2 _ HV.out _ (HR2.out.below (bth HB bel)) (HR3.out.below (bth HB bel))).mono ?_
   rintro e w2 ⟨rfl, hb2⟩
   have hq2 := be wX hb2; replace HB := bth HB hq2; replace hF := hF.to hq2; clear f'; have f' := hF.cs5; replace hZ := hZ.to hq2; clear z'; have z' := hZ.cs5
   exact zb95
  case false =>
   have hi : inB n 1 3600 = false := by simpa [spB, Fl.ok, hf, hs] using hv
   have HV := lh hf; have HI := lh hi; clear hf hv hi
   go_in
   go_upto_region 1 with fail
   refine lay2 fun wX hq1 hF hZ => ?_
   have HB := hq1; have f' := hF.cs5; have z' := hZ.cs5
   go_wp2_with fail
   refine (l8Good_is tu se sp A2 ws c2 A3 c3 sh h2 h3 k2 _ HV.out _ (HR2.out.below (bth HB bel)) (HR3.out.below (bth HB bel))).mono ?_
   rintro e w2 ⟨rfl, hb2⟩
   have hq2 := be wX hb2; replace HB := bth HB hq2; replace hF := hF.to hq2; clear f'; have f' := hF.cs5; replace hZ := hZ.to hq2; clear z'; have z' := hZ.cs5
   go_wp2_with fail
   refine (l1In_is n 1 3600 _ HI.out _).mono ?_
   rintro e w0 ⟨rfl, h0⟩
   rw [h0]
   clear h0 w0
   exact zb95
theorem sSpeakT_is (tu se sp : Int) (A2 : Option Addr) (c2 : Nat) (ws : List Int) (A3 : Option Addr) (c3 : Nat) (sh : List Sha) (h2 : ws.length ≤ 1048576) (h3 : sh.length ≤ 1048576) (n2 : A2 = none → ws = [] ∧ c2 = 0) (n3 : A3 = none → sh = [] ∧ c3 = 0) (k2 : ws.length ≤ c2) (k3 : sh.length ≤ c3) (n : Int) (hv : spB ⟨tu, se, sp, ws, sh⟩ n = true) (w : World) (R2 : Rds 1 intC w A2 ws) (R3 : Rds 3 Sha.cells w A3 sh) :
 Calls Tryz.prog 158 #[.agg #[.int .i64 tu, .int .i64 se, .int .i64 sp, .slice A2 ws.length c2, .slice A3 sh.length c3], .int .i64 n] w fun e w' => ∃ D2 d2 D3 d3, e = .returned (.tuple #[.agg #[.int .i64 tu, .int .i64 se, .int .i64 (spF ⟨tu, se, sp, ws, sh⟩ n).sp, .slice D2 ws.length d2, .slice D3 (spF ⟨tu, se, sp, ws, sh⟩ n).sh.length d3], .int .i64 (spU ⟨tu, se, sp, ws, sh⟩ n), .bool true]) ∧ FlO w.heap.size w' D2 d2 D3 d3 ws (spF ⟨tu, se, sp, ws, sh⟩ n).sh ∧ Below w.heap.size w w' := by
 have HR2 := lh R2; have HR3 := lh R3; have HN2 := lh n2; have HN3 := lh n3; have HK3 := lh k3; clear R2 R3 n2 n3 k3
 obtain ⟨hok, hs0, hn1, hn2⟩ := spB_parts hv
 have hs : (sp == 0) = false := beq_eq_false_iff_ne.2 hs0; have hlen := flo_len hok
 obtain ⟨hp1, hp2, hp3⟩ := ok_share hok hs0
 have htu := (fl_ok.1 hok).t; have hse := (fl_ok.1 hok).s
 obtain ⟨hq1, hq2, hq3⟩ := shaOk_iff.1 hp2
 have hmem := shareF_mem (xs := sh) (m := sp); have hord := (fl_ok.1 hok).ord
 obtain ⟨⟨s0m, st, ss⟩, hsh⟩ : ∃ x, shareF sh sp = x := ⟨_, rfl⟩
 simp only at hp3 hq2 hq3 hord
 rw [hsh] at hp3 hq2 hq3 hmem
 simp only at hp3 hq2 hq3 hmem htu hse
 have hshm := hsh
 subst hmem
 obtain ⟨u, hu⟩ : ∃ u, u = (if n < se - ss then n else se - ss) := ⟨_, rfl⟩
 have eu : spU ⟨tu, se, s0m, ws, sh⟩ n = u := by simp [spU, hsh, hu]
 have hu1 : 0 ≤ u ∧ u ≤ se - ss := by rw [hu]; split <;> omega
 have eS : spS ⟨tu, se, s0m, ws, sh⟩ n = ⟨s0m, st, ss + u⟩ := by simp [spS, hsh, eu]
 rw [eu]
 have HV : Hid (floB tu se s0m ws sh = true) := lh hok; have HI : Hid (inB n 1 3600 = true) := lh (inB_iff.2 ⟨hn1, hn2⟩); have HSH := lh hsh; have ES := lh eS; have HU := lh hu
 have hshl : sh.length ≤ 1048574 := by simp only at hlen; omega
 have hset : (setSh sh ⟨s0m, st, ss + u⟩).length ≤ 1048575 := by have := setSh_len sh ⟨s0m, st, ss + u⟩; omega
 have hsf : shareF (setSh sh ⟨s0m, st, ss + u⟩) s0m = ⟨s0m, st, ss + u⟩ := by rw [setSh_share s0m hord, if_pos rfl]
 have HSF := lh hsf; have HSET := lh hset; clear hok hv hp1 hp2 hq1 hsh hlen hshm hord eS hsf hset hs0 hu eu hn1 hn2
 go_in
 go_upto_region 1 with fail
 refine lay2 fun wX hq1 hF hZ => ?_
 have HB := hq1; have f' := hF.cs5; have z' := hZ.cs5; have hz0' := hZ.lt
 go_wp2_with fail
 refine (l8Good_is tu se s0m A2 ws c2 A3 c3 sh h2 h3 k2 _ HV.out _ (HR2.out.below (bth HB bel)) (HR3.out.below (bth HB bel))).mono ?_
 rintro e w2 ⟨rfl, hb2⟩
 have hq2 := be wX hb2; replace HB := bth HB hq2; replace hF := hF.to hq2; clear f'; have f' := hF.cs5; replace hZ := hZ.to hq2; clear z'; have z' := hZ.cs5
 go_wp2_with fail
 refine (l1In_is n 1 3600 _ HI.out _).mono ?_
 rintro e w0 ⟨rfl, h0⟩
 rw [h0]
 clear h0 w0
 go_wp2_with fail
 refine (l8Share_is tu se s0m A2 ws.length c2 A3 c3 sh h3 s0m ⟨s0m, st, ss⟩ HSH.out _ (HR3.out.below (bth HB bel))).mono ?_
 rintro e w3 ⟨rfl, hb3⟩
 have hq3 := be w2 hb3; replace HB := bth HB hq3; replace hF := hF.to hq3; clear f'; have f' := hF.cs5; replace hZ := hZ.to hq3; clear z'; have z' := hZ.cs5; have szq2 := hq2.size; have szq3 := hq3.size
 have hw1 : IntKind.i64.wrap (se - ss) = se - ss := by rw [IntKind.wrap_i64]; omega
 have hw2 : IntKind.i64.wrap (ss + u) = ss + u := by rw [IntKind.wrap_i64]; omega
 have szb := HB.size
 go_upto_region 4 with fail
 refine lay1 fun wS hq4 hS => ?_
 replace HB := bth HB hq4; have s' := hS.cs3; clear f'; replace hF := hF.to hq4; have f' := hF.cs5; clear z'; replace hZ := hZ.to hq4; have z' := hZ.cs5
 go_wp2_with fail
 refine (l1Least_is n (se - ss) u HU.out _).mono ?_
 rintro e w0 ⟨rfl, h0⟩
 rw [h0]
 have fhS2 := hS.frozen 2
 go_upto_region 6 with fail
 clear f' z' s'
 refine st1 2 fun W2 tW2 => ?_
 replace HB := tW2.hc HB; replace hF := tW2.fa hF; replace hZ := tW2.fa hZ; replace hS : Blk W2 (w3.heap.size) 144 #[.int .i64 s0m, .int .i64 st, .int .i64 (ss + u)] := tW2.own hS; have f' := hF.cs5; have z' := hZ.cs5; have s' := hS.cs3; clear fhS2; have hs0' := hS.lt
 go_wp2_with fail
 refine (l8With_is tu se s0m A2 c2 ws A3 c3 sh h2 h3 HN2.out HN3.out HK3.out s0m st (ss + u) _ (HR2.out.below (bth HB bel)) (HR3.out.below (bth HB bel))).mono ?_
 rintro e w5 ⟨D2, d2, D3, d3, rfl, OO, hb5⟩
 have hq5 := be W2 hb5; replace HB := bth HB hq5; replace hF := hF.to hq5; clear f'; have f' := hF.cs5; replace hZ := hZ.to hq5; clear z'; have z' := hZ.cs5; replace hS := hS.to hq5; clear s'; have s' := hS.cs3; have szh := HB.size; have szq5 := hq5.size
 go_upto_region 7 with fail
 have hO4 := OO.later (bl1 w5 (.cells #[.int .i64 tu, .int .i64 se, .int .i64 s0m, .slice D2 ws.length d2, .slice D3 (setSh sh ⟨s0m, st, ss + u⟩).length d3] 29)); clear OO; have hq6 : Below w5.heap.size w5 (World.alloc w5 (.cells #[.int .i64 tu, .int .i64 se, .int .i64 s0m, .slice D2 ws.length d2, .slice D3 (setSh sh ⟨s0m, st, ss + u⟩).length d3] 29)) := bl1 w5 _
 have hX : Blk (World.alloc w5 (.cells #[.int .i64 tu, .int .i64 se, .int .i64 s0m, .slice D2 ws.length d2, .slice D3 (setSh sh ⟨s0m, st, ss + u⟩).length d3] 29)) (w5.heap.size) 29 #[.int .i64 tu, .int .i64 se, .int .i64 s0m, .slice D2 ws.length d2, .slice D3 (setSh sh ⟨s0m, st, ss + u⟩).length d3] := by repeat (first | exact Blk.new _ _ _ | exact Blk.new2 _ _ _ _ | exact Blk.new3 _ _ _ _ _ | exact Blk.new4 _ _ _ _ _ _ | refine Blk.alloc ?_ _)
 generalize World.alloc w5 (.cells #[.int .i64 tu, .int .i64 se, .int .i64 s0m, .slice D2 ws.length d2, .slice D3 (setSh sh ⟨s0m, st, ss + u⟩).length d3] 29) = wY at *
 replace HB := bth HB hq6; have x' := hX.cs5; clear f'; replace hF := hF.to hq6; have f' := hF.cs5; clear z'; replace hZ := hZ.to hq6; have z' := hZ.cs5; clear s'; replace hS := hS.to hq6; have s' := hS.cs3; have hx0 := hX.lt; have O2 := hO4.o2; have O3 := hO4.o3; clear hO4
 by_cases hfull : ss + u = se
 ·have hfb : (ss + u == se) = true := beq_iff_eq.2 hfull
  have e1 : (spF ⟨tu, se, s0m, ws, sh⟩ n).sp = 0 ∧ (spF ⟨tu, se, s0m, ws, sh⟩ n).sh = setSh (setSh sh ⟨s0m, st, ss + u⟩) ⟨s0m, st + 1, ss + u⟩ := by
   exact zb40
  have HE1 := lh e1; clear e1 hfull
  go_upto_region 8 with fail
  have HO2 := lh O2; have HO3 := lh O3
  go_wp2_with fail
  refine (l8Yield_is tu se s0m D2 d2 ws D3 d3 (setSh sh ⟨s0m, st, ss + u⟩) h2 (by have := HSET.out; omega) HO2.out.nilOk HO3.out.nilOk (own_cap HO2.out intC_len) (own_cap HO3.out sha_len) st (ss + u) HSF.out (by omega) (by omega) _ (HO2.out.rds intC_len) (HO3.out.rds sha_len)).mono ?_
  rintro e w7 ⟨E2, e2, E3, e3, rfl, OO, hb7⟩
  have hq7 := be wY hb7; replace HB := bth HB hq7; clear f'; replace hZ := hZ.to hq7; clear z'; have z' := hZ.cs5; clear s'; replace hX := hX.to hq7; clear x'; have x' := hX.cs5; have P2 := OO.o2; have P3 := OO.o3; have fhX' := hX.fz5; have neP2 := P2.nb hX; have neP3 := P3.nb hX
  go_upto_region 9 with fail
  clear z' x'
  refine st5 0 fun W8 tW8 => ?_
  replace HB := tW8.hc HB; replace hZ := tW8.fa hZ; replace hX := tW8.all5 hX; replace P2 := P2.keptS tW8 neP2; replace P3 := P3.keptS tW8 neP3; have z' := hZ.cs5; have x' := hX.cs5; clear neP2 neP3 fhX'; have fhZ' := hZ.fz5; have neP2 := P2.nb hZ; have neP3 := P3.nb hZ
  go_wp2
  clear z' x'
  refine st5 0 fun W9 tW9 => ?_
  replace HB := tW9.hc HB; replace hZ := tW9.all5 hZ; replace P2 := P2.keptS tW9 neP2; replace P3 := P3.keptS tW9 neP3; have z' := hZ.cs5
  refine bodyPost_ret (v := .tuple #[.agg #[.int .i64 tu, .int .i64 se, .int .i64 0, .slice E2 ws.length e2, .slice E3 (setSh (setSh sh ⟨s0m, st, ss + u⟩) ⟨s0m, st + 1, ss + u⟩).length e3], .int .i64 u, .bool true]) (by simp [results, Tryz.results158, go_sem, z']) rfl ?_
  rw [HE1.out.1, HE1.out.2]
  exact ⟨E2, e2, E3, e3, rfl, ⟨P2.base (by omega), P3.base (by omega), P2.apart P3 (by decide)⟩, HB⟩
 ·have hfb : (ss + u == se) = false := beq_eq_false_iff_ne.2 hfull
  have e1 : (spF ⟨tu, se, s0m, ws, sh⟩ n).sp = s0m ∧ (spF ⟨tu, se, s0m, ws, sh⟩ n).sh = setSh sh ⟨s0m, st, ss + u⟩ := by
   exact zb104
  have HE1 := lh e1; clear e1 hfull; have fhZ' := hZ.fz5; have neO2 := O2.nb hZ; have neO3 := O3.nb hZ
  go_wp2
  clear f' z' s' x'
  refine st5 0 fun W9 tW9 => ?_
  replace HB := tW9.hc HB; replace hZ := tW9.all5 hZ; replace O2 := O2.keptS tW9 neO2; replace O3 := O3.keptS tW9 neO3; have z' := hZ.cs5
  refine bodyPost_ret (v := .tuple #[.agg #[.int .i64 tu, .int .i64 se, .int .i64 s0m, .slice D2 ws.length d2, .slice D3 (setSh sh ⟨s0m, st, ss + u⟩).length d3], .int .i64 u, .bool true]) (by simp [results, Tryz.results158, go_sem, z']) rfl ?_
  rw [HE1.out.1, HE1.out.2]
  exact zb142
open Go.RowKit Go.G9
theorem withPending_is (A0 A1 A2 A3 A4 : Option Addr) (c0 c1 c2 c3 c4 : Nat) (rs : List Rul) (qs : List Que) (tu se sp : Int) (ws : List Int) (sh : List Sha) (os : List Out) (Z : MeeIn A0 A1 A2 A3 A4 c0 c1 c2 c3 c4 rs qs ws sh os) (LA : Option Addr) (LN LC : Nat) (w : World) (R : MeR w A0 A1 A2 A3 A4 rs qs ws sh os) :
 Calls Tryz.prog 167 #[.agg #[.slice A0 rs.length c0, .slice A1 qs.length c1, .int .i64 tu, .int .i64 se, .int .i64 sp, .slice A2 ws.length c2, .slice A3 sh.length c3, .slice A4 os.length c4], .slice LA LN LC] w fun e w' => ∃ D0 d0 D4 d4, e = .returned (.agg #[.slice D0 rs.length d0, .slice LA LN LC, .int .i64 tu, .int .i64 se, .int .i64 0, .slice none 0 0, .slice none 0 0, .slice D4 os.length d4]) ∧ OwnV w.heap.size 48 7 Rul.cells w' (.slice D0 rs.length d0) rs ∧ OwnV w.heap.size 44 3 Out.cells w' (.slice D4 os.length d4) os ∧ Below w.heap.size w w' := by
 have HR := lh R; have HZ := lh Z; clear R Z
 go_in
 go_upto_region 1 with fail
 refine lay2 fun wX hq1 hF hZ => ?_
 have HB := hq1; have f' := hF.cs8; have z' := hZ.cs8; have hz0' := hZ.lt
 go_wp2_with fail
 refine (newMee_is A0 A1 A2 A3 A4 c0 c1 c2 c3 c4 rs qs tu se sp ws sh os HZ.out _ (HR.out.below (bth HB bel))).mono ?_
 rintro e w2 ⟨D0, d0, D1, d1, D2, d2, D3, d3, D4, d4, rfl, OO, hb2⟩
 have hq2 := be wX hb2; replace HB := bth HB hq2; replace hF := hF.to hq2; clear f'; have f' := hF.cs8; replace hZ := hZ.to hq2; clear z'; have z' := hZ.cs8; have szq := hq2.size; have szh := HB.size
 go_upto_region 2 with fail
 have O4' := OO.later (bl1 w2 (.cells #[.slice D0 rs.length d0, .slice D1 qs.length d1, .int .i64 tu, .int .i64 se, .int .i64 sp, .slice D2 ws.length d2, .slice D3 sh.length d3, .slice D4 os.length d4] 32)); clear OO; have hq3 : Below w2.heap.size w2 (World.alloc w2 (.cells #[.slice D0 rs.length d0, .slice D1 qs.length d1, .int .i64 tu, .int .i64 se, .int .i64 sp, .slice D2 ws.length d2, .slice D3 sh.length d3, .slice D4 os.length d4] 32)) := bl1 w2 _
 have hX : Blk (World.alloc w2 (.cells #[.slice D0 rs.length d0, .slice D1 qs.length d1, .int .i64 tu, .int .i64 se, .int .i64 sp, .slice D2 ws.length d2, .slice D3 sh.length d3, .slice D4 os.length d4] 32)) (w2.heap.size) 32 #[.slice D0 rs.length d0, .slice D1 qs.length d1, .int .i64 tu, .int .i64 se, .int .i64 sp, .slice D2 ws.length d2, .slice D3 sh.length d3, .slice D4 os.length d4] := by repeat (first | exact Blk.new _ _ _ | exact Blk.new2 _ _ _ _ | exact Blk.new3 _ _ _ _ _ | exact Blk.new4 _ _ _ _ _ _ | refine Blk.alloc ?_ _)
 generalize World.alloc w2 (.cells #[.slice D0 rs.length d0, .slice D1 qs.length d1, .int .i64 tu, .int .i64 se, .int .i64 sp, .slice D2 ws.length d2, .slice D3 sh.length d3, .slice D4 os.length d4] 32) = w4 at *
 replace HB := bth HB hq3; have x' := hX.cs8; clear f'; replace hF := hF.to hq3; have f' := hF.cs8; clear z'; replace hZ := hZ.to hq3; have z' := hZ.cs8; have O0 := O4'.o0; have O4 := O4'.o4; clear O4'; have fhX1 := hX.frozen 1
 go_upto_region 3 with fail
 have neO0 := O0.nb hX; have neO4 := O4.nb hX; clear f' z' x'
 refine st1 1 fun W5 tW5 => ?_
 replace HB := tW5.hc HB; replace hF := tW5.fa hF; replace hZ := tW5.fa hZ; replace hX : Blk W5 (w2.heap.size) 32 #[.slice D0 rs.length d0, .slice LA LN LC, .int .i64 tu, .int .i64 se, .int .i64 sp, .slice D2 ws.length d2, .slice D3 sh.length d3, .slice D4 os.length d4] := tW5.own hX; replace O0 := O0.keptS tW5 neO0; replace O4 := O4.keptS tW5 neO4; have f' := hF.cs8; have z' := hZ.cs8; have x' := hX.cs8
 clear fhX1; have fhX2 := hX.frozen 2; have fhX3 := hX.frozen 3; have fhX4 := hX.frozen 4; have fhX5 := hX.frozen 5; have fhX6 := hX.frozen 6
 go_upto_region 4 with fail
 clear f' z' x'
 refine st5 2 fun W6 tW6 => ?_
 replace HB := tW6.hc HB; replace hZ := tW6.fa hZ; replace hX : Blk W6 (w2.heap.size) 32 #[.slice D0 rs.length d0, .slice LA LN LC, .int .i64 tu, .int .i64 se, .int .i64 0, .slice none 0 0, .slice none 0 0, .slice D4 os.length d4] := tW6.own hX; replace O0 := O0.keptS tW6 (fun k hk => by first | exact neO0 k hk | (have := O0.lt k hk; omega)); replace O4 := O4.keptS tW6 (fun k hk => by first | exact neO4 k hk | (have := O4.lt k hk; omega))
 have z' := hZ.cs8; have x' := hX.cs8; clear fhX2 fhX3 fhX4 fhX5 fhX6 neO0 neO4; have fhZ' := hZ.fz8; have neO0 := O0.nb hZ; have neO4 := O4.nb hZ
 go_wp2
 clear z' x'
 refine st8 0 fun W9 tW9 => ?_
 replace HB := tW9.hc HB; replace hZ := tW9.all8 hZ; replace O0 := O0.keptS tW9 neO0; replace O4 := O4.keptS tW9 neO4; have z' := hZ.cs8
 exact brt ⟨D0, d0, D4, d4, rfl, O0.base (by omega), O4.base (by omega), HB⟩ (by simp [results, Tryz.results167, go_sem, z'])
theorem l25Pending_is (A0 A1 A2 A3 A4 : Option Addr) (c0 c1 c2 c3 c4 : Nat) (rs : List Rul) (qs : List Que) (tu se sp : Int) (ws : List Int) (sh : List Sha) (os : List Out) (Z : MeeIn A0 A1 A2 A3 A4 c0 c1 c2 c3 c4 rs qs ws sh os) (LA : Option Addr) (LN LC : Nat) (w : World) (R : MeR w A0 A1 A2 A3 A4 rs qs ws sh os) :
 Calls Tryz.prog 116 #[.agg #[.slice A0 rs.length c0, .slice A1 qs.length c1, .int .i64 tu, .int .i64 se, .int .i64 sp, .slice A2 ws.length c2, .slice A3 sh.length c3, .slice A4 os.length c4], .slice LA LN LC] w fun e w' => ∃ D0 d0 D4 d4, e = .returned (.agg #[.slice D0 rs.length d0, .slice LA LN LC, .int .i64 tu, .int .i64 se, .int .i64 0, .slice none 0 0, .slice none 0 0, .slice D4 os.length d4]) ∧ OwnV w.heap.size 48 7 Rul.cells w' (.slice D0 rs.length d0) rs ∧ OwnV w.heap.size 44 3 Out.cells w' (.slice D4 os.length d4) os ∧ Below w.heap.size w w' := by
 have HR := lh R; have HZ := lh Z; clear R Z
 go_in
 go_upto_region 1 with fail
 refine lay2 fun wX hq1 hF hZ => ?_
 have HB := hq1; have f' := hF.cs8; have z' := hZ.cs8; have hz0' := hZ.lt
 go_wp2_with fail
 refine (l25Own_is A0 A1 A2 A3 A4 c0 c1 c2 c3 c4 rs qs tu se sp ws sh os HZ.out _ (HR.out.below (bth HB bel))).mono ?_
 rintro e w2 ⟨D0, d0, D1, d1, D2, d2, D3, d3, D4, d4, rfl, OO, hb2⟩
 have hq2 := be wX hb2; replace HB := bth HB hq2; replace hF := hF.to hq2; clear f'; have f' := hF.cs8; replace hZ := hZ.to hq2; clear z'; have z' := hZ.cs8; have szq := hq2.size; have szh := HB.size
 go_upto_region 2 with fail
 have O4' := OO.later (bl1 w2 (.cells #[.slice D0 rs.length d0, .slice D1 qs.length d1, .int .i64 tu, .int .i64 se, .int .i64 sp, .slice D2 ws.length d2, .slice D3 sh.length d3, .slice D4 os.length d4] 32)); clear OO; have hq3 : Below w2.heap.size w2 (World.alloc w2 (.cells #[.slice D0 rs.length d0, .slice D1 qs.length d1, .int .i64 tu, .int .i64 se, .int .i64 sp, .slice D2 ws.length d2, .slice D3 sh.length d3, .slice D4 os.length d4] 32)) := bl1 w2 _
 have hX : Blk (World.alloc w2 (.cells #[.slice D0 rs.length d0, .slice D1 qs.length d1, .int .i64 tu, .int .i64 se, .int .i64 sp, .slice D2 ws.length d2, .slice D3 sh.length d3, .slice D4 os.length d4] 32)) (w2.heap.size) 32 #[.slice D0 rs.length d0, .slice D1 qs.length d1, .int .i64 tu, .int .i64 se, .int .i64 sp, .slice D2 ws.length d2, .slice D3 sh.length d3, .slice D4 os.length d4] := by repeat (first | exact Blk.new _ _ _ | exact Blk.new2 _ _ _ _ | exact Blk.new3 _ _ _ _ _ | exact Blk.new4 _ _ _ _ _ _ | refine Blk.alloc ?_ _)
 generalize World.alloc w2 (.cells #[.slice D0 rs.length d0, .slice D1 qs.length d1, .int .i64 tu, .int .i64 se, .int .i64 sp, .slice D2 ws.length d2, .slice D3 sh.length d3, .slice D4 os.length d4] 32) = w4 at *
 replace HB := bth HB hq3; have x' := hX.cs8; clear f'; replace hF := hF.to hq3; have f' := hF.cs8; clear z'; replace hZ := hZ.to hq3; have z' := hZ.cs8; have O0 := O4'.o0; have O4 := O4'.o4; clear O4'; have fhX1 := hX.frozen 1
 go_upto_region 3 with fail
 have neO0 := O0.nb hX; have neO4 := O4.nb hX; clear f' z' x'
 refine st1 1 fun W5 tW5 => ?_
 replace HB := tW5.hc HB; replace hF := tW5.fa hF; replace hZ := tW5.fa hZ; replace hX : Blk W5 (w2.heap.size) 32 #[.slice D0 rs.length d0, .slice LA LN LC, .int .i64 tu, .int .i64 se, .int .i64 sp, .slice D2 ws.length d2, .slice D3 sh.length d3, .slice D4 os.length d4] := tW5.own hX; replace O0 := O0.keptS tW5 neO0; replace O4 := O4.keptS tW5 neO4; have f' := hF.cs8; have z' := hZ.cs8; have x' := hX.cs8
 clear fhX1; have fhX2 := hX.frozen 2; have fhX3 := hX.frozen 3; have fhX4 := hX.frozen 4; have fhX5 := hX.frozen 5; have fhX6 := hX.frozen 6
 go_upto_region 4 with fail
 clear f' z' x'
 refine st5 2 fun W6 tW6 => ?_
 replace HB := tW6.hc HB; replace hZ := tW6.fa hZ; replace hX : Blk W6 (w2.heap.size) 32 #[.slice D0 rs.length d0, .slice LA LN LC, .int .i64 tu, .int .i64 se, .int .i64 0, .slice none 0 0, .slice none 0 0, .slice D4 os.length d4] := tW6.own hX; replace O0 := O0.keptS tW6 (fun k hk => by first | exact neO0 k hk | (have := O0.lt k hk; omega)); replace O4 := O4.keptS tW6 (fun k hk => by first | exact neO4 k hk | (have := O4.lt k hk; omega))
 have z' := hZ.cs8; have x' := hX.cs8; clear fhX2 fhX3 fhX4 fhX5 fhX6 neO0 neO4; have fhZ' := hZ.fz8; have neO0 := O0.nb hZ; have neO4 := O4.nb hZ
 go_wp2
 clear z' x'
 refine st8 0 fun W9 tW9 => ?_
 replace HB := tW9.hc HB; replace hZ := tW9.all8 hZ; replace O0 := O0.keptS tW9 neO0; replace O4 := O4.keptS tW9 neO4; have z' := hZ.cs8
 exact brt ⟨D0, d0, D4, d4, rfl, O0.base (by omega), O4.base (by omega), HB⟩ (by simp [results, Tryz.results116, go_sem, z'])
open Go.RowKit Go.G9
theorem sAct3_is (tu se sp : Int) (A2 : Option Addr) (c2 : Nat) (ws : List Int) (A3 : Option Addr) (c3 : Nat) (sh : List Sha) (h2 : ws.length ≤ 1048576) (h3 : sh.length ≤ 1048576) (n2 : A2 = none → ws = [] ∧ c2 = 0) (n3 : A3 = none → sh = [] ∧ c3 = 0) (k2 : ws.length ≤ c2) (k3 : sh.length ≤ c3) (mem : Int) (p' : Int) (ws' : List Int) (sh' : List Sha) (hv : akB ⟨tu, se, sp, ws, sh⟩ mem = true) (he : akF ⟨tu, se, sp, ws, sh⟩ mem = ⟨tu, se, p', ws', sh'⟩) (w : World) (R2 : Rds 1 intC w A2 ws) (R3 : Rds 3 Sha.cells w A3 sh) :
 Calls Tryz.prog 156 #[.agg #[.int .i64 tu, .int .i64 se, .int .i64 sp, .slice A2 ws.length c2, .slice A3 sh.length c3], .int .i64 mem] w fun e w' => ∃ D2 d2 D3 d3, e = .returned (.tuple #[.agg #[.int .i64 tu, .int .i64 se, .int .i64 p', .slice D2 ws'.length d2, .slice D3 sh'.length d3], .bool true]) ∧ FlO w.heap.size w' D2 d2 D3 d3 ws' sh' ∧ Below w.heap.size w w' := by
 have e1 := congrArg Fl.sp he; have e3 := congrArg Fl.sh he; have e2 := congrArg Fl.ws he
 simp only [akF, nxF] at e1 e2 e3
 subst e1; subst e3; subst e2
 exact sAskT_is tu se sp A2 c2 ws A3 c3 sh h2 h3 n2 n3 k2 k3 mem hv w R2 R3
theorem sAct4_is (tu se sp : Int) (A2 : Option Addr) (c2 : Nat) (ws : List Int) (A3 : Option Addr) (c3 : Nat) (sh : List Sha) (h2 : ws.length ≤ 1048576) (h3 : sh.length ≤ 1048576) (n2 : A2 = none → ws = [] ∧ c2 = 0) (n3 : A3 = none → sh = [] ∧ c3 = 0) (k2 : ws.length ≤ c2) (k3 : sh.length ≤ c3) (q : Int) (hq : nxM ⟨tu, se, sp, ws, sh⟩ = some q) (p' : Int) (ws' : List Int) (sh' : List Sha) (hv : nxB ⟨tu, se, sp, ws, sh⟩ = true) (he : nxF ⟨tu, se, sp, ws, sh⟩ q = ⟨tu, se, p', ws', sh'⟩) (w : World) (R2 : Rds 1 intC w A2 ws) (R3 : Rds 3 Sha.cells w A3 sh) :
 Calls Tryz.prog 157 #[.agg #[.int .i64 tu, .int .i64 se, .int .i64 sp, .slice A2 ws.length c2, .slice A3 sh.length c3]] w fun e w' => ∃ D2 d2 D3 d3, e = .returned (.tuple #[.agg #[.int .i64 tu, .int .i64 se, .int .i64 p', .slice D2 ws'.length d2, .slice D3 sh'.length d3], .int .i64 q, .bool true]) ∧ FlO w.heap.size w' D2 d2 D3 d3 ws' sh' ∧ Below w.heap.size w w' := by
 have e1 := congrArg Fl.sp he; have e3 := congrArg Fl.sh he; have e2 := congrArg Fl.ws he
 simp only [akF, nxF] at e1 e2 e3
 subst e1; subst e3; subst e2
 exact sNextT_is tu se sp A2 c2 ws A3 c3 sh h2 h3 n2 n3 k2 k3 hv q hq w R2 R3
theorem zb143 {p : Prop} (h : p := by
 have e4 : (spF ⟨tu, se, sp, ws, sh⟩ val).ws = ws' := by rw [he]
 rw [← e4]; unfold spF; split <;> rfl) : p := h
theorem sAct5_is (tu se sp : Int) (A2 : Option Addr) (c2 : Nat) (ws : List Int) (A3 : Option Addr) (c3 : Nat) (sh : List Sha) (h2 : ws.length ≤ 1048576) (h3 : sh.length ≤ 1048576) (n2 : A2 = none → ws = [] ∧ c2 = 0) (n3 : A3 = none → sh = [] ∧ c3 = 0) (k2 : ws.length ≤ c2) (k3 : sh.length ≤ c3) (val : Int) (p' : Int) (ws' : List Int) (sh' : List Sha) (hv : spB ⟨tu, se, sp, ws, sh⟩ val = true) (he : spF ⟨tu, se, sp, ws, sh⟩ val = ⟨tu, se, p', ws', sh'⟩) (w : World) (R2 : Rds 1 intC w A2 ws) (R3 : Rds 3 Sha.cells w A3 sh) :
 Calls Tryz.prog 158 #[.agg #[.int .i64 tu, .int .i64 se, .int .i64 sp, .slice A2 ws.length c2, .slice A3 sh.length c3], .int .i64 val] w fun e w' => ∃ D2 d2 D3 d3, e = .returned (.tuple #[.agg #[.int .i64 tu, .int .i64 se, .int .i64 p', .slice D2 ws'.length d2, .slice D3 sh'.length d3], .int .i64 (spU ⟨tu, se, sp, ws, sh⟩ val), .bool true]) ∧ FlO w.heap.size w' D2 d2 D3 d3 ws' sh' ∧ Below w.heap.size w w' := by
 have e1 : (spF ⟨tu, se, sp, ws, sh⟩ val).sp = p' := by rw [he]
 have e3 : (spF ⟨tu, se, sp, ws, sh⟩ val).sh = sh' := by rw [he]
 have e2 : ws = ws' := by
  exact zb143
 subst e1; subst e3; subst e2
 exact sSpeakT_is tu se sp A2 c2 ws A3 c3 sh h2 h3 n2 n3 k2 k3 val hv w R2 R3
theorem sAct6_is (tu se sp : Int) (A2 : Option Addr) (c2 : Nat) (ws : List Int) (A3 : Option Addr) (c3 : Nat) (sh : List Sha) (h2 : ws.length ≤ 1048576) (h3 : sh.length ≤ 1048576) (n2 : A2 = none → ws = [] ∧ c2 = 0) (n3 : A3 = none → sh = [] ∧ c3 = 0) (k2 : ws.length ≤ c2) (k3 : sh.length ≤ c3) (p' : Int) (ws' : List Int) (sh' : List Sha) (hv : yldB ⟨tu, se, sp, ws, sh⟩ = true) (he : yldF ⟨tu, se, sp, ws, sh⟩ = ⟨tu, se, p', ws', sh'⟩) (w : World) (R2 : Rds 1 intC w A2 ws) (R3 : Rds 3 Sha.cells w A3 sh) :
 Calls Tryz.prog 159 #[.agg #[.int .i64 tu, .int .i64 se, .int .i64 sp, .slice A2 ws.length c2, .slice A3 sh.length c3]] w fun e w' => ∃ D2 d2 D3 d3, e = .returned (.tuple #[.agg #[.int .i64 tu, .int .i64 se, .int .i64 p', .slice D2 ws'.length d2, .slice D3 sh'.length d3], .bool true]) ∧ FlO w.heap.size w' D2 d2 D3 d3 ws' sh' ∧ Below w.heap.size w w' := by
 have e1 : (0 : Int) = p' := congrArg Fl.sp he
 have e3 : (yldF ⟨tu, se, sp, ws, sh⟩).sh = sh' := by rw [he]
 have e2 : ws = ws' := congrArg Fl.ws he
 subst e1; subst e3; subst e2
 exact sYieldT_is tu se sp A2 c2 ws A3 c3 sh h2 h3 n2 n3 k2 k3 hv w R2 R3
theorem sFlo3T_is (A0 A1 A2 A3 A4 : Option Addr) (c0 c1 c2 c3 c4 : Nat) (rs : List Rul) (qs : List Que) (tu se sp : Int) (ws : List Int) (sh : List Sha) (os : List Out) (Z : MeeIn A0 A1 A2 A3 A4 c0 c1 c2 c3 c4 rs qs ws sh os) (mem val yes no abst : Int) (p' : Int) (ws' : List Int) (sh' : List Sha) (hv : akB ⟨tu, se, sp, ws, sh⟩ mem = true) (he : akF ⟨tu, se, sp, ws, sh⟩ mem = ⟨tu, se, p', ws', sh'⟩) (hp : pendB rs qs = true) (hd : debB rs qs = true) (w : World) (R : MeR w A0 A1 A2 A3 A4 rs qs ws sh os) :
 Calls Tryz.prog 115 #[.agg #[.slice A0 rs.length c0, .slice A1 qs.length c1, .int .i64 tu, .int .i64 se, .int .i64 sp, .slice A2 ws.length c2, .slice A3 sh.length c3, .slice A4 os.length c4], .agg #[.int .i64 3, .int .i64 mem, .int .i64 val, .int .i64 yes, .int .i64 no, .int .i64 abst]] w fun e w' => ∃ E0 e0 E1 e1 D2 d2 D3 d3 E4 e4, e = .returned (.tuple #[.agg #[.slice E0 rs.length e0, .slice E1 qs.length e1, .int .i64 tu, .int .i64 se, .int .i64 p', .slice D2 ws'.length d2, .slice D3 sh'.length d3, .slice E4 os.length e4], .bool true]) ∧ MeO w.heap.size w' E0 e0 E1 e1 D2 d2 D3 d3 E4 e4 rs qs ws' sh' os ∧ Below w.heap.size w w' := by
 have HR := lh R; have HZ := lh Z; have HP := lh hp; have HD := lh hd; have HV := lh hv; have HE := lh he; clear R Z hp hd hv he
 go_in
 go_upto_region 1 with fail
 refine lay3 fun wX hq1 hF hA hZ => ?_
 have HB := hq1; have f' := hF.cs8; have a' := hA.cs6; have z' := hZ.cs8; have hz0' := hZ.lt
 go_upto_region 2 with fail
 refine lay1 fun wG hq2 hG => ?_
 replace HB := bth HB hq2; have g' := hG.cs5; clear f'; replace hF := hF.to hq2; have f' := hF.cs8; clear a'; replace hA := hA.to hq2; have a' := hA.cs6; clear z'; replace hZ := hZ.to hq2; have z' := hZ.cs8; have hg0 := hG.lt
 go_wp2_with fail
 refine (l25Debate_is rs qs A0 A1 c0 c1 HZ.out.h0 HZ.out.h1 HP.out true HD.out _ (HR.out.r0.below (bth HB bel)) (HR.out.r1.below (bth HB bel))).mono ?_
 rintro e w3 ⟨rfl, hb3⟩
 have hq3 := be wG hb3; replace HB := bth HB hq3; replace hF := hF.to hq3; clear f'; have f' := hF.cs8; replace hA := hA.to hq3; clear a'; have a' := hA.cs6; replace hZ := hZ.to hq3; clear z'; have z' := hZ.cs8; replace hG := hG.to hq3; clear g'; have g' := hG.cs5; have sz3 := hq3.size
 go_wp2_with fail
 refine (sAct3_is tu se sp A2 c2 ws A3 c3 sh HZ.out.h2 HZ.out.h3 HZ.out.n2 HZ.out.n3 HZ.out.k2 HZ.out.k3 mem p' ws' sh' HV.out HE.out _ (HR.out.r2.below (bth HB bel)) (HR.out.r3.below (bth HB bel))).mono ?_
 rintro e w4 ⟨D2, d2, D3, d3, rfl, OO, hb4⟩
 have hq4 := be w3 hb4; replace HB := bth HB hq4; replace hF := hF.to hq4; clear f'; have f' := hF.cs8; clear a'; replace hZ := hZ.to hq4; clear z'; have z' := hZ.cs8; replace hG := hG.to hq4; clear g'; have g' := hG.cs5; have O2 := OO.o2; have O3 := OO.o3; clear OO; have fhG' := hG.fz5; have neO2 := O2.nb hG; have neO3 := O3.nb hG
 go_upto_region 12 with fail
 clear f' z' g'
 refine st5 0 fun W4 tW4 => ?_
 replace HB := tW4.hc HB; replace hF := tW4.fa hF; replace hZ := tW4.fa hZ; replace hG := tW4.all5 hG; replace O2 := O2.keptS tW4 neO2; replace O3 := O3.keptS tW4 neO3; have f' := hF.cs8; have z' := hZ.cs8; have g' := hG.cs5; clear neO2 neO3 fhG'; have hg1 := hG.lt
 go_wp2_with fail
 refine (l25Own_is A0 A1 A2 A3 A4 c0 c1 c2 c3 c4 rs qs tu se sp ws sh os HZ.out _ (HR.out.below (bth HB bel))).mono ?_
 rintro e w5 ⟨E0, e0, E1, e1, E2, e2, E3, e3, E4, e4, rfl, OO, hb5⟩
 have hq5 := be W4 hb5; replace HB := bth HB hq5; replace O2 := O2.later hq5; replace O3 := O3.later hq5; clear f'; replace hZ := hZ.to hq5; clear z'; have z' := hZ.cs8; replace hG := hG.to hq5; clear g'; have g' := hG.cs5; have sz5 := hq5.size; have szh2 := HB.size
 go_upto_region 15 with fail
 have OP := OO.later (bl1 w5 (.cells #[.slice E0 rs.length e0, .slice E1 qs.length e1, .int .i64 tu, .int .i64 se, .int .i64 sp, .slice E2 ws.length e2, .slice E3 sh.length e3, .slice E4 os.length e4] 32)); have hq6 : Below w5.heap.size w5 (World.alloc w5 (.cells #[.slice E0 rs.length e0, .slice E1 qs.length e1, .int .i64 tu, .int .i64 se, .int .i64 sp, .slice E2 ws.length e2, .slice E3 sh.length e3, .slice E4 os.length e4] 32)) := bl1 w5 _
 have hX : Blk (World.alloc w5 (.cells #[.slice E0 rs.length e0, .slice E1 qs.length e1, .int .i64 tu, .int .i64 se, .int .i64 sp, .slice E2 ws.length e2, .slice E3 sh.length e3, .slice E4 os.length e4] 32)) (w5.heap.size) 32 #[.slice E0 rs.length e0, .slice E1 qs.length e1, .int .i64 tu, .int .i64 se, .int .i64 sp, .slice E2 ws.length e2, .slice E3 sh.length e3, .slice E4 os.length e4] := by repeat (first | exact Blk.new _ _ _ | exact Blk.new2 _ _ _ _ | exact Blk.new3 _ _ _ _ _ | exact Blk.new4 _ _ _ _ _ _ | refine Blk.alloc ?_ _)
 replace O2 := O2.later hq6; replace O3 := O3.later hq6
 generalize World.alloc w5 (.cells #[.slice E0 rs.length e0, .slice E1 qs.length e1, .int .i64 tu, .int .i64 se, .int .i64 sp, .slice E2 ws.length e2, .slice E3 sh.length e3, .slice E4 os.length e4] 32) = wM at *
 replace HB := bth HB hq6; have x' := hX.cs8; clear z'; replace hZ := hZ.to hq6; have z' := hZ.cs8; clear g'; replace hG := hG.to hq6; have g' := hG.cs5; have O0 := OP.o0; have O1 := OP.o1; have O4 := OP.o4; clear OP; have fhX2 := hX.frozen 2; have fhX3 := hX.frozen 3; have fhX4 := hX.frozen 4; have fhX5 := hX.frozen 5; have fhX6 := hX.frozen 6; have neO0 := O0.nb hX; have neO1 := O1.nb hX; have neO2 := O2.nb hX
 have neO3 := O3.nb hX; have neO4 := O4.nb hX
 go_upto_region 16 with fail
 clear z' g' x'
 refine st5 2 fun W6 tW6 => ?_
 replace HB := tW6.hc HB; replace hZ := tW6.fa hZ; replace hX : Blk W6 (w5.heap.size) 32 #[.slice E0 rs.length e0, .slice E1 qs.length e1, .int .i64 tu, .int .i64 se, .int .i64 p', .slice D2 ws'.length d2, .slice D3 sh'.length d3, .slice E4 os.length e4] := tW6.own hX; replace O2 := O2.keptS tW6 neO2; replace O3 := O3.keptS tW6 neO3; replace O0 := O0.keptS tW6 neO0; replace O1 := O1.keptS tW6 neO1
 replace O4 := O4.keptS tW6 neO4; have z' := hZ.cs8; have x' := hX.cs8; clear neO0 neO1 neO2 neO3 neO4 fhX2 fhX3 fhX4 fhX5 fhX6; have neO0 := O0.nb hZ; have neO1 := O1.nb hZ; have neO2 := O2.nb hZ; have neO3 := O3.nb hZ; have neO4 := O4.nb hZ; have fhZ' := hZ.fz8
 go_wp2
 clear z' x'
 refine st8 0 fun W9 tW9 => ?_
 replace HB := tW9.hc HB; replace hZ := tW9.all8 hZ; replace O2 := O2.keptS tW9 neO2; replace O3 := O3.keptS tW9 neO3; replace O0 := O0.keptS tW9 neO0; replace O1 := O1.keptS tW9 neO1; replace O4 := O4.keptS tW9 neO4; have z' := hZ.cs8
 exact brt ⟨E0, e0, E1, e1, D2, d2, D3, d3, E4, e4, rfl, ⟨O0.base (by omega), O1.base (by omega), O2.base (by omega), O3.base (by omega), O4.base (by omega)⟩, HB⟩ (by simp [results, Tryz.results115, go_sem, z'])
theorem zb2 {p : Prop} (h : p := by
 rintro e w3 ⟨D2, d2, D3, d3, rfl, OO, hb3⟩
 have hq3 := be wG hb3; replace HB := bth HB hq3; replace hF := hF.to hq3; clear f'; have f' := hF.cs8; clear a'; replace hZ := hZ.to hq3; clear z'; have z' := hZ.cs8; replace hG := hG.to hq3; clear g'; have g' := hG.cs5; have O2 := OO.o2; have O3 := OO.o3; clear OO; have fhG' := hG.fz5; have neO2 := O2.nb hG; have neO3 := O3.nb hG
 go_upto_region 12 with fail
 clear f' z' g'
 refine st5 0 fun W4 tW4 => ?_
 replace HB := tW4.hc HB; replace hF := tW4.fa hF; replace hZ := tW4.fa hZ; replace hG := tW4.all5 hG; replace O2 := O2.keptS tW4 neO2; replace O3 := O3.keptS tW4 neO3; have f' := hF.cs8; have z' := hZ.cs8; have g' := hG.cs5; clear neO2 neO3 fhG'; have hg1 := hG.lt
 go_wp2_with fail
 refine (l25Own_is A0 A1 A2 A3 A4 c0 c1 c2 c3 c4 rs qs tu se sp ws sh os HZ.out _ (HR.out.below (bth HB bel))).mono ?_
 rintro e w4 ⟨E0, e0, E1, e1, E2, e2, E3, e3, E4, e4, rfl, OO, hb4⟩
 have hq4 := be W4 hb4; replace HB := bth HB hq4; replace O2 := O2.later hq4; replace O3 := O3.later hq4; clear f'; replace hZ := hZ.to hq4; clear z'; have z' := hZ.cs8; replace hG := hG.to hq4; clear g'; have g' := hG.cs5; have sz4 := hq4.size; have szh2 := HB.size
 go_upto_region 15 with fail
 have OP := OO.later (bl1 w4 (.cells #[.slice E0 rs.length e0, .slice E1 qs.length e1, .int .i64 tu, .int .i64 se, .int .i64 sp, .slice E2 ws.length e2, .slice E3 sh.length e3, .slice E4 os.length e4] 32)); have hq5 : Below w4.heap.size w4 (World.alloc w4 (.cells #[.slice E0 rs.length e0, .slice E1 qs.length e1, .int .i64 tu, .int .i64 se, .int .i64 sp, .slice E2 ws.length e2, .slice E3 sh.length e3, .slice E4 os.length e4] 32)) := bl1 w4 _
 have hX : Blk (World.alloc w4 (.cells #[.slice E0 rs.length e0, .slice E1 qs.length e1, .int .i64 tu, .int .i64 se, .int .i64 sp, .slice E2 ws.length e2, .slice E3 sh.length e3, .slice E4 os.length e4] 32)) (w4.heap.size) 32 #[.slice E0 rs.length e0, .slice E1 qs.length e1, .int .i64 tu, .int .i64 se, .int .i64 sp, .slice E2 ws.length e2, .slice E3 sh.length e3, .slice E4 os.length e4] := by repeat (first | exact Blk.new _ _ _ | exact Blk.new2 _ _ _ _ | exact Blk.new3 _ _ _ _ _ | exact Blk.new4 _ _ _ _ _ _ | refine Blk.alloc ?_ _)
 replace O2 := O2.later hq5; replace O3 := O3.later hq5
 generalize World.alloc w4 (.cells #[.slice E0 rs.length e0, .slice E1 qs.length e1, .int .i64 tu, .int .i64 se, .int .i64 sp, .slice E2 ws.length e2, .slice E3 sh.length e3, .slice E4 os.length e4] 32) = wM at *
 replace HB := bth HB hq5; have x' := hX.cs8; clear z'; replace hZ := hZ.to hq5; have z' := hZ.cs8; clear g'; replace hG := hG.to hq5; have g' := hG.cs5; have O0 := OP.o0; have O1 := OP.o1; have O4 := OP.o4; clear OP; have fhX2 := hX.frozen 2; have fhX3 := hX.frozen 3; have fhX4 := hX.frozen 4; have fhX5 := hX.frozen 5; have fhX6 := hX.frozen 6; have neO0 := O0.nb hX; have neO1 := O1.nb hX; have neO2 := O2.nb hX
 have neO3 := O3.nb hX; have neO4 := O4.nb hX
 go_upto_region 16 with fail
 clear z' g' x'
 refine st5 2 fun W6 tW6 => ?_
 replace HB := tW6.hc HB; replace hZ := tW6.fa hZ; replace hX : Blk W6 (w4.heap.size) 32 #[.slice E0 rs.length e0, .slice E1 qs.length e1, .int .i64 tu, .int .i64 se, .int .i64 p', .slice D2 ws'.length d2, .slice D3 sh'.length d3, .slice E4 os.length e4] := tW6.own hX; replace O2 := O2.keptS tW6 neO2; replace O3 := O3.keptS tW6 neO3; replace O0 := O0.keptS tW6 neO0; replace O1 := O1.keptS tW6 neO1
 replace O4 := O4.keptS tW6 neO4; have z' := hZ.cs8; have x' := hX.cs8; clear neO0 neO1 neO2 neO3 neO4 fhX2 fhX3 fhX4 fhX5 fhX6; have neO0 := O0.nb hZ; have neO1 := O1.nb hZ; have neO2 := O2.nb hZ; have neO3 := O3.nb hZ; have neO4 := O4.nb hZ; have fhZ' := hZ.fz8
 go_wp2
 clear z' x'
 refine st8 0 fun W9 tW9 => ?_
 replace HB := tW9.hc HB; replace hZ := tW9.all8 hZ; replace O2 := O2.keptS tW9 neO2; replace O3 := O3.keptS tW9 neO3; replace O0 := O0.keptS tW9 neO0; replace O1 := O1.keptS tW9 neO1; replace O4 := O4.keptS tW9 neO4; have z' := hZ.cs8
 exact brt ⟨E0, e0, E1, e1, D2, d2, D3, d3, E4, e4, rfl, ⟨O0.base (by omega), O1.base (by omega), O2.base (by omega), O3.base (by omega), O4.base (by omega)⟩, HB⟩ (by simp [results, Tryz.results115, go_sem, z'])) : p := h
theorem sFlo4T_is (A0 A1 A2 A3 A4 : Option Addr) (c0 c1 c2 c3 c4 : Nat) (rs : List Rul) (qs : List Que) (tu se sp : Int) (ws : List Int) (sh : List Sha) (os : List Out) (Z : MeeIn A0 A1 A2 A3 A4 c0 c1 c2 c3 c4 rs qs ws sh os) (mem val yes no abst : Int) (q : Int) (hq : nxM ⟨tu, se, sp, ws, sh⟩ = some q) (p' : Int) (ws' : List Int) (sh' : List Sha) (hv : nxB ⟨tu, se, sp, ws, sh⟩ = true) (he : nxF ⟨tu, se, sp, ws, sh⟩ q = ⟨tu, se, p', ws', sh'⟩) (hp : pendB rs qs = true) (hd : debB rs qs = true) (w : World) (R : MeR w A0 A1 A2 A3 A4 rs qs ws sh os) :
 Calls Tryz.prog 115 #[.agg #[.slice A0 rs.length c0, .slice A1 qs.length c1, .int .i64 tu, .int .i64 se, .int .i64 sp, .slice A2 ws.length c2, .slice A3 sh.length c3, .slice A4 os.length c4], .agg #[.int .i64 4, .int .i64 mem, .int .i64 val, .int .i64 yes, .int .i64 no, .int .i64 abst]] w fun e w' => ∃ E0 e0 E1 e1 D2 d2 D3 d3 E4 e4, e = .returned (.tuple #[.agg #[.slice E0 rs.length e0, .slice E1 qs.length e1, .int .i64 tu, .int .i64 se, .int .i64 p', .slice D2 ws'.length d2, .slice D3 sh'.length d3, .slice E4 os.length e4], .bool true]) ∧ MeO w.heap.size w' E0 e0 E1 e1 D2 d2 D3 d3 E4 e4 rs qs ws' sh' os ∧ Below w.heap.size w w' := by
 have HR := lh R; have HZ := lh Z; have HV := lh hv; have HE := lh he; have HQ := lh hq; clear R Z hp hd hv he hq
 go_in
 go_upto_region 1 with fail
 refine lay3 fun wX hq1 hF hA hZ => ?_
 have HB := hq1; have f' := hF.cs8; have a' := hA.cs6; have z' := hZ.cs8; have hz0' := hZ.lt
 go_upto_region 2 with fail
 refine lay1 fun wG hq2 hG => ?_
 replace HB := bth HB hq2; have g' := hG.cs5; clear f'; replace hF := hF.to hq2; have f' := hF.cs8; clear a'; replace hA := hA.to hq2; have a' := hA.cs6; clear z'; replace hZ := hZ.to hq2; have z' := hZ.cs8; have hg0 := hG.lt
 go_wp2_with fail
 refine (sAct4_is tu se sp A2 c2 ws A3 c3 sh HZ.out.h2 HZ.out.h3 HZ.out.n2 HZ.out.n3 HZ.out.k2 HZ.out.k3 q HQ.out p' ws' sh' HV.out HE.out _ (HR.out.r2.below (bth HB bel)) (HR.out.r3.below (bth HB bel))).mono ?_
 exact zb2
theorem sFlo5T_is (A0 A1 A2 A3 A4 : Option Addr) (c0 c1 c2 c3 c4 : Nat) (rs : List Rul) (qs : List Que) (tu se sp : Int) (ws : List Int) (sh : List Sha) (os : List Out) (Z : MeeIn A0 A1 A2 A3 A4 c0 c1 c2 c3 c4 rs qs ws sh os) (mem val yes no abst : Int) (p' : Int) (ws' : List Int) (sh' : List Sha) (hv : spB ⟨tu, se, sp, ws, sh⟩ val = true) (he : spF ⟨tu, se, sp, ws, sh⟩ val = ⟨tu, se, p', ws', sh'⟩) (hp : pendB rs qs = true) (hd : debB rs qs = true) (w : World) (R : MeR w A0 A1 A2 A3 A4 rs qs ws sh os) :
 Calls Tryz.prog 115 #[.agg #[.slice A0 rs.length c0, .slice A1 qs.length c1, .int .i64 tu, .int .i64 se, .int .i64 sp, .slice A2 ws.length c2, .slice A3 sh.length c3, .slice A4 os.length c4], .agg #[.int .i64 5, .int .i64 mem, .int .i64 val, .int .i64 yes, .int .i64 no, .int .i64 abst]] w fun e w' => ∃ E0 e0 E1 e1 D2 d2 D3 d3 E4 e4, e = .returned (.tuple #[.agg #[.slice E0 rs.length e0, .slice E1 qs.length e1, .int .i64 tu, .int .i64 se, .int .i64 p', .slice D2 ws'.length d2, .slice D3 sh'.length d3, .slice E4 os.length e4], .bool true]) ∧ MeO w.heap.size w' E0 e0 E1 e1 D2 d2 D3 d3 E4 e4 rs qs ws' sh' os ∧ Below w.heap.size w w' := by
 have HR := lh R; have HZ := lh Z; have HV := lh hv; have HE := lh he; clear R Z hp hd hv he
 go_in
 go_upto_region 1 with fail
 refine lay3 fun wX hq1 hF hA hZ => ?_
 have HB := hq1; have f' := hF.cs8; have a' := hA.cs6; have z' := hZ.cs8; have hz0' := hZ.lt
 go_upto_region 2 with fail
 refine lay1 fun wG hq2 hG => ?_
 replace HB := bth HB hq2; have g' := hG.cs5; clear f'; replace hF := hF.to hq2; have f' := hF.cs8; clear a'; replace hA := hA.to hq2; have a' := hA.cs6; clear z'; replace hZ := hZ.to hq2; have z' := hZ.cs8; have hg0 := hG.lt
 go_wp2_with fail
 refine (sAct5_is tu se sp A2 c2 ws A3 c3 sh HZ.out.h2 HZ.out.h3 HZ.out.n2 HZ.out.n3 HZ.out.k2 HZ.out.k3 val p' ws' sh' HV.out HE.out _ (HR.out.r2.below (bth HB bel)) (HR.out.r3.below (bth HB bel))).mono ?_
 exact zb2
theorem sFlo6T_is (A0 A1 A2 A3 A4 : Option Addr) (c0 c1 c2 c3 c4 : Nat) (rs : List Rul) (qs : List Que) (tu se sp : Int) (ws : List Int) (sh : List Sha) (os : List Out) (Z : MeeIn A0 A1 A2 A3 A4 c0 c1 c2 c3 c4 rs qs ws sh os) (mem val yes no abst : Int) (p' : Int) (ws' : List Int) (sh' : List Sha) (hv : yldB ⟨tu, se, sp, ws, sh⟩ = true) (he : yldF ⟨tu, se, sp, ws, sh⟩ = ⟨tu, se, p', ws', sh'⟩) (hp : pendB rs qs = true) (hd : debB rs qs = true) (w : World) (R : MeR w A0 A1 A2 A3 A4 rs qs ws sh os) :
 Calls Tryz.prog 115 #[.agg #[.slice A0 rs.length c0, .slice A1 qs.length c1, .int .i64 tu, .int .i64 se, .int .i64 sp, .slice A2 ws.length c2, .slice A3 sh.length c3, .slice A4 os.length c4], .agg #[.int .i64 6, .int .i64 mem, .int .i64 val, .int .i64 yes, .int .i64 no, .int .i64 abst]] w fun e w' => ∃ E0 e0 E1 e1 D2 d2 D3 d3 E4 e4, e = .returned (.tuple #[.agg #[.slice E0 rs.length e0, .slice E1 qs.length e1, .int .i64 tu, .int .i64 se, .int .i64 p', .slice D2 ws'.length d2, .slice D3 sh'.length d3, .slice E4 os.length e4], .bool true]) ∧ MeO w.heap.size w' E0 e0 E1 e1 D2 d2 D3 d3 E4 e4 rs qs ws' sh' os ∧ Below w.heap.size w w' := by
 have HR := lh R; have HZ := lh Z; have HV := lh hv; have HE := lh he; clear R Z hp hd hv he
 go_in
 go_upto_region 1 with fail
 refine lay3 fun wX hq1 hF hA hZ => ?_
 have HB := hq1; have f' := hF.cs8; have a' := hA.cs6; have z' := hZ.cs8; have hz0' := hZ.lt
 go_upto_region 2 with fail
 refine lay1 fun wG hq2 hG => ?_
 replace HB := bth HB hq2; have g' := hG.cs5; clear f'; replace hF := hF.to hq2; have f' := hF.cs8; clear a'; replace hA := hA.to hq2; have a' := hA.cs6; clear z'; replace hZ := hZ.to hq2; have z' := hZ.cs8; have hg0 := hG.lt
 go_wp2_with fail
 refine (sAct6_is tu se sp A2 c2 ws A3 c3 sh HZ.out.h2 HZ.out.h3 HZ.out.n2 HZ.out.n3 HZ.out.k2 HZ.out.k3 p' ws' sh' HV.out HE.out _ (HR.out.r2.below (bth HB bel)) (HR.out.r3.below (bth HB bel))).mono ?_
 exact zb2
theorem zb96 {p : Prop} (h : p := by
 have fhZ' := hZ.fz8
 go_wp2
 clear z'
 refine st8 0 fun W9 tW9 => ?_
 replace HB := tW9.hc HB; replace hZ := tW9.all8 hZ; have z' := hZ.cs8
 exact brt ⟨rfl, HB⟩ (by simp [results, Tryz.results115, go_sem, z'])) : p := h
theorem sFlo3F_is (A0 A1 A2 A3 A4 : Option Addr) (c0 c1 c2 c3 c4 : Nat) (rs : List Rul) (qs : List Que) (tu se sp : Int) (ws : List Int) (sh : List Sha) (os : List Out) (Z : MeeIn A0 A1 A2 A3 A4 c0 c1 c2 c3 c4 rs qs ws sh os) (mem val yes no abst : Int) (hv : akB ⟨tu, se, sp, ws, sh⟩ mem = false) (hd : debB rs qs = true) (hp : pendB rs qs = true) (w : World) (R : MeR w A0 A1 A2 A3 A4 rs qs ws sh os) :
 Calls Tryz.prog 115 #[.agg #[.slice A0 rs.length c0, .slice A1 qs.length c1, .int .i64 tu, .int .i64 se, .int .i64 sp, .slice A2 ws.length c2, .slice A3 sh.length c3, .slice A4 os.length c4], .agg #[.int .i64 3, .int .i64 mem, .int .i64 val, .int .i64 yes, .int .i64 no, .int .i64 abst]] w fun e w' => e = .returned (.tuple #[.agg #[.slice none 0 0, .slice none 0 0, .int .i64 0, .int .i64 0, .int .i64 0, .slice none 0 0, .slice none 0 0, .slice none 0 0], .bool false]) ∧ Below w.heap.size w w' := by
 have HR := lh R; have HZ := lh Z; have HP := lh hp; clear R Z hp; have HV := lh hv; clear hv; have HD := lh hd; clear hd
 go_in
 go_upto_region 1 with fail
 refine lay3 fun wX hq1 hF hA hZ => ?_
 have HB := hq1; have f' := hF.cs8; have a' := hA.cs6; have z' := hZ.cs8; have hz0' := hZ.lt
 go_upto_region 2 with fail
 refine lay1 fun wG hq2 hG => ?_
 replace HB := bth HB hq2; have g' := hG.cs5; clear f'; replace hF := hF.to hq2; have f' := hF.cs8; clear a'; replace hA := hA.to hq2; have a' := hA.cs6; clear z'; replace hZ := hZ.to hq2; have z' := hZ.cs8
 go_wp2_with fail
 refine (l25Debate_is rs qs A0 A1 c0 c1 HZ.out.h0 HZ.out.h1 HP.out true HD.out _ (HR.out.r0.below (bth HB bel)) (HR.out.r1.below (bth HB bel))).mono ?_
 rintro e w3 ⟨rfl, hb3⟩
 have hq3 := be wG hb3; replace HB := bth HB hq3; replace hF := hF.to hq3; clear f'; have f' := hF.cs8; replace hA := hA.to hq3; clear a'; have a' := hA.cs6; replace hZ := hZ.to hq3; clear z'; have z' := hZ.cs8; replace hG := hG.to hq3; clear g'; have g' := hG.cs5
 go_wp2_with fail
 refine (sAskF_is tu se sp A2 c2 ws A3 c3 sh HZ.out.h2 HZ.out.h3 HZ.out.n2 HZ.out.n3 HZ.out.k2 HZ.out.k3 mem HV.out _ (HR.out.r2.below (bth HB bel)) (HR.out.r3.below (bth HB bel))).mono ?_
 rintro e w4 ⟨rfl, hb4⟩
 have hq4 := be w3 hb4; replace HB := bth HB hq4; clear f'; clear a'; replace hZ := hZ.to hq4; clear z'; have z' := hZ.cs8; replace hG := hG.to hq4; clear g'; have g' := hG.cs5; have fhG' := hG.fz5
 go_upto_region 12 with fail
 clear z' g'
 refine st5 0 fun W4 tW4 => ?_
 replace HB := tW4.hc HB; replace hZ := tW4.fa hZ; have z' := hZ.cs8; clear fhG'
 exact zb96
theorem zb27 {p : Prop} (h : p := by
 rintro e w3 ⟨rfl, hb3⟩
 have hq3 := be wG hb3; replace HB := bth HB hq3; clear f'; clear a'; replace hZ := hZ.to hq3; clear z'; have z' := hZ.cs8; replace hG := hG.to hq3; clear g'; have g' := hG.cs5; have fhG' := hG.fz5
 go_upto_region 12 with fail
 clear z' g'
 refine st5 0 fun W4 tW4 => ?_
 replace HB := tW4.hc HB; replace hZ := tW4.fa hZ; have z' := hZ.cs8; clear fhG'; have fhZ' := hZ.fz8
 go_wp2
 clear z'
 refine st8 0 fun W9 tW9 => ?_
 replace HB := tW9.hc HB; replace hZ := tW9.all8 hZ; have z' := hZ.cs8
 exact brt ⟨rfl, HB⟩ (by simp [results, Tryz.results115, go_sem, z'])) : p := h
theorem sFlo4F_is (A0 A1 A2 A3 A4 : Option Addr) (c0 c1 c2 c3 c4 : Nat) (rs : List Rul) (qs : List Que) (tu se sp : Int) (ws : List Int) (sh : List Sha) (os : List Out) (Z : MeeIn A0 A1 A2 A3 A4 c0 c1 c2 c3 c4 rs qs ws sh os) (mem val yes no abst : Int) (hv : nxB ⟨tu, se, sp, ws, sh⟩ = false) (hp : pendB rs qs = true) (w : World) (R : MeR w A0 A1 A2 A3 A4 rs qs ws sh os) :
 Calls Tryz.prog 115 #[.agg #[.slice A0 rs.length c0, .slice A1 qs.length c1, .int .i64 tu, .int .i64 se, .int .i64 sp, .slice A2 ws.length c2, .slice A3 sh.length c3, .slice A4 os.length c4], .agg #[.int .i64 4, .int .i64 mem, .int .i64 val, .int .i64 yes, .int .i64 no, .int .i64 abst]] w fun e w' => e = .returned (.tuple #[.agg #[.slice none 0 0, .slice none 0 0, .int .i64 0, .int .i64 0, .int .i64 0, .slice none 0 0, .slice none 0 0, .slice none 0 0], .bool false]) ∧ Below w.heap.size w w' := by
 have HR := lh R; have HZ := lh Z; clear R Z hp; have HV := lh hv; clear hv
 go_in
 go_upto_region 1 with fail
 refine lay3 fun wX hq1 hF hA hZ => ?_
 have HB := hq1; have f' := hF.cs8; have a' := hA.cs6; have z' := hZ.cs8; have hz0' := hZ.lt
 go_upto_region 2 with fail
 refine lay1 fun wG hq2 hG => ?_
 replace HB := bth HB hq2; have g' := hG.cs5; clear f'; replace hF := hF.to hq2; have f' := hF.cs8; clear a'; replace hA := hA.to hq2; have a' := hA.cs6; clear z'; replace hZ := hZ.to hq2; have z' := hZ.cs8
 go_wp2_with fail
 refine (sNextF_is tu se sp A2 c2 ws A3 c3 sh HZ.out.h2 HZ.out.h3 HZ.out.n2 HZ.out.n3 HZ.out.k2 HZ.out.k3 HV.out _ (HR.out.r2.below (bth HB bel)) (HR.out.r3.below (bth HB bel))).mono ?_
 exact zb27
theorem sFlo5F_is (A0 A1 A2 A3 A4 : Option Addr) (c0 c1 c2 c3 c4 : Nat) (rs : List Rul) (qs : List Que) (tu se sp : Int) (ws : List Int) (sh : List Sha) (os : List Out) (Z : MeeIn A0 A1 A2 A3 A4 c0 c1 c2 c3 c4 rs qs ws sh os) (mem val yes no abst : Int) (hv : spB ⟨tu, se, sp, ws, sh⟩ val = false) (hp : pendB rs qs = true) (w : World) (R : MeR w A0 A1 A2 A3 A4 rs qs ws sh os) :
 Calls Tryz.prog 115 #[.agg #[.slice A0 rs.length c0, .slice A1 qs.length c1, .int .i64 tu, .int .i64 se, .int .i64 sp, .slice A2 ws.length c2, .slice A3 sh.length c3, .slice A4 os.length c4], .agg #[.int .i64 5, .int .i64 mem, .int .i64 val, .int .i64 yes, .int .i64 no, .int .i64 abst]] w fun e w' => e = .returned (.tuple #[.agg #[.slice none 0 0, .slice none 0 0, .int .i64 0, .int .i64 0, .int .i64 0, .slice none 0 0, .slice none 0 0, .slice none 0 0], .bool false]) ∧ Below w.heap.size w w' := by
 have HR := lh R; have HZ := lh Z; clear R Z hp; have HV := lh hv; clear hv
 go_in
 go_upto_region 1 with fail
 refine lay3 fun wX hq1 hF hA hZ => ?_
 have HB := hq1; have f' := hF.cs8; have a' := hA.cs6; have z' := hZ.cs8; have hz0' := hZ.lt
 go_upto_region 2 with fail
 refine lay1 fun wG hq2 hG => ?_
 replace HB := bth HB hq2; have g' := hG.cs5; clear f'; replace hF := hF.to hq2; have f' := hF.cs8; clear a'; replace hA := hA.to hq2; have a' := hA.cs6; clear z'; replace hZ := hZ.to hq2; have z' := hZ.cs8
 go_wp2_with fail
 refine (sSpeakF_is tu se sp A2 c2 ws A3 c3 sh HZ.out.h2 HZ.out.h3 HZ.out.n2 HZ.out.n3 HZ.out.k2 HZ.out.k3 val HV.out _ (HR.out.r2.below (bth HB bel)) (HR.out.r3.below (bth HB bel))).mono ?_
 exact zb27
theorem sFlo6F_is (A0 A1 A2 A3 A4 : Option Addr) (c0 c1 c2 c3 c4 : Nat) (rs : List Rul) (qs : List Que) (tu se sp : Int) (ws : List Int) (sh : List Sha) (os : List Out) (Z : MeeIn A0 A1 A2 A3 A4 c0 c1 c2 c3 c4 rs qs ws sh os) (mem val yes no abst : Int) (hv : yldB ⟨tu, se, sp, ws, sh⟩ = false) (hp : pendB rs qs = true) (w : World) (R : MeR w A0 A1 A2 A3 A4 rs qs ws sh os) :
 Calls Tryz.prog 115 #[.agg #[.slice A0 rs.length c0, .slice A1 qs.length c1, .int .i64 tu, .int .i64 se, .int .i64 sp, .slice A2 ws.length c2, .slice A3 sh.length c3, .slice A4 os.length c4], .agg #[.int .i64 6, .int .i64 mem, .int .i64 val, .int .i64 yes, .int .i64 no, .int .i64 abst]] w fun e w' => e = .returned (.tuple #[.agg #[.slice none 0 0, .slice none 0 0, .int .i64 0, .int .i64 0, .int .i64 0, .slice none 0 0, .slice none 0 0, .slice none 0 0], .bool false]) ∧ Below w.heap.size w w' := by
 have HR := lh R; have HZ := lh Z; clear R Z hp; have HV := lh hv; clear hv
 go_in
 go_upto_region 1 with fail
 refine lay3 fun wX hq1 hF hA hZ => ?_
 have HB := hq1; have f' := hF.cs8; have a' := hA.cs6; have z' := hZ.cs8; have hz0' := hZ.lt
 go_upto_region 2 with fail
 refine lay1 fun wG hq2 hG => ?_
 replace HB := bth HB hq2; have g' := hG.cs5; clear f'; replace hF := hF.to hq2; have f' := hF.cs8; clear a'; replace hA := hA.to hq2; have a' := hA.cs6; clear z'; replace hZ := hZ.to hq2; have z' := hZ.cs8
 go_wp2_with fail
 refine (sYieldF_is tu se sp A2 c2 ws A3 c3 sh HZ.out.h2 HZ.out.h3 HZ.out.n2 HZ.out.n3 HZ.out.k2 HZ.out.k3 HV.out _ (HR.out.r2.below (bth HB bel)) (HR.out.r3.below (bth HB bel))).mono ?_
 exact zb27
theorem sFlo3D_is (A0 A1 A2 A3 A4 : Option Addr) (c0 c1 c2 c3 c4 : Nat) (rs : List Rul) (qs : List Que) (tu se sp : Int) (ws : List Int) (sh : List Sha) (os : List Out) (Z : MeeIn A0 A1 A2 A3 A4 c0 c1 c2 c3 c4 rs qs ws sh os) (mem val yes no abst : Int) (hd : debB rs qs = false) (hp : pendB rs qs = true) (w : World) (R : MeR w A0 A1 A2 A3 A4 rs qs ws sh os) :
 Calls Tryz.prog 115 #[.agg #[.slice A0 rs.length c0, .slice A1 qs.length c1, .int .i64 tu, .int .i64 se, .int .i64 sp, .slice A2 ws.length c2, .slice A3 sh.length c3, .slice A4 os.length c4], .agg #[.int .i64 3, .int .i64 mem, .int .i64 val, .int .i64 yes, .int .i64 no, .int .i64 abst]] w fun e w' => e = .returned (.tuple #[.agg #[.slice none 0 0, .slice none 0 0, .int .i64 0, .int .i64 0, .int .i64 0, .slice none 0 0, .slice none 0 0, .slice none 0 0], .bool false]) ∧ Below w.heap.size w w' := by
 have HR := lh R; have HZ := lh Z; have HP := lh hp; clear R Z hp; have HD := lh hd; clear hd
 go_in
 go_upto_region 1 with fail
 refine lay3 fun wX hq1 hF hA hZ => ?_
 have HB := hq1; have f' := hF.cs8; have a' := hA.cs6; have z' := hZ.cs8
 go_upto_region 2 with fail
 refine lay1 fun wG hq2 hG => ?_
 replace HB := bth HB hq2; clear f'; replace hF := hF.to hq2; have f' := hF.cs8; clear a'; replace hA := hA.to hq2; have a' := hA.cs6; clear z'; replace hZ := hZ.to hq2; have z' := hZ.cs8
 go_wp2_with fail
 refine (l25Debate_is rs qs A0 A1 c0 c1 HZ.out.h0 HZ.out.h1 HP.out false HD.out _ (HR.out.r0.below (bth HB bel)) (HR.out.r1.below (bth HB bel))).mono ?_
 rintro e w3 ⟨rfl, hb3⟩
 have hq3 := be wG hb3; replace HB := bth HB hq3; clear f'; clear a'; replace hZ := hZ.to hq3; clear z'; have z' := hZ.cs8
 exact zb96
theorem sFloK_is (A0 A1 A2 A3 A4 : Option Addr) (c0 c1 c2 c3 c4 : Nat) (rs : List Rul) (qs : List Que) (tu se sp : Int) (ws : List Int) (sh : List Sha) (os : List Out) (Z : MeeIn A0 A1 A2 A3 A4 c0 c1 c2 c3 c4 rs qs ws sh os) (kind mem val yes no abst : Int) (h3' : (kind == 3) = false) (h4' : (kind == 4) = false) (h5' : (kind == 5) = false) (h6' : (kind == 6) = false) (hp : pendB rs qs = true) (w : World) (R : MeR w A0 A1 A2 A3 A4 rs qs ws sh os) :
 Calls Tryz.prog 115 #[.agg #[.slice A0 rs.length c0, .slice A1 qs.length c1, .int .i64 tu, .int .i64 se, .int .i64 sp, .slice A2 ws.length c2, .slice A3 sh.length c3, .slice A4 os.length c4], .agg #[.int .i64 kind, .int .i64 mem, .int .i64 val, .int .i64 yes, .int .i64 no, .int .i64 abst]] w fun e w' => e = .returned (.tuple #[.agg #[.slice none 0 0, .slice none 0 0, .int .i64 0, .int .i64 0, .int .i64 0, .slice none 0 0, .slice none 0 0, .slice none 0 0], .bool false]) ∧ Below w.heap.size w w' := by
 clear R Z hp
 go_in
 go_upto_region 1 with fail
 refine lay3 fun wX hq1 hF hA hZ => ?_
 have HB := hq1; have a' := hA.cs6; have z' := hZ.cs8
 go_upto_region 2 with fail
 refine lay1 fun wG hq2 hG => ?_
 replace HB := bth HB hq2; clear a'; replace hA := hA.to hq2; have a' := hA.cs6; clear z'; replace hZ := hZ.to hq2; have z' := hZ.cs8; have fhZ' := hZ.fz8
 go_wp2
 clear a' z'
 refine st8 0 fun W9 tW9 => ?_
 replace HB := tW9.hc HB; replace hZ := tW9.all8 hZ; have z' := hZ.cs8
 exact brt ⟨rfl, HB⟩ (by simp [results, Tryz.results115, go_sem, z'])
end Go.Proofs.YtjimibkgocieoaaGreat
