/- Texts of the proof: walks of the functions, and what they compute. -/
import Derived.Test.YtjimibkgocieoaaGreatRm8
import Derived.Test.YtjimibkgocieoaaGreatRm29
import Derived.Test.YtjimibkgocieoaaGreatRm0
import Derived.Test.YtjimibkgocieoaaGreatRm9
import Derived.Test.YtjimibkgocieoaaGreatRm23
import Derived.Test.YtjimibkgocieoaaGreatRm3
import Derived.Test.YtjimibkgocieoaaGreatRows
set_option maxHeartbeats 16000000
set_option maxRecDepth 100000
namespace Go.Proofs.YtjimibkgocieoaaGreat
open Go.RowKit Go.G9
section
variable {B : Nat} {w w' : World} {D0 D1 D2 D3 D4 : Option Addr} {d0 d1 d2 d3 d4 : Nat} {rs : List Rul} {qs : List Que} {ws : List Int} {sh : List Sha} {os : List Out}
theorem MeO.cur {p : Nat} (h : MeO B w D0 d0 D1 d1 D2 d2 D3 d3 D4 d4 rs qs ws sh os) (hp : p < B) (hg : w.grownBy w' (some p)) : MeO B w' D0 d0 D1 d1 D2 d2 D3 d3 D4 d4 rs qs ws sh os :=
 ⟨h.o0.kept hg (fun k hk e => by have := (h.o0.lt k hk).1; have := Option.some.inj e; omega), h.o1.kept hg (fun k hk e => by have := (h.o1.lt k hk).1; have := Option.some.inj e; omega), h.o2.kept hg (fun k hk e => by have := (h.o2.lt k hk).1; have := Option.some.inj e; omega), h.o3.kept hg (fun k hk e => by have := (h.o3.lt k hk).1; have := Option.some.inj e; omega), h.o4.kept hg (fun k hk e => by have := (h.o4.lt k hk).1; have := Option.some.inj e; omega)⟩
theorem MeO.keptM {g : Nat} {cs : Array Value} (h : MeO B w D0 d0 D1 d1 D2 d2 D3 d3 D4 d4 rs qs ws sh os) (hb : Blk w g 32 cs) (hg : w.grownBy w' (some g)) : MeO B w' D0 d0 D1 d1 D2 d2 D3 d3 D4 d4 rs qs ws sh os :=
 ⟨h.o0.kept hg (fun k hk e => h.o0.notBlkV hb (by decide) k hk (Option.some.inj e)), h.o1.kept hg (fun k hk e => h.o1.notBlkV hb (by decide) k hk (Option.some.inj e)), h.o2.kept hg (fun k hk e => h.o2.notBlkV hb (by decide) k hk (Option.some.inj e)), h.o3.kept hg (fun k hk e => h.o3.notBlkV hb (by decide) k hk (Option.some.inj e)), h.o4.kept hg (fun k hk e => h.o4.notBlkV hb (by decide) k hk (Option.some.inj e))⟩
theorem MeO.keptY {g : Nat} {cs : Array Value} (h : MeO B w D0 d0 D1 d1 D2 d2 D3 d3 D4 d4 rs qs ws sh os) (hb : Blk w g 36 cs) (hg : w.grownBy w' (some g)) : MeO B w' D0 d0 D1 d1 D2 d2 D3 d3 D4 d4 rs qs ws sh os :=
 ⟨h.o0.kept hg (fun k hk e => h.o0.notBlkV hb (by decide) k hk (Option.some.inj e)), h.o1.kept hg (fun k hk e => h.o1.notBlkV hb (by decide) k hk (Option.some.inj e)), h.o2.kept hg (fun k hk e => h.o2.notBlkV hb (by decide) k hk (Option.some.inj e)), h.o3.kept hg (fun k hk e => h.o3.notBlkV hb (by decide) k hk (Option.some.inj e)), h.o4.kept hg (fun k hk e => h.o4.notBlkV hb (by decide) k hk (Option.some.inj e))⟩
theorem MeO.map (h : MeO B w D0 d0 D1 d1 D2 d2 D3 d3 D4 d4 rs qs ws sh os) (hp : w = w') : MeO B w' D0 d0 D1 d1 D2 d2 D3 d3 D4 d4 rs qs ws sh os := hp ▸ h
end
theorem drawMeeting_is (A : Option Addr) (c : Nat) (cs : List UInt8) (hcs : cs.length ≤ 1048576) (w : World) (hR : Rds 1 u8C w A cs) :
 Calls Tryz.prog 62 #[.slice A cs.length c] w fun e w' => ∃ (rs : List Rul) (qs : List Que) (tu se sp : Int) (ws : List Int) (sh : List Sha) (os : List Out) (D0 : Option Addr) (d0 : Nat) (D1 : Option Addr) (d1 : Nat) (D2 : Option Addr) (d2 : Nat) (D3 : Option Addr) (d3 : Nat) (D4 : Option Addr) (d4 : Nat), e = .returned (.agg #[.slice D0 rs.length d0, .slice D1 qs.length d1, .int .i64 tu, .int .i64 se, .int .i64 sp, .slice D2 ws.length d2, .slice D3 sh.length d3, .slice D4 os.length d4]) ∧ rs.length ≤ 12 ∧ (∀ t ∈ rs, t.name.size ≤ 12) ∧ qs.length ≤ 7 ∧ ws.length ≤ 60 ∧ sh.length ≤ 99 ∧ os.length ≤ 30 ∧ MeO w.heap.size w' D0 d0 D1 d1 D2 d2 D3 d3 D4 d4 rs qs ws sh os ∧ Below w.heap.size w w' := by
 go_in
 go_upto_region 2 with fail
 have hlt : ∀ ad, A = some ad → 0 < cs.length → ad.block < w.heap.size := fun ad h h0 => by
  obtain ⟨b, off, h1, h2, _⟩ := hR h0
  rw [h1] at h; cases h; exact h2
 have hq1 : Below w.heap.size w (World.alloc (World.alloc w (.cells #[.slice none 0 0, .slice none 0 0, .int .i64 0, .int .i64 0, .int .i64 0, .slice none 0 0, .slice none 0 0, .slice none 0 0] 32)) (.cells #[.slice A cs.length c, .int .i64 0, .int .u64 0] 95)) := bl2 w _ _
 have hZ : Blk (World.alloc (World.alloc w (.cells #[.slice none 0 0, .slice none 0 0, .int .i64 0, .int .i64 0, .int .i64 0, .slice none 0 0, .slice none 0 0, .slice none 0 0] 32)) (.cells #[.slice A cs.length c, .int .i64 0, .int .u64 0] 95)) (w.heap.size) 32 #[.slice none 0 0, .slice none 0 0, .int .i64 0, .int .i64 0, .int .i64 0, .slice none 0 0, .slice none 0 0, .slice none 0 0] := by repeat (first | exact Blk.new _ _ _ | exact Blk.new2 _ _ _ _ | exact Blk.new3 _ _ _ _ _ | exact Blk.new4 _ _ _ _ _ _ | refine Blk.alloc ?_ _)
 have hP : Blk (World.alloc (World.alloc w (.cells #[.slice none 0 0, .slice none 0 0, .int .i64 0, .int .i64 0, .int .i64 0, .slice none 0 0, .slice none 0 0, .slice none 0 0] 32)) (.cells #[.slice A cs.length c, .int .i64 0, .int .u64 0] 95)) (w.heap.size + 1) 95 #[.slice A cs.length c, .int .i64 0, .int .u64 0] := by repeat (first | exact Blk.new _ _ _ | exact Blk.new2 _ _ _ _ | exact Blk.new3 _ _ _ _ _ | exact Blk.new4 _ _ _ _ _ _ | refine Blk.alloc ?_ _)
 generalize World.alloc (World.alloc w (.cells #[.slice none 0 0, .slice none 0 0, .int .i64 0, .int .i64 0, .int .i64 0, .slice none 0 0, .slice none 0 0, .slice none 0 0] 32)) (.cells #[.slice A cs.length c, .int .i64 0, .int .u64 0] 95) = wA at *
 have HB := hq1; have z' := hZ.cs8; have cu' := hP.cs3; have hC : Cur wA (w.heap.size + 1) A c cs 0 := ⟨⟨0, 0, hP, by decide, by decide⟩, hR.below HB, fun ad h h0 => by have := hlt ad h h0; omega⟩
 obtain ⟨p, hpe⟩ : ∃ p, p = w.heap.size + 1 := ⟨_, rfl⟩
 rw [← hpe] at hC
 obtain ⟨n0, hn0⟩ : ∃ n : Nat, n ≤ 0 := ⟨0, Nat.le_refl _⟩
 replace hC : Cur wA p A c cs n0 := hC.mono (Nat.zero_le _)
 simp only [← hpe]
 clear z' cu'; have hp := hC.lt; have HG := grown_refl w (some p); replace HG : w.grownBy wA (some p) := bgr HB _; have szw : w.heap.size ≤ wA.heap.size := HB.size
 have hwp : w.heap.size ≤ p := by omega
 have hwp1 : w.heap.size < p := by omega
 clear hR hlt hP HB hpe; have z' := hZ.cs8
 go_wp2_with fail
 refine (meeting_is p A c cs hcs n0 (by omega) _ (hC.later bel)).mono ?_
 rintro e w1 ⟨rs, qs, tu, se, sp, ws, sh, os, D0, d0, D1, d1, D2, d2, D3, d3, D4, d4, rfl, hl0, hrn, hl1, hl2, hl3, hl4, OO, hS1⟩
 clear z'; have hg1 : wA.grownBy w1 (some p) := grown_tr (bgr bel _) hS1.2; replace hC := hS1.1; have sz1 := hg1.size; replace HG := grown_tr HG hg1; replace hZ := hZ.grownB hg1 (by omega); have z' := hZ.cs8; replace OO := OO.base (B' := wA.heap.size) (by omega); have HRN := lh hrn; clear hrn; have OZ := lh OO; have HZB := lh hZ; clear OO hC; have fhZ' := hZ.fz8; have yhZ := hZ.lt
 go_wp2
 clear z'
 refine st8 0 fun W9 tW9 => ?_
 replace HG := stG tW9 HG; have gRZ := tW9.gr; replace hZ := tW9.all8 hZ; have z' := hZ.cs8; have OO := OZ.out.keptM HZB.out gRZ
 exact brt ⟨rs, qs, tu, se, sp, ws, sh, os, D0, d0, D1, d1, D2, d2, D3, d3, D4, d4, rfl, hl0, HRN.out, hl1, hl2, hl3, hl4, OO.base (by omega), grown_below HG (Nat.le_refl _) (fun k hk => by cases hk; omega)⟩ (by simp [results, Tryz.results62, go_sem, z'])
theorem drawDebatable_is (A : Option Addr) (c : Nat) (cs : List UInt8) (hcs : cs.length ≤ 1048576) (w : World) (hR : Rds 1 u8C w A cs) :
 Calls Tryz.prog 16 #[.slice A cs.length c] w fun e w' => ∃ (rs : List Rul) (qs : List Que) (tu se sp : Int) (ws : List Int) (sh : List Sha) (os : List Out) (D0 : Option Addr) (d0 : Nat) (D1 : Option Addr) (d1 : Nat) (D2 : Option Addr) (d2 : Nat) (D3 : Option Addr) (d3 : Nat) (D4 : Option Addr) (d4 : Nat), e = .returned (.agg #[.slice D0 rs.length d0, .slice D1 qs.length d1, .int .i64 tu, .int .i64 se, .int .i64 sp, .slice D2 ws.length d2, .slice D3 sh.length d3, .slice D4 os.length d4]) ∧ rs.length ≤ 12 ∧ (∀ t ∈ rs, t.name.size ≤ 12) ∧ qs.length ≤ 7 ∧ ws.length ≤ 60 ∧ sh.length ≤ 99 ∧ os.length ≤ 30 ∧ MeO w.heap.size w' D0 d0 D1 d1 D2 d2 D3 d3 D4 d4 rs qs ws sh os ∧ Below w.heap.size w w' := by
 go_in
 go_upto_region 1 with fail
 refine lay1 fun wX hq1 hZ => ?_
 have HB := hq1; have z' := hZ.cs8; have szw := HB.size
 go_wp2_with fail
 refine (drawMeeting_is A c cs hcs _ (hR.below (bth HB bel))).mono ?_
 rintro e w2 ⟨rs, qs, tu, se, sp, ws, sh, os, D0, d0, D1, d1, D2, d2, D3, d3, D4, d4, rfl, hl0, hrn, hl1, hl2, hl3, hl4, OO, hb2⟩
 have hq2 := be wX hb2; replace HB := bth HB hq2; replace hZ := hZ.to hq2; clear z'; have z' := hZ.cs8; replace OO := OO.base (B' := w.heap.size) szw; have HRN := lh hrn; clear hrn hR; have O0 := OO.o0; have O1 := OO.o1; have O2 := OO.o2; have O3 := OO.o3; have O4 := OO.o4; clear OO; have neO0 := O0.nb hZ; have neO1 := O1.nb hZ; have neO2 := O2.nb hZ; have neO3 := O3.nb hZ; have neO4 := O4.nb hZ; have fhZ' := hZ.fz8
 have yhZ := hZ.lt
 go_wp2
 clear z'
 refine st8 0 fun W9 tW9 => ?_
 replace HB := tW9.hc HB; replace hZ := tW9.all8 hZ; have gRW9 := tW9.gr; have szW9 := tW9.sz; replace O0 := O0.keptS tW9 neO0; replace O1 := O1.keptS tW9 neO1; replace O2 := O2.keptS tW9 neO2; replace O3 := O3.keptS tW9 neO3; replace O4 := O4.keptS tW9 neO4; have z' := hZ.cs8
 exact brt ⟨rs, qs, tu, se, sp, ws, sh, os, D0, d0, D1, d1, D2, d2, D3, d3, D4, d4, rfl, hl0, HRN.out, hl1, hl2, hl3, hl4, ⟨O0, O1, O2, O3, O4⟩, HB⟩ (by simp [results, Tryz.results16, go_sem, z'])
theorem drawPendName_is (A : Option Addr) (c : Nat) (cs : List UInt8) (hcs : cs.length ≤ 1048576) (w : World) (hR : Rds 1 u8C w A cs) :
 Calls Tryz.prog 18 #[.slice A cs.length c] w fun e w' => ∃ (rs : List Rul) (qs : List Que) (tu se sp : Int) (ws : List Int) (sh : List Sha) (os : List Out) (D0 : Option Addr) (d0 : Nat) (D1 : Option Addr) (d1 : Nat) (D2 : Option Addr) (d2 : Nat) (D3 : Option Addr) (d3 : Nat) (D4 : Option Addr) (d4 : Nat), e = .returned (.agg #[.slice D0 rs.length d0, .slice D1 qs.length d1, .int .i64 tu, .int .i64 se, .int .i64 sp, .slice D2 ws.length d2, .slice D3 sh.length d3, .slice D4 os.length d4]) ∧ rs.length ≤ 12 ∧ (∀ t ∈ rs, t.name.size ≤ 12) ∧ qs.length ≤ 7 ∧ ws.length ≤ 60 ∧ sh.length ≤ 99 ∧ os.length ≤ 30 ∧ MeO w.heap.size w' D0 d0 D1 d1 D2 d2 D3 d3 D4 d4 rs qs ws sh os ∧ Below w.heap.size w w' := by
 go_in
 go_upto_region 1 with fail
 refine lay1 fun wX hq1 hZ => ?_
 have HB := hq1; have z' := hZ.cs8; have szw := HB.size
 go_wp2_with fail
 refine (drawMeeting_is A c cs hcs _ (hR.below (bth HB bel))).mono ?_
 rintro e w2 ⟨rs, qs, tu, se, sp, ws, sh, os, D0, d0, D1, d1, D2, d2, D3, d3, D4, d4, rfl, hl0, hrn, hl1, hl2, hl3, hl4, OO, hb2⟩
 have hq2 := be wX hb2; replace HB := bth HB hq2; replace hZ := hZ.to hq2; clear z'; have z' := hZ.cs8; replace OO := OO.base (B' := w.heap.size) szw; have HRN := lh hrn; clear hrn hR; have O0 := OO.o0; have O1 := OO.o1; have O2 := OO.o2; have O3 := OO.o3; have O4 := OO.o4; clear OO; have neO0 := O0.nb hZ; have neO1 := O1.nb hZ; have neO2 := O2.nb hZ; have neO3 := O3.nb hZ; have neO4 := O4.nb hZ; have fhZ' := hZ.fz8
 have yhZ := hZ.lt
 go_wp2
 clear z'
 refine st8 0 fun W9 tW9 => ?_
 replace HB := tW9.hc HB; replace hZ := tW9.all8 hZ; have gRW9 := tW9.gr; have szW9 := tW9.sz; replace O0 := O0.keptS tW9 neO0; replace O1 := O1.keptS tW9 neO1; replace O2 := O2.keptS tW9 neO2; replace O3 := O3.keptS tW9 neO3; replace O4 := O4.keptS tW9 neO4; have z' := hZ.cs8
 exact brt ⟨rs, qs, tu, se, sp, ws, sh, os, D0, d0, D1, d1, D2, d2, D3, d3, D4, d4, rfl, hl0, HRN.out, hl1, hl2, hl3, hl4, ⟨O0, O1, O2, O3, O4⟩, HB⟩ (by simp [results, Tryz.results18, go_sem, z'])
theorem drawNewMeeting_is (A : Option Addr) (c : Nat) (cs : List UInt8) (hcs : cs.length ≤ 1048576) (w : World) (hR : Rds 1 u8C w A cs) :
 Calls Tryz.prog 21 #[.slice A cs.length c] w fun e w' => ∃ (rs : List Rul) (g y : Nat) (tu se : Int), e = .returned (.tuple #[.slice (some ⟨g, 0, none⟩) rs.length y, .int .i64 tu, .int .i64 se]) ∧ rs.length ≤ 12 ∧ (∀ t ∈ rs, t.name.size ≤ 12) ∧ OwnV w.heap.size 48 7 Rul.cells w' (.slice (some ⟨g, 0, none⟩) rs.length y) rs ∧ Below w.heap.size w w' := by
 go_in
 go_upto_region 2 with fail
 have hlt : ∀ ad, A = some ad → 0 < cs.length → ad.block < w.heap.size := fun ad h h0 => by
  obtain ⟨b, off, h1, h2, _⟩ := hR h0
  rw [h1] at h; cases h; exact h2
 refine lay1 fun wA hq1 hP => ?_
 have HB := hq1; have cu' := hP.cs3; have hC : Cur wA (w.heap.size) A c cs 0 := ⟨⟨0, 0, hP, by decide, by decide⟩, hR.below HB, fun ad h h0 => by have := hlt ad h h0; omega⟩
 obtain ⟨p, hpe⟩ : ∃ p, p = w.heap.size := ⟨_, rfl⟩
 rw [← hpe] at hC
 obtain ⟨n0, hn0⟩ : ∃ n : Nat, n ≤ 0 := ⟨0, Nat.le_refl _⟩
 replace hC : Cur wA p A c cs n0 := hC.mono (Nat.zero_le _)
 simp only [← hpe]
 clear  cu'; have hp := hC.lt; have HG := grown_refl w (some p); replace HG : w.grownBy wA (some p) := bgr HB _; have szw : w.heap.size ≤ wA.heap.size := HB.size
 have hwp : w.heap.size ≤ p := by omega
 clear hR hlt hP HB hpe
 go_wp2_with fail
 refine (ladder_is p A c cs hcs n0 (by omega) _ (hC.later bel)).mono ?_
 rintro e w1 ⟨rs, g, y, rfl, hl0, hrn, OR, hS1⟩
 have hg1 : wA.grownBy w1 (some p) := grown_tr (bgr bel _) hS1.2; replace hC := hS1.1; have sz1 := hg1.size; replace HG := grown_tr HG hg1; have HRN := lh hrn; clear hrn; replace OR := OR.base (B' := wA.heap.size) (by omega)
 go_wp2_with fail
 refine (amongL [1, 2, 3, 4, 0] (0) 4 (by decide) (by decide) (by decide) p A c cs hcs (n0 + 700) (by omega) w1 (hC.later (bl0 _))).mono ?_
 rintro e w2 ⟨tu, rfl, hbtu, hS2⟩
 have hg2 : w1.grownBy w2 (some p) := grown_tr (bgr bel _) hS2.2; replace hC := hS2.1; have sz2 := hg2.size; replace HG := grown_tr HG hg2; replace OR := OR.kept hg2 (fun k hk e => by have h1 := (OR.lt k hk); have h2 : k = p := (Option.some.inj e); omega)
 go_wp2_with fail
 refine (amongL [60, 3600, 1, 3601, 0] (0) 3601 (by decide) (by decide) (by decide) p A c cs hcs (n0 + 702) (by omega) w2 (hC.later (bl0 _))).mono ?_
 rintro e w3 ⟨se, rfl, hbse, hS3⟩
 have hg3 : w2.grownBy w3 (some p) := grown_tr (bgr bel _) hS3.2; replace hC := hS3.1; have sz3 := hg3.size; replace HG := grown_tr HG hg3; replace OR := OR.kept hg3 (fun k hk e => by have h1 := (OR.lt k hk); have h2 : k = p := (Option.some.inj e); omega)
 go_wp2
 exact brt ⟨rs, g, y, tu, se, rfl, hl0, HRN.out, OR.base (by omega), grown_below HG (Nat.le_refl _) (fun k hk => by cases hk; omega)⟩ (by simp [results, Tryz.results21, go_sem])
theorem drawMakeAct_is (A : Option Addr) (c : Nat) (cs : List UInt8) (hcs : cs.length ≤ 1048576) (w : World) (hR : Rds 1 u8C w A cs) :
 Calls Tryz.prog 8 #[.slice A cs.length c] w fun e w' => ∃ (rs : List Rul) (qs : List Que) (tu se sp : Int) (ws : List Int) (sh : List Sha) (os : List Out) (D0 : Option Addr) (d0 : Nat) (D1 : Option Addr) (d1 : Nat) (D2 : Option Addr) (d2 : Nat) (D3 : Option Addr) (d3 : Nat) (D4 : Option Addr) (d4 : Nat) (kd me vl ye no ab : Int), e = .returned (.tuple #[.agg #[.slice D0 rs.length d0, .slice D1 qs.length d1, .int .i64 tu, .int .i64 se, .int .i64 sp, .slice D2 ws.length d2, .slice D3 sh.length d3, .slice D4 os.length d4], .agg #[.int .i64 kd, .int .i64 me, .int .i64 vl, .int .i64 ye, .int .i64 no, .int .i64 ab]]) ∧ rs.length ≤ 12 ∧ (∀ t ∈ rs, t.name.size ≤ 12) ∧ qs.length ≤ 7 ∧ ws.length ≤ 60 ∧ sh.length ≤ 99 ∧ os.length ≤ 30 ∧ MeO w.heap.size w' D0 d0 D1 d1 D2 d2 D3 d3 D4 d4 rs qs ws sh os ∧ Below w.heap.size w w' := by
 go_in
 go_upto_region 2 with fail
 have hlt : ∀ ad, A = some ad → 0 < cs.length → ad.block < w.heap.size := fun ad h h0 => by
  obtain ⟨b, off, h1, h2, _⟩ := hR h0
  rw [h1] at h; cases h; exact h2
 refine lay3 fun wA hq1 hZ hY hP => ?_
 have HB := hq1; have z' := hZ.cs8; have y' := hY.cs6; have cu' := hP.cs3; have hC : Cur wA (w.heap.size + 1 + 1) A c cs 0 := ⟨⟨0, 0, hP, by decide, by decide⟩, hR.below HB, fun ad h h0 => by have := hlt ad h h0; omega⟩
 obtain ⟨p, hpe⟩ : ∃ p, p = w.heap.size + 1 + 1 := ⟨_, rfl⟩
 rw [← hpe] at hC
 obtain ⟨n0, hn0⟩ : ∃ n : Nat, n ≤ 0 := ⟨0, Nat.le_refl _⟩
 replace hC : Cur wA p A c cs n0 := hC.mono (Nat.zero_le _)
 simp only [← hpe]
 clear z' y' cu'; have hp := hC.lt; have HG := grown_refl w (some p); replace HG : w.grownBy wA (some p) := bgr HB _; have szw : w.heap.size ≤ wA.heap.size := HB.size
 have hwp : w.heap.size ≤ p := by omega
 have hwp1 : w.heap.size < p := by omega
 have hwp2 : w.heap.size + 1 < p := by omega
 clear hR hlt hP HB hpe; have z' := hZ.cs8; have y' := hY.cs6
 go_wp2_with fail
 refine (meeting_is p A c cs hcs n0 (by omega) _ (hC.later bel)).mono ?_
 rintro e w1 ⟨rs, qs, tu, se, sp, ws, sh, os, D0, d0, D1, d1, D2, d2, D3, d3, D4, d4, rfl, hl0, hrn, hl1, hl2, hl3, hl4, OO, hS1⟩
 clear z'; clear y'; have hg1 : wA.grownBy w1 (some p) := grown_tr (bgr bel _) hS1.2; replace hC := hS1.1; have sz1 := hg1.size; replace HG := grown_tr HG hg1; replace hZ := hZ.grownB hg1 (by omega); replace hY := hY.grownB hg1 (by omega); have z' := hZ.cs8; have y' := hY.cs6; replace OO := OO.base (B' := wA.heap.size) (by omega); have HRN := lh hrn; clear hrn
 go_upto_region 3 with fail
 obtain ⟨mb, hmb⟩ : ∃ b, b = w1.heap.size := ⟨_, rfl⟩
 have hmw : p < mb := by have := hC.lt; omega
 replace OO := OO.later (bl1 w1 (.cells #[.slice D0 rs.length d0, .slice D1 qs.length d1, .int .i64 tu, .int .i64 se, .int .i64 sp, .slice D2 ws.length d2, .slice D3 sh.length d3, .slice D4 os.length d4] 32)); have hb2 : Below w1.heap.size w1 (World.alloc w1 (.cells #[.slice D0 rs.length d0, .slice D1 qs.length d1, .int .i64 tu, .int .i64 se, .int .i64 sp, .slice D2 ws.length d2, .slice D3 sh.length d3, .slice D4 os.length d4] 32)) := bl1 w1 _
 have hM : Blk (World.alloc w1 (.cells #[.slice D0 rs.length d0, .slice D1 qs.length d1, .int .i64 tu, .int .i64 se, .int .i64 sp, .slice D2 ws.length d2, .slice D3 sh.length d3, .slice D4 os.length d4] 32)) (w1.heap.size) 32 #[.slice D0 rs.length d0, .slice D1 qs.length d1, .int .i64 tu, .int .i64 se, .int .i64 sp, .slice D2 ws.length d2, .slice D3 sh.length d3, .slice D4 os.length d4] := by repeat (first | exact Blk.new _ _ _ | exact Blk.new2 _ _ _ _ | exact Blk.new3 _ _ _ _ _ | exact Blk.new4 _ _ _ _ _ _ | refine Blk.alloc ?_ _)
 generalize World.alloc w1 (.cells #[.slice D0 rs.length d0, .slice D1 qs.length d1, .int .i64 tu, .int .i64 se, .int .i64 sp, .slice D2 ws.length d2, .slice D3 sh.length d3, .slice D4 os.length d4] 32) = wM at *
 replace hC := hC.later hb2; replace HG := grown_tr HG (bgr hb2 (some p)); clear z'; replace hZ := hZ.grownB (bgr hb2 (some p)) (by omega); have z' := hZ.cs8; clear y'; replace hY := hY.grownB (bgr hb2 (some p)) (by omega); have y' := hY.cs6; have sz2 := hb2.size; have LhM := hM.lt
 obtain ⟨x0, x1, x2, x3, x4, x5, x6, x7⟩ := hM.cs8
 rw [← hmb] at hM x0 x1 x2 x3 x4 x5 x6 x7
 rw [← hmb]
 clear hmb x0 x1 x2 x3 x4 x5 x6 x7
 obtain ⟨CC, hCC⟩ : ∃ X : World → Prop, ∀ V, X V ↔ Blk V mb 32 #[.slice D0 rs.length d0, .slice D1 qs.length d1, .int .i64 tu, .int .i64 se, .int .i64 sp, .slice D2 ws.length d2, .slice D3 sh.length d3, .slice D4 os.length d4] := ⟨_, fun _ => Iff.rfl⟩
 have HCC := lh hCC; clear hCC
 refine wp_region_mixh CC [([0, 1, 2], 3), ([], 4), ([], 5)] [] (by kernel_rfl) (by kernel_rfl) ((HCC.out _).2 hM) ?_
 replace OO := OO.later (Below.refl wM.heap.size wM).drew
 haveI : Nonempty (Hld CC) := ⟨⟨_, (HCC.out _).2 hM⟩⟩
 replace hM : Blk wM.drew mb 32 #[.slice D0 rs.length d0, .slice D1 qs.length d1, .int .i64 tu, .int .i64 se, .int .i64 sp, .slice D2 ws.length d2, .slice D3 sh.length d3, .slice D4 os.length d4] := hM; replace hC := hC.later (Below.refl _ _).drew; replace HG := grown_tr HG (bgr (Below.refl wM.heap.size wM).drew (some p)); clear z'; replace hZ : Blk wM.drew (w.heap.size) 32 #[.slice none 0 0, .slice none 0 0, .int .i64 0, .int .i64 0, .int .i64 0, .slice none 0 0, .slice none 0 0, .slice none 0 0] := hZ
 clear y'; replace hY : Blk wM.drew (w.heap.size + 1) 36 #[.int .i64 0, .int .i64 0, .int .i64 0, .int .i64 0, .int .i64 0, .int .i64 0] := hY; have szd : wM.drew.heap.size = wM.heap.size := rfl
 generalize wM.drew = wd at *
 have z' := hZ.cs8; have y' := hY.cs6
 have szd2 : wA.heap.size ≤ wd.heap.size := by omega
 clear szd
 obtain ⟨x0, x1, x2, x3, x4, x5, x6, x7⟩ := Blk.cs8K (fun K : Hld CC => (HCC.out _).1 K.holds)
 refine wpMix_cons fun K2 hK2 => ?_
 change wpQuiet _ _ _ _ (_ :: _ :: _ :: []) _
 repeat (go_big_quiet_step (fail))
 refine wpQuiet_nil ?_
 change wpList _ _ _ (_ :: []) _ _
 have HMA : MeAp p D0 D1 rs qs := ⟨own_ne OO.o0 hp, own_ne OO.o1 hp⟩
 go_wp2_with fail
 refine (act_is D0 D1 D2 D3 D4 d0 d1 d2 d3 d4 rs qs tu se sp ws sh os (by omega) (by omega) p A c cs hcs (n0 + 2600) (by omega) _ (hC.later bel) (OO.o0.rds rul_len) (OO.o1.rds que_len) HMA).mono ?_
 rintro e w3 ⟨kd, me, vl, ye, no, ab, rfl, hS3⟩
 clear z'; clear y'; have hg3 : wd.grownBy w3 (some p) := grown_tr (bgr bel _) hS3.2; replace hC := hS3.1; have sz3 := hg3.size; replace HG := grown_tr HG hg3; replace hZ := hZ.grownB hg3 (by omega); replace hY := hY.grownB hg3 (by omega); have z' := hZ.cs8; have y' := hY.cs6; replace hM := hM.grownB hg3 (by omega); replace OO := OO.cur hp hg3; clear HMA
 go_wp2
 refine Nrm_intro ((HCC.out _).2 hM) (hK2 _ _ ?_)
 clear x0 x1 x2 x3 x4 x5 x6 x7
 obtain ⟨x0, x1, x2, x3, x4, x5, x6, x7⟩ := hM.cs8
 have OZ := lh OO; have HZB := lh hZ; clear OO hC
 refine wpMix_cons fun K2 hK2 => ?_
 change wpQuiet _ _ _ _ ([]) _
 refine wpQuiet_nil ?_
 change wpList _ _ _ (_ :: []) _ _
 have fhZ' := hZ.fz8; have yhZ := hZ.lt; have yhY := hY.lt; have yhM := hM.lt
 go_wp2
 clear z' y' x0 x1 x2 x3 x4 x5 x6 x7
 refine st8 0 fun W8 tW8 => ?_
 replace HG := stG tW8 HG; have gRZ := tW8.gr; replace hZ := tW8.all8 hZ; replace hY := tW8.fa hY; replace hM := tW8.fa hM; have z' := hZ.cs8; have y' := hY.cs6
 obtain ⟨x0, x1, x2, x3, x4, x5, x6, x7⟩ := hM.cs8
 have OO := OZ.out.keptM HZB.out gRZ
 refine Nrm_intro ((HCC.out _).2 hM) (hK2 _ _ ?_)
 have OZ2 := lh OO; have HYB := lh hY; clear OO OZ HZB gRZ
 refine wpMix_cons fun K2 hK2 => ?_
 change wpQuiet _ _ _ _ ([]) _
 refine wpQuiet_nil ?_
 change wpList _ _ _ (_ :: []) _ _
 have fhY' := hY.fz6; have yhZ := hZ.lt; have yhY := hY.lt; have yhM := hM.lt
 go_wp2
 clear z' y' x0 x1 x2 x3 x4 x5 x6 x7
 refine st6 0 fun W9 tW9 => ?_
 replace HG := stG tW9 HG; have gRZ := tW9.gr; replace hZ := tW9.fa hZ; replace hY := tW9.all6 hY; replace hM := tW9.fa hM; have z' := hZ.cs8; have y' := hY.cs6
 obtain ⟨x0, x1, x2, x3, x4, x5, x6, x7⟩ := hM.cs8
 have OO := OZ2.out.keptY HYB.out gRZ
 refine Nrm_intro ((HCC.out _).2 hM) (hK2 _ _ ?_)
 refine wpMix_last ?_
 change wpQuiet _ _ _ _ ([]) _
 refine wpQuiet_nil ?_
 go_wp2
 exact brt ⟨rs, qs, tu, se, sp, ws, sh, os, D0, d0, D1, d1, D2, d2, D3, d3, D4, d4, kd, me, vl, ye, no, ab, rfl, hl0, HRN.out, hl1, hl2, hl3, hl4, OO.base (by omega), grown_below HG (Nat.le_refl _) (fun k hk => by cases hk; omega)⟩ (by simp [results, Tryz.results8, go_sem, z', y'])
open Go.RowKit Go.G9
theorem vMeetZ_is (w : World) : Calls Tryz.prog 11 #[.agg #[.slice none 0 0, .slice none 0 0, .int .i64 0, .int .i64 0, .int .i64 0, .slice none 0 0, .slice none 0 0, .slice none 0 0], .agg #[.slice none 0 0, .slice none 0 0, .int .i64 0, .int .i64 0, .int .i64 0, .slice none 0 0, .slice none 0 0, .slice none 0 0]] w fun e w' => e = .returned (.bool true) ∧ Below w.heap.size w w' :=
 vMeeting_is [] [] 0 0 0 [] [] [] none none none none none 0 0 0 0 0 none none none none none 0 0 0 0 0 (by simp) (by simp) (by simp) (by simp) (by simp) w ⟨Rds.nil, Rds.nil, Rds.nil, Rds.nil, Rds.nil⟩ ⟨Rds.nil, Rds.nil, Rds.nil, Rds.nil, Rds.nil⟩
theorem isAdoptedM_is (need y n a : Int) (hd : inB need 1 3 = true) (ht : tallyB y n a = true) (v : Bool) (hv : adoB need y n = v) (w : World) : Calls Tryz.prog 14 #[.int .i64 need, .agg #[.int .i64 y, .int .i64 n, .int .i64 a]] w fun e w' => e = .returned (.tuple #[.bool v, .bool true]) ∧ Below w.heap.size w w' := by
 have HV := lh hv; clear hv
 have hy : 0 ≤ y ∧ y ≤ 1000 ∧ 0 ≤ n ∧ n ≤ 1000 := by
  have := ht
  simp only [tallyB, Bool.and_eq_true, inB_iff] at this
  omega
 go_in
 go_upto_region 1 with fail
 refine lay1 fun wX hq1 hX => ?_
 have HB := hq1; have x' := hX.cs3
 go_wp2_with fail
 refine (isNeed_is need _ hd _).mono ?_
 rintro e w0 ⟨rfl, h0⟩
 rw [h0]
 clear h0 w0
 go_wp2_with fail
 refine (isValidTally_is y n a true ht _).mono ?_
 rintro e w2 ⟨rfl, hb2⟩
 have hq2 := be wX hb2; replace HB := bth HB hq2; replace hX := hX.to hq2; clear x'; have x' := hX.cs3
 go_wp2_with fail
 refine (isAdopted_is need y n (by omega) (by omega) (by omega) (by omega) v HV.out _).mono ?_
 rintro e w0 ⟨rfl, h0⟩
 rw [h0]
 clear h0 w0
 go_wp2
 go_ret2
 exact ⟨rfl, (bth HB bel)⟩
theorem law_meetings (A : Option Addr) (c : Nat) (cs : List UInt8) (w : World) (hR : Rds 1 u8C w A cs) :
 Calls Tryz.prog 3 #[.slice A cs.length c] w fun e w' => e = .returned (.bool true) ∧ Below w.heap.size w w' := by
 by_cases hbig : 65536 < cs.length
 ·go_in
  go_wp2_with fail
  refine (vBig_is A c cs.length _ (decide_eq_true hbig) _).mono ?_
  rintro e w0 ⟨rfl, h0⟩
  rw [h0]
  clear h0 w0
  go_wp2
  go_ret
  exact ⟨rfl, Below.refl _ _⟩
 have hcs : cs.length ≤ 1048576 := by omega
 have HBG := lh (decide_eq_false hbig); have HR := lh hR; clear hR hbig
 go_in
 go_wp2_with fail
 refine (vBig_is A c cs.length _ HBG.out _).mono ?_
 rintro e w0 ⟨rfl, h0⟩
 rw [h0]
 clear h0 w0
 go_wp2_with fail
 refine (drawMakeAct_is A c cs hcs _ HR.out).mono ?_
 rintro e w1 ⟨rs, qs, tu, se, sp, ws, sh, os, D0, d0, D1, d1, D2, d2, D3, d3, D4, d4, kd, me, vl, ye, no, ab, rfl, hl0, hrn, hl1, hl2, hl3, hl4, OO, hb1⟩
 have hq1 := be w hb1; have HB : Below w.heap.size w w1 := hq1; clear hrn; have RM := OO.rd; have HZ := lh (OO.inp (by omega) (by omega) (by omega) (by omega) (by omega)); have HOM := lh OO; clear OO
 go_upto_region 4 with fail
 refine lay2 fun wM hq2 hM hA => ?_
 replace RM := RM.below hq2; replace HB := bth HB hq2; have x' := hM.cs8; have a' := hA.cs6; have HI := lh (fun W (h : MeR W D0 D1 D2 D3 D4 rs qs ws sh os) => iMake_is D0 D1 D2 D3 D4 d0 d1 d2 d3 d4 rs qs tu se sp ws sh os HZ.out kd me vl ye no ab W h); have HS := lh (fun W (h : MeR W D0 D1 D2 D3 D4 rs qs ws sh os) => sMake_is D0 D1 D2 D3 D4 d0 d1 d2 d3 d4 rs qs tu se sp ws sh os HZ.out kd me vl ye no ab W h)
 have HVI := lh (fun v (hv : meetP rs qs tu se sp ws sh os = v) W (h : MeR W D0 D1 D2 D3 D4 rs qs ws sh os) => iMeet_is rs qs tu se sp ws sh os D0 D1 D2 D3 D4 d0 d1 d2 d3 d4 HZ.out.h0 HZ.out.h1 HZ.out.h2 HZ.out.h3 HZ.out.h4 v hv W h.r0 h.r1 h.r2 h.r3 h.r4 HZ.out.k0 HZ.out.k2); have HVS := lh (fun v (hv : meetP rs qs tu se sp ws sh os = v) W (h : MeR W D0 D1 D2 D3 D4 rs qs ws sh os) => sIsValidMeeting_is ⟨rs, qs, tu, se, sp, ws, sh, os⟩ D0 D1 D2 D3 D4 d0 d1 d2 d3 d4 HZ.out.h0 HZ.out.h1 HZ.out.h2 HZ.out.h3 HZ.out.h4 v hv W h.r0 h.r1 h.r2 h.r3 h.r4 HZ.out.k0 HZ.out.k1 HZ.out.k2 HZ.out.k3 HZ.out.k4)
 obtain ⟨o, ho⟩ : ∃ o, (if meetB ⟨rs, qs, tu, se, sp, ws, sh, os⟩ = true then mkA ⟨rs, qs, tu, se, sp, ws, sh, os⟩ ⟨kd, me, vl, ye, no, ab⟩ else none) = o := ⟨_, rfl⟩
 rw [ho] at HI HS
 have HO := lh ho
 obtain ⟨bv, hbv⟩ : ∃ b, meetP rs qs tu se sp ws sh os = b := ⟨_, rfl⟩
 have HBV := lh hbv; have hbb : (bv == bv) = true := beq_self_eq_true bv
 have hnb : (!(bv == bv)) = false := by simp
 clear ho hbv
 cases o
 case' none =>
  go_wp2_with fail
  refine (HI.out _ (RM.below bel)).mono ?_
  rintro e w3 ⟨rfl, hb3⟩
  have hq3 := be wM hb3; replace HB := bth HB hq3; replace RM := RM.below hq3; replace hM := hM.to hq3; clear x'; have x' := hM.cs8; replace hA := hA.to hq3; clear a'; have a' := hA.cs6
  go_upto_region 5 with fail
  refine lay1 fun wN hq4 hN => ?_
  replace RM := RM.below hq4; replace HB := bth HB hq4; have n' := hN.cs8; clear x'; replace hM := hM.to hq4; have x' := hM.cs8; clear a'; replace hA := hA.to hq4; have a' := hA.cs6
  go_wp2_with fail
  refine (HS.out _ (RM.below bel)).mono ?_
  rintro e w5 ⟨rfl, hb5⟩
  have hq5 := be wN hb5; replace HB := bth HB hq5; replace RM := RM.below hq5; replace hM := hM.to hq5; clear x'; have x' := hM.cs8; replace hA := hA.to hq5; clear a'; have a' := hA.cs6; replace hN := hN.to hq5; clear n'; have n' := hN.cs8
  go_upto_region 6 with fail
  refine lay1 fun wO hq6 hO => ?_
  replace RM := RM.below hq6; replace HB := bth HB hq6
  obtain ⟨o0, o1, o2, o3, o4, o5, o6, o7⟩ := hO.cs8
  clear x'; replace hM := hM.to hq6; have x' := hM.cs8; clear a'; replace hA := hA.to hq6; have a' := hA.cs6; clear n'; replace hN := hN.to hq6; have n' := hN.cs8; clear x'; have x' := Blk.cs8K (fun K : Kin wO.heap.size wO => (hM.below K.below hM.lt)); clear a'; have a' := Blk.cs6K (fun K : Kin wO.heap.size wO => (hA.below K.below hA.lt)); clear n'; have n' := Blk.cs8K (fun K : Kin wO.heap.size wO => (hN.below K.below hN.lt))
  clear o0 o1 o2 o3 o4 o5 o6 o7
  obtain ⟨o0, o1, o2, o3, o4, o5, o6, o7⟩ := Blk.cs8K (fun K : Kin wO.heap.size wO => (hO.below K.below hO.lt))
  refine wp_region_kin (by kernel_rfl) (by kernel_rfl) ?_
  repeat (go_big_quiet_step ((first | first | (go_at_call 11; exact Kin.call _ (by first | exact Nat.le_refl _ | omega) (vMeetZ_is _)) | (go_at_call 12; exact Kin.call _ (by first | exact Nat.le_refl _ | omega) (HVI.out bv HBV.out _ (RM.below (Kin.below _)))) | (go_at_call 13; exact Kin.call _ (by first | exact Nat.le_refl _ | omega) (HVS.out bv HBV.out _ (RM.below (Kin.below _)))))))
  refine wpQuiet_nil ?_
  intro K
  clear x'; clear a'; clear n'; clear o0 o1 o2 o3 o4 o5 o6 o7; have hq7 : Below wO.heap.size wO K.world := bth bel K.below; replace HB := bth HB hq7; replace RM := RM.below hq7; replace hM := hM.to hq7; have x' := hM.cs8; replace hA := hA.to hq7; have a' := hA.cs6; replace hN := hN.to hq7; have n' := hN.cs8; replace hO := hO.to hq7
  obtain ⟨o0, o1, o2, o3, o4, o5, o6, o7⟩ := hO.cs8
  go_upto_region 24 with fail
  generalize K.world = wE at *
  clear hbb hnb x' n' o0 o1 o2 o3 o4 o5 o6 o7 a'; clear RM hM hA hN hO HI HS HVI HVS HOM HO HBV
 case' some n =>
  have hmb : meetB ⟨rs, qs, tu, se, sp, ws, sh, os⟩ = true := by
   have h := HO.out
   split at h
   ·assumption
   ·cases h
  have hkk : mkA ⟨rs, qs, tu, se, sp, ws, sh, os⟩ ⟨kd, me, vl, ye, no, ab⟩ = some n := by have h := HO.out; rw [if_pos hmb] at h; exact h
  have hbv1 : bv = true := HBV.out.symm.trans hmb
  subst hbv1
  have hmo := mee_ok.1 hmb; have hno := mkA_ok hmo hkk; have HKD := lh (mk_kind hkk); have HMB := lh hmb; have HVF := lh (fun h => vote_facts (a := ⟨kd, me, vl, ye, no, ab⟩) (n := n) hmo h); clear hkk hmb hmo
  obtain ⟨rs', qs', tu', se', sp', ws', sh', os'⟩ := n
  obtain ⟨q0, q1, q2, q3, q4⟩ : rs'.length ≤ 8 ∧ qs'.length ≤ 6 ∧ ws'.length ≤ 10 ∧ sh'.length ≤ 99 ∧ os'.length ≤ 12 := mee_len hno
  have HI2 : Hid (∀ W, MeR W D0 D1 D2 D3 D4 rs qs ws sh os → Calls Tryz.prog 9 #[.agg #[.slice D0 rs.length d0, .slice D1 qs.length d1, .int .i64 tu, .int .i64 se, .int .i64 sp, .slice D2 ws.length d2, .slice D3 sh.length d3, .slice D4 os.length d4], .agg #[.int .i64 kd, .int .i64 me, .int .i64 vl, .int .i64 ye, .int .i64 no, .int .i64 ab]] W fun e w' => ∃ (E0 : Option Addr) (e0 : Nat) (E1 : Option Addr) (e1 : Nat) (E2 : Option Addr) (e2 : Nat) (E3 : Option Addr) (e3 : Nat) (E4 : Option Addr) (e4 : Nat), e = .returned (.tuple #[.agg #[.slice E0 rs'.length e0, .slice E1 qs'.length e1, .int .i64 tu', .int .i64 se', .int .i64 sp', .slice E2 ws'.length e2, .slice E3 sh'.length e3, .slice E4 os'.length e4], .bool true]) ∧ MeO W.heap.size w' E0 e0 E1 e1 E2 e2 E3 e3 E4 e4 rs' qs' ws' sh' os' ∧ Below W.heap.size W w') := lh HI.out
  have HS2 : Hid (∀ W, MeR W D0 D1 D2 D3 D4 rs qs ws sh os → Calls Tryz.prog 10 #[.agg #[.slice D0 rs.length d0, .slice D1 qs.length d1, .int .i64 tu, .int .i64 se, .int .i64 sp, .slice D2 ws.length d2, .slice D3 sh.length d3, .slice D4 os.length d4], .agg #[.int .i64 kd, .int .i64 me, .int .i64 vl, .int .i64 ye, .int .i64 no, .int .i64 ab]] W fun e w' => ∃ (E0 : Option Addr) (e0 : Nat) (E1 : Option Addr) (e1 : Nat) (E2 : Option Addr) (e2 : Nat) (E3 : Option Addr) (e3 : Nat) (E4 : Option Addr) (e4 : Nat), e = .returned (.tuple #[.agg #[.slice E0 rs'.length e0, .slice E1 qs'.length e1, .int .i64 tu', .int .i64 se', .int .i64 sp', .slice E2 ws'.length e2, .slice E3 sh'.length e3, .slice E4 os'.length e4], .bool true]) ∧ MeO W.heap.size w' E0 e0 E1 e1 E2 e2 E3 e3 E4 e4 rs' qs' ws' sh' os' ∧ Below W.heap.size W w') := lh HS.out
  clear HI HS; have HNV := lh (meetP_ok hno); clear hno; have szI := HB.size
  go_wp2_with fail
  refine (HI2.out _ (RM.below bel)).mono ?_
  rintro e w3 ⟨E0, e0, E1, e1, E2, e2, E3, e3, E4, e4, rfl, OE, hb3⟩
  have hq3 := be wM hb3; replace HB := bth HB hq3; replace RM := RM.below hq3; replace hM := hM.to hq3; clear x'; have x' := hM.cs8; replace hA := hA.to hq3; clear a'; have a' := hA.cs6; have RE := OE.rd; have HZE := lh (OE.inp (by omega) (by omega) (by omega) (by omega) (by omega)); have HVN := lh (fun W (h : MeR W E0 E1 E2 E3 E4 rs' qs' ws' sh' os') => iMeet_is rs' qs' tu' se' sp' ws' sh' os' E0 E1 E2 E3 E4 e0 e1 e2 e3 e4 HZE.out.h0 HZE.out.h1 HZE.out.h2 HZE.out.h3 HZE.out.h4 true HNV.out W h.r0 h.r1 h.r2 h.r3 h.r4 HZE.out.k0 HZE.out.k2)
  clear OE
  go_upto_region 5 with fail
  refine lay1 fun wN hq4 hN => ?_
  replace RM := RM.below hq4; replace RE := RE.below hq4; replace HB := bth HB hq4; have n' := hN.cs8; clear x'; replace hM := hM.to hq4; have x' := hM.cs8; clear a'; replace hA := hA.to hq4; have a' := hA.cs6
  go_wp2_with fail
  refine (HS2.out _ (RM.below bel)).mono ?_
  rintro e w5 ⟨F0, f0, F1, f1, F2, f2, F3, f3, F4, f4, rfl, OF, hb5⟩
  have hq5 := be wN hb5; replace HB := bth HB hq5; replace RM := RM.below hq5; replace RE := RE.below hq5; replace hM := hM.to hq5; clear x'; have x' := hM.cs8; replace hA := hA.to hq5; clear a'; have a' := hA.cs6; replace hN := hN.to hq5; clear n'; have n' := hN.cs8; have RF := OF.rd; clear OF; have HVM := lh (fun W (h : MeR W E0 E1 E2 E3 E4 rs' qs' ws' sh' os') (h' : MeR W F0 F1 F2 F3 F4 rs' qs' ws' sh' os') => vMeeting_is rs' qs' tu' se' sp' ws' sh' os' E0 E1 E2 E3 E4 e0 e1 e2 e3 e4 F0 F1 F2 F3 F4 f0 f1 f2 f3 f4 HZE.out.h0 HZE.out.h1 HZE.out.h2 HZE.out.h3 HZE.out.h4 W h h')
  go_upto_region 6 with fail
  refine lay1 fun wO hq6 hO => ?_
  replace RM := RM.below hq6; replace RE := RE.below hq6; replace RF := RF.below hq6; replace HB := bth HB hq6
  obtain ⟨o0, o1, o2, o3, o4, o5, o6, o7⟩ := hO.cs8
  clear x'; replace hM := hM.to hq6; have x' := hM.cs8; clear a'; replace hA := hA.to hq6; have a' := hA.cs6; clear n'; replace hN := hN.to hq6; have n' := hN.cs8; clear x'; have x' := Blk.cs8K (fun K : Kin wO.heap.size wO => (hM.below K.below hM.lt)); clear a'; have a' := Blk.cs6K (fun K : Kin wO.heap.size wO => (hA.below K.below hA.lt)); clear n'; have n' := Blk.cs8K (fun K : Kin wO.heap.size wO => (hN.below K.below hN.lt))
  clear o0 o1 o2 o3 o4 o5 o6 o7
  obtain ⟨o0, o1, o2, o3, o4, o5, o6, o7⟩ := Blk.cs8K (fun K : Kin wO.heap.size wO => (hO.below K.below hO.lt))
  refine wp_region_kin (by kernel_rfl) (by kernel_rfl) ?_
  repeat (go_big_quiet_step (fail))
  go_big_quiet_step ((go_at_call 11; exact Kin.call _ (by first | exact Nat.le_refl _ | omega) (HVM.out _ (RE.below (Kin.below _)) (RF.below (Kin.below _)))))
  repeat (go_big_quiet_step (fail))
  go_big_quiet_step ((go_at_call 12; exact Kin.call _ (by first | exact Nat.le_refl _ | omega) (HVI.out true HBV.out _ (RM.below (Kin.below _)))))
  repeat (go_big_quiet_step (fail))
  go_big_quiet_step ((go_at_call 13; exact Kin.call _ (by first | exact Nat.le_refl _ | omega) (HVS.out true HBV.out _ (RM.below (Kin.below _)))))
  repeat (go_big_quiet_step (fail))
  go_big_quiet_step ((go_at_call 12; exact Kin.call _ (by first | exact Nat.le_refl _ | omega) (HVN.out _ (RE.below (Kin.below _)))))
  repeat (go_big_quiet_step (fail))
  refine wpQuiet_nil ?_
  intro K
  clear x'; clear a'; clear n'; clear o0 o1 o2 o3 o4 o5 o6 o7; have hq7 : Below wO.heap.size wO K.world := bth bel K.below; replace HB := bth HB hq7; replace RM := RM.below hq7; replace RE := RE.below hq7; replace RF := RF.below hq7; replace hM := hM.to hq7; have x' := hM.cs8; replace hA := hA.to hq7; have a' := hA.cs6; replace hN := hN.to hq7; have n' := hN.cs8; replace hO := hO.to hq7
  obtain ⟨o0, o1, o2, o3, o4, o5, o6, o7⟩ := hO.cs8
  clear RF HI2 HS2 HVI HVS HVM HVN HO HBV hO o0 o1 o2 o3 o4 o5 o6 o7
  generalize K.world = wK at *
  clear x' n' a'; have x' := hM.cs8; have a' := hA.cs6; have n' := hN.cs8
  rcases HKD.out with ⟨hk, hd, hos⟩ | ⟨hk, hsp, hv⟩ | ⟨hk, hos⟩
  case' inl =>
   have hos1 : os' = os := hos; have hos2 := hos1.symm
   subst hos2
   have hk1 : kd = 3 := hk
   subst hk1
   have hg1 : decide ((os.length : Int) < (os.length : Int)) = false := by simp
   have hmd : mbOut ⟨rs, qs, tu, se, sp, ws, sh, os⟩ = .tuple #[.bool true, .bool true] := by
    have h1 : debB rs qs = true := hd
    have h2 : meetB ⟨rs, qs, tu, se, sp, ws, sh, os⟩ = true := by
     exact HMB.out
    simp [mbOut, h1, h2]
   clear hos1 hk hd
   go_wp2_with fail
   refine (iIsDebatable_is ⟨rs, qs, tu, se, sp, ws, sh, os⟩ D0 D1 D2 D3 D4 d0 d1 d2 d3 d4 HZ.out.h0 HZ.out.h1 HZ.out.h2 HZ.out.h3 HZ.out.h4 _ hmd _ ((RM.below bel)).r0 ((RM.below bel)).r1 ((RM.below bel)).r2 ((RM.below bel)).r3 ((RM.below bel)).r4 HZ.out.k0 HZ.out.k1 HZ.out.k2 HZ.out.k3 HZ.out.k4).mono ?_
   rintro e w8 ⟨rfl, hb8⟩
   have hq8 := be wK hb8; replace HB := bth HB hq8; replace RM := RM.below hq8; replace RE := RE.below hq8; replace hM := hM.to hq8; clear x'; have x' := hM.cs8; replace hA := hA.to hq8; clear a'; have a' := hA.cs6; replace hN := hN.to hq8; clear n'; have n' := hN.cs8
   go_upto_region 24 with fail
   generalize w8 = wE at *
   clear hg1 hmd x' n' a'; clear RM RE hM hA hN HOM HNV HKD HVF HZE
  case' inr.inr =>
   have hos1 : os' = os := hos; have hos2 := hos1.symm
   subst hos2
   have hk3 : (kd == 3) = false := beq_eq_false_iff_ne.2 hk
   have hg1 : decide ((os.length : Int) < (os.length : Int)) = false := by simp
   clear hos1 hk
   go_upto_region 24 with fail
   generalize wK = wE at *
   clear hg1 hk3 x' n' a'; clear RM RE hM hA hN HOM HNV HKD HVF HZE
  case' inr.inl =>
   have hk1 : kd = 7 := hk
   subst hk1
   have hs1 : sp = 0 := hsp
   subst hs1
   obtain ⟨j, q, i0, r, VF, ht, hn⟩ := HVF.out hv
   simp only [Mee.withO, Mee.mk.injEq] at hn VF
   obtain ⟨_, _, _, _, _, _, hsh, hos⟩ := hn
   subst hsh
   obtain ⟨ad, had⟩ : ∃ b, adoB r.need ye no = b := ⟨_, rfl⟩
   rw [had] at hos
   have HAD := lh had; have HT := lh ht; have HF := lh VF
   have hl : os'.length = os.length + 1 := by rw [hos]; simp
   have hlast : os'[os.length]? = some ⟨q.rule, q.mover, ad⟩ := by rw [hos]; simp
   have hlt1 : os.length < os'.length := by omega
   have hjq := VF.len; have hlast2 := VF.last
   have hj1 : j < qs.length := by omega
   clear hos had ht VF hv hk hsp HKD HVF
   obtain ⟨qr, qm, qd⟩ := q
   obtain ⟨id, nm, rk, sd, de, am, nd, hs⟩ := r
   simp only at hlast HAD
   obtain ⟨b4, f4, y4, rfl, hb4, hx4, hc4⟩ := RE.r4.at_ (Below.refl _ _) hlt1
   obtain rfl := Option.some.inj (hlast.symm.trans hx4)
   obtain ⟨b1, f1, y1, rfl, hb1, hx1, hc1⟩ := RM.r1.at_ (Below.refl _ _) hj1
   obtain rfl := Option.some.inj (hlast2.symm.trans hx1)
   have hi0 : i0 < rs.length := (List.getElem?_eq_some_iff.1 HF.out.rul).1
   obtain ⟨b0, f0, y0, rfl, hb0, hx0, hc0⟩ := RM.r0.at_ (Below.refl _ _) hi0
   have s0 := hc4 0 _ rfl (Kin.self _); have s1 := hc4 1 _ rfl (Kin.self _); have s2 := hc4 2 _ rfl (Kin.self _); have r0 := hc1 0 _ rfl; have r1 := hc1 1 _ rfl; have r2 := hc1 2 _ rfl
   simp only [Nat.add_zero, Kin.self] at s0 s1 s2 r0
   have hjq := HF.out.len; have hgt : decide ((os.length : Int) < (os.length : Int) + 1) = true := decide_eq_true (by omega); clear hx4 hc4 hx1 hc1 hlast hlast2 hlt1 hj1 hx0 hc0; clear x' n'; have x' := hM.cs8; have n' := hN.cs8
   go_upto_region 10 with fail
   have t0 := fun (W : World) (h : Below wK.heap.size wK W) => r0 ⟨W, h⟩; have t1 := fun (W : World) (h : Below wK.heap.size wK W) => r1 ⟨W, h⟩; have t2 := fun (W : World) (h : Below wK.heap.size wK W) => r2 ⟨W, h⟩
   clear r0 r1 r2
   refine lay1 fun wP hq8 hP => ?_
   replace RM := RM.below hq8; replace RE := RE.below hq8; replace HB := bth HB hq8; have pp' := hP.cs3; clear a'; replace hA := hA.to hq8; have a' := hA.cs6; clear x'; replace hM := hM.to hq8; have x' := hM.cs8; clear n'; replace hN := hN.to hq8; have n' := hN.cs8; replace t0 := t0 wP hq8; replace t1 := t1 wP hq8; replace t2 := t2 wP hq8
   simp only at t0 t1 t2
   go_upto_region 11 with fail
   clear t0 t1 t2 s0 s1 s2 hgt hjq hl
   refine lay1 fun wQ hq9 hQ => ?_
   replace RM := RM.below hq9; replace RE := RE.below hq9; replace HB := bth HB hq9; have qq' := hQ.cs3; clear a'; replace hA := hA.to hq9; have a' := hA.cs6; clear x'; replace hM := hM.to hq9; have x' := hM.cs8; clear n'; replace hN := hN.to hq9; have n' := hN.cs8; clear pp'; replace hP := hP.to hq9; have pp' := hP.cs3; have HM9 := lh hM; have HA9 := lh hA; have HN9 := lh hN; have HP9 := lh hP; have HQ9 := lh hQ
   have HRM := lh RM; have HRE := lh RE; have HBQ := lh HB; clear hM hA hN hP hQ RM RE HB x' n' a' pp' qq'
   go_wp2
   go_loopw [11, 12] (fun v i wr => ∃ (k : Nat) (nv : Int), k ≤ rs.length ∧ i = .int .i64 (k : Int) ∧ v = .int .i64 nv ∧ Hid (nv = if k ≤ i0 then 0 else nd) ∧ Below wQ.heap.size wQ wr) (fun _ i _ => rs.length - (intOf i).toNat)
   case atStart => exact ⟨0, 0, Nat.zero_le _, rfl, rfl, lh (by rw [if_pos (Nat.zero_le _)]), Below.refl _ _⟩
   case' round =>
    obtain ⟨k, nv, hk, rfl, rfl, HNV2, hb⟩ := hrel
    have hM := HM9.out.below hb HM9.out.lt; have hA := HA9.out.below hb HA9.out.lt; have hN := HN9.out.below hb HN9.out.lt; have hP := HP9.out.below hb HP9.out.lt; have hQ := HQ9.out.below hb HQ9.out.lt; have RM := HRM.out.below hb; have HB := bth HBQ.out hb; have x' := hM.cs8; have qq' := hQ.cs3; have yhM := hM.lt; have yhQ := hQ.lt
    by_cases hlt : k < rs.length
    case' pos =>
     obtain ⟨b', o', x, hbo, hbl, hx, hcx⟩ := RM.r0.at_ (Below.refl _ _) hlt
     cases hbo
     have hbe : (x.id == qr) = decide (k = i0) := by
      by_cases hki : k = i0
      ·subst hki
       have h1 := Option.some.inj (hx.symm.trans HF.out.rul)
       rw [decide_eq_true rfl, h1]
       exact beq_iff_eq.2 HF.out.id
      ·rw [decide_eq_false hki]
       exact beq_eq_false_iff_ne.2 (fun h => hki (HF.out.uq k x hx h))
     have hxr : k = i0 → x.need = nd := fun h => by
      subst h
      have h1 := Option.some.inj (hx.symm.trans HF.out.rul)
      rw [h1]
     obtain ⟨xi, xn, xr, xs', xd, xa, xe, xh⟩ := x
     simp only at hbe hxr
     have f0 := hcx 0 _ rfl; have f6 := hcx 6 _ rfl
     simp only [Nat.add_zero] at f0
     have HXR := lh hxr; clear hx hcx hxr
     by_cases hki : k = i0
     ·rw [decide_eq_true hki] at hbe
      have HKI := lh hki; clear hki
      go_upto_region 15 with fail
      clear x'; have x' := Blk.cs8K (fun K : Kin wr.heap.size wr => (hM.below K.below hM.lt)); clear qq'; have qq' := Blk.cs3K (fun K : Kin wr.heap.size wr => (hQ.below K.below hQ.lt))
      refine wp_region_kin (by kernel_rfl) (by kernel_rfl) ?_
      repeat (go_big_quiet_step ((fail)))
      refine wpQuiet_nil ?_
      intro K
      clear x'; clear qq'; have hq10 : Below wr.heap.size wr K.world := bth bel K.below; replace HB := bth HB hq10; replace hM := hM.to hq10; have x' := hM.cs8; replace hQ := hQ.to hq10; have qq' := hQ.cs3; have g6 := f6 K
      go_wp2
      go_roundw
      case rel => exact ⟨k + 1, xe, by omega, by go_num, rfl, lh (by rw [if_neg (by have := HKI.out; omega)]; exact HXR.out HKI.out), bth hb K.below⟩
      case measure => simp [intOf]; omega
     ·rw [decide_eq_false hki] at hbe
      have HKI := lh hki; clear hki
      go_upto_region 15 with fail
      clear x'; have x' := Blk.cs8K (fun K : Kin wr.heap.size wr => (hM.below K.below hM.lt)); clear qq'; have qq' := Blk.cs3K (fun K : Kin wr.heap.size wr => (hQ.below K.below hQ.lt))
      refine wp_region_kin (by kernel_rfl) (by kernel_rfl) ?_
      repeat (go_big_quiet_step ((fail)))
      refine wpQuiet_nil ?_
      intro K
      clear x'; clear qq'; have hq10 : Below wr.heap.size wr K.world := bth bel K.below; replace HB := bth HB hq10; replace hM := hM.to hq10; have x' := hM.cs8; replace hQ := hQ.to hq10; have qq' := hQ.cs3
      go_wp2
      go_roundw
      case rel => exact ⟨k + 1, nv, by omega, by go_num, rfl, lh (by
       rw [HNV2.out]
       have := HKI.out
       by_cases h : k ≤ i0
       ·rw [if_pos h, if_pos (by omega)]
       ·rw [if_neg h, if_neg (by omega)]), bth hb K.below⟩
      case measure => simp [intOf]; omega
    case' neg =>
     have hnv : nv = nd := by rw [HNV2.out, if_neg (by omega)]
     subst hnv
     have a' := hA.cs6; have n' := hN.cs8; have pp' := hP.cs3
     go_wp2_with fail
     refine (isAdoptedM_is nv ye no ab HF.out.need HT.out ad HAD.out _).mono ?_
     rintro e w10 ⟨rfl, hb10⟩
     have hq10 := be wr hb10; replace HB := bth HB hq10; replace hM := hM.to hq10; clear x'; have x' := hM.cs8; replace hQ := hQ.to hq10; clear qq'; have qq' := hQ.cs3; replace hA := hA.to hq10; clear a'; have a' := hA.cs6; replace hN := hN.to hq10; clear n'; have n' := hN.cs8; replace hP := hP.to hq10; clear pp'; have pp' := hP.cs3
     go_upto_region 24 with fail
     generalize w10 = wE at *
     clear x' n' a' pp' qq'; clear RM hM hA hN hP hQ HM9 HA9 HN9 HP9 HQ9 HRM HRE HBQ HOM HNV HZE hlt hk hb
 all_goals
  clear HZ hl0 hl1 hl2 hl3 hl4
  go_wp2_with fail
  refine (drawDebatable_is A c cs hcs _ (HR.out.below (bth HB bel))).mono ?_
  rintro e w11 ⟨rs, qs, tu, se, sp, ws, sh, os, D0, d0, D1, d1, D2, d2, D3, d3, D4, d4, rfl, hl0, hrn, hl1, hl2, hl3, hl4, OO, hb11⟩
  have hq11 := be wE hb11; replace HB := bth HB hq11; have RX := OO.rd; have HZ := lh (OO.inp (by omega) (by omega) (by omega) (by omega) (by omega)); clear OO hrn hl0 hl1 hl2 hl3 hl4
  go_upto_region 25 with fail
  refine lay1 fun wX1 hq12 hX => ?_
  replace RX := RX.below hq12; replace HB := bth HB hq12
  obtain ⟨b0, b1, b2, b3, b4, b5, b6, b7⟩ := hX.cs8
  obtain ⟨da, db, hab⟩ := mbOut_form ⟨rs, qs, tu, se, sp, ws, sh, os⟩
  have hda : (!(da == da)) = false := by simp
  have hdb : (!(db == db)) = false := by simp
  go_wp2_with fail
  refine (iIsDebatable_is ⟨rs, qs, tu, se, sp, ws, sh, os⟩ D0 D1 D2 D3 D4 d0 d1 d2 d3 d4 HZ.out.h0 HZ.out.h1 HZ.out.h2 HZ.out.h3 HZ.out.h4 _ hab _ ((RX.below bel)).r0 ((RX.below bel)).r1 ((RX.below bel)).r2 ((RX.below bel)).r3 ((RX.below bel)).r4 HZ.out.k0 HZ.out.k1 HZ.out.k2 HZ.out.k3 HZ.out.k4).mono ?_
  rintro e w13 ⟨rfl, hb13⟩
  have hq13 := be wX1 hb13; replace HB := bth HB hq13; replace RX := RX.below hq13; replace hX := hX.to hq13; clear b0 b1 b2 b3 b4 b5 b6 b7
  obtain ⟨b0, b1, b2, b3, b4, b5, b6, b7⟩ := hX.cs8
  go_wp2_with fail
  refine (sIsDebatable_is ⟨rs, qs, tu, se, sp, ws, sh, os⟩ D0 D1 D2 D3 D4 d0 d1 d2 d3 d4 HZ.out.h0 HZ.out.h1 HZ.out.h2 HZ.out.h3 HZ.out.h4 _ hab _ ((RX.below bel)).r0 ((RX.below bel)).r1 ((RX.below bel)).r2 ((RX.below bel)).r3 ((RX.below bel)).r4 HZ.out.k0 HZ.out.k1 HZ.out.k2 HZ.out.k3 HZ.out.k4).mono ?_
  rintro e w14 ⟨rfl, hb14⟩
  have hq14 := be w13 hb14; replace HB := bth HB hq14; replace RX := RX.below hq14; replace hX := hX.to hq14; clear b0 b1 b2 b3 b4 b5 b6 b7
  obtain ⟨b0, b1, b2, b3, b4, b5, b6, b7⟩ := hX.cs8
  clear RX HZ
  go_wp2_with fail
  refine (drawPendName_is A c cs hcs _ (HR.out.below (bth HB bel))).mono ?_
  rintro e w15 ⟨rs, qs, tu, se, sp, ws, sh, os, D0, d0, D1, d1, D2, d2, D3, d3, D4, d4, rfl, hl0, hrn, hl1, hl2, hl3, hl4, OO, hb15⟩
  have hq15 := be w14 hb15; replace HB := bth HB hq15; replace hX := hX.to hq15; clear b0 b1 b2 b3 b4 b5 b6 b7
  obtain ⟨b0, b1, b2, b3, b4, b5, b6, b7⟩ := hX.cs8
  clear hda hdb hab hX b0 b1 b2 b3 b4 b5 b6 b7; have RY := OO.rd; have HZ := lh (OO.inp (by omega) (by omega) (by omega) (by omega) (by omega)); clear OO hrn hl0 hl1 hl2 hl3 hl4
  go_upto_region 30 with fail
  refine lay1 fun wX2 hq16 hY => ?_
  replace RY := RY.below hq16; replace HB := bth HB hq16
  obtain ⟨b0, b1, b2, b3, b4, b5, b6, b7⟩ := hY.cs8
  obtain ⟨ea, eb, hab⟩ := pnOut_form ⟨rs, qs, tu, se, sp, ws, sh, os⟩
  have hea : (!(ea.toList == ea.toList)) = false := by simp
  have heb : (!(eb == eb)) = false := by simp
  go_wp2_with fail
  refine (iPendingName_is ⟨rs, qs, tu, se, sp, ws, sh, os⟩ D0 D1 D2 D3 D4 d0 d1 d2 d3 d4 HZ.out.h0 HZ.out.h1 HZ.out.h2 HZ.out.h3 HZ.out.h4 _ hab _ ((RY.below bel)).r0 ((RY.below bel)).r1 ((RY.below bel)).r2 ((RY.below bel)).r3 ((RY.below bel)).r4 HZ.out.k0 HZ.out.k1 HZ.out.k2 HZ.out.k3 HZ.out.k4).mono ?_
  rintro e w17 ⟨rfl, hb17⟩
  have hq17 := be wX2 hb17; replace HB := bth HB hq17; replace RY := RY.below hq17; replace hY := hY.to hq17; clear b0 b1 b2 b3 b4 b5 b6 b7
  obtain ⟨b0, b1, b2, b3, b4, b5, b6, b7⟩ := hY.cs8
  go_wp2_with fail
  refine (sPendingName_is ⟨rs, qs, tu, se, sp, ws, sh, os⟩ D0 D1 D2 D3 D4 d0 d1 d2 d3 d4 HZ.out.h0 HZ.out.h1 HZ.out.h2 HZ.out.h3 HZ.out.h4 _ hab _ ((RY.below bel)).r0 ((RY.below bel)).r1 ((RY.below bel)).r2 ((RY.below bel)).r3 ((RY.below bel)).r4 HZ.out.k0 HZ.out.k1 HZ.out.k2 HZ.out.k3 HZ.out.k4).mono ?_
  rintro e w18 ⟨rfl, hb18⟩
  have hq18 := be w17 hb18; replace HB := bth HB hq18; replace RY := RY.below hq18; replace hY := hY.to hq18; clear b0 b1 b2 b3 b4 b5 b6 b7
  obtain ⟨b0, b1, b2, b3, b4, b5, b6, b7⟩ := hY.cs8
  clear RY HZ
  go_wp2_with fail
  refine (drawNewMeeting_is A c cs hcs _ (HR.out.below (bth HB bel))).mono ?_
  rintro e w19 ⟨rs, g, y, tu, se, rfl, hl0, hrn, OR, hb19⟩
  have hq19 := be w18 hb19; replace HB := bth HB hq19; replace hY := hY.to hq19; clear b0 b1 b2 b3 b4 b5 b6 b7
  obtain ⟨b0, b1, b2, b3, b4, b5, b6, b7⟩ := hY.cs8
  clear hea heb hab hrn hY b0 b1 b2 b3 b4 b5 b6 b7; have RR := OR.rds (hf := rul_len'); have HKR := lh (own_cap OR rul_len')
  have hrl : rs.length ≤ 1048576 := by omega
  have hn0 := nmM_len rs tu se hrl; have hn1 := nmM_l1 rs tu se; have hn2 := nmM_l2 rs tu se; have hn3 := nmM_l3 rs tu se; have hn4 := nmM_l4 rs tu se; have HNI := lh (fun W (h : Rds 7 Rul.cells W (some ⟨g, 0, none⟩) rs) => iNewMeeting_is (some ⟨g, 0, none⟩) y rs hrl tu se W h (fun h => by cases h) HKR.out); have HNS := lh (fun W (h : Rds 7 Rul.cells W (some ⟨g, 0, none⟩) rs) => sNewMeeting_is (some ⟨g, 0, none⟩) y rs hrl tu se W h (fun h => by cases h) HKR.out)
  generalize nmM rs tu se = m4 at *
  generalize nmB rs tu se = b4 at *
  obtain ⟨rs4, qs4, tu4, se4, sp4, ws4, sh4, os4⟩ := m4
  simp only at hn0 hn1 hn2 hn3 hn4
  clear OR hl0; have hb4 : (b4 == b4) = true := beq_self_eq_true b4
  go_wp2_with fail
  refine (HNI.out _ (RR.below bel)).mono ?_
  rintro e w20 ⟨D0, d0, D1, d1, D2, d2, D3, d3, D4, d4, rfl, o0, o1, o2, o3, o4, hap, hb20⟩
  have hq20 := be w19 hb20; replace HB := bth HB hq20; replace RR := RR.below hq20; have RE : MeR w20 D0 D1 D2 D3 D4 rs4 qs4 ws4 sh4 os4 := ⟨o0.rds (hf := rul_len), o1.rds (hf := que_len), o2.rds (hf := intC_len), o3.rds (hf := sha_len), o4.rds (hf := out_len)⟩; clear o0 o1 o2 o3 o4 hap
  go_upto_region 36 with fail
  refine lay1 fun wX3 hq21 hU => ?_
  replace RR := RR.below hq21; replace RE := RE.below hq21; replace HB := bth HB hq21
  obtain ⟨b0, b1, b2, b3, b4, b5, b6, b7⟩ := hU.cs8
  go_wp2_with fail
  refine (HNS.out _ (RR.below bel)).mono ?_
  rintro e w22 ⟨E0, e0, E1, e1, E2, e2, E3, e3, E4, e4, rfl, o0, o1, o2, o3, o4, hap, hb22⟩
  have hq22 := be wX3 hb22; replace HB := bth HB hq22; replace RR := RR.below hq22; replace RE := RE.below hq22; replace hU := hU.to hq22; clear b0 b1 b2 b3 b4 b5 b6 b7
  obtain ⟨b0, b1, b2, b3, b4, b5, b6, b7⟩ := hU.cs8
  have RF : MeR w22 E0 E1 E2 E3 E4 rs4 qs4 ws4 sh4 os4 := ⟨o0.rds (hf := rul_len), o1.rds (hf := que_len), o2.rds (hf := intC_len), o3.rds (hf := sha_len), o4.rds (hf := out_len)⟩; clear o0 o1 o2 o3 o4 hap
  go_upto_region 37 with fail
  refine lay1 fun wX4 hq23 hV => ?_
  replace RR := RR.below hq23; replace RE := RE.below hq23; replace RF := RF.below hq23; replace HB := bth HB hq23; have v' := hV.cs8; clear b0 b1 b2 b3 b4 b5 b6 b7; replace hU := hU.to hq23
  obtain ⟨b0, b1, b2, b3, b4, b5, b6, b7⟩ := hU.cs8
  go_wp2_with fail
  refine (vMeeting_is rs4 qs4 tu4 se4 sp4 ws4 sh4 os4 D0 D1 D2 D3 D4 d0 d1 d2 d3 d4 E0 E1 E2 E3 E4 e0 e1 e2 e3 e4 hn0 hn1 hn2 hn3 hn4 _ (RE.below bel) (RF.below bel)).mono ?_
  rintro e w24 ⟨rfl, hb24⟩
  have hq24 := be wX4 hb24; replace HB := bth HB hq24; replace RR := RR.below hq24; replace RE := RE.below hq24; replace RF := RF.below hq24; replace hU := hU.to hq24; clear b0 b1 b2 b3 b4 b5 b6 b7
  obtain ⟨b0, b1, b2, b3, b4, b5, b6, b7⟩ := hU.cs8
  replace hV := hV.to hq24; clear v'; have v' := hV.cs8
  go_wp2
  go_ret
  exact ⟨rfl, (bth HB bel)⟩
open Go.ChangeShapes Go.WideShapes Go.ChangeAt Go.RowKit Go.Deep Go.G9
theorem prog_own : ownKnob Tryz.prog.godebug = none := by kernel_rfl
theorem prog_laid : laidOutB Tryz.prog = true := by kernel_rfl
section
variable {H : Type} {enc : TypeId × Value → H} {w : World} {base : Nat} {sp : Nat → Bool} {hd : Bool} {fuel : Nat} {cs : List Value} {x : DataW H × List MemPlace}
end
end Go.Proofs.YtjimibkgocieoaaGreat
