/- Texts of the proof: walks of the functions, and what they compute. -/
import Derived.Test.YtjimibkgocieoaaGreatRb8
import Derived.Test.YtjimibkgocieoaaGreatRb29
import Derived.Test.YtjimibkgocieoaaGreatRb0
set_option maxHeartbeats 16000000
set_option maxRecDepth 100000
namespace Go.Proofs.YtjimibkgocieoaaGreat
open Go.RowKit Go.G9
section
variable {B : Nat} {w w' : World} {D0 D1 D2 D3 D4 : Option Addr} {d0 d1 d2 d3 d4 : Nat} {rs : List Rul} {qs : List Que} {ws : List Int} {sh : List Sha} {os : List Out}
theorem MeO.cur {p : Nat} (h : MeO B w D0 d0 D1 d1 D2 d2 D3 d3 D4 d4 rs qs ws sh os) (hp : p < B) (hg : w.grownBy w' (some p)) : MeO B w' D0 d0 D1 d1 D2 d2 D3 d3 D4 d4 rs qs ws sh os :=
 ⟨h.o0.kept hg (fun k hk e => by have := (h.o0.lt k hk).1; have := Option.some.inj e; omega), h.o1.kept hg (fun k hk e => by have := (h.o1.lt k hk).1; have := Option.some.inj e; omega), h.o2.kept hg (fun k hk e => by have := (h.o2.lt k hk).1; have := Option.some.inj e; omega), h.o3.kept hg (fun k hk e => by have := (h.o3.lt k hk).1; have := Option.some.inj e; omega), h.o4.kept hg (fun k hk e => by have := (h.o4.lt k hk).1; have := Option.some.inj e; omega)⟩
theorem MeO.keptA {v : Value} {al : List Ac} {B' : Nat} (h : MeO B w D0 d0 D1 d1 D2 d2 D3 d3 D4 d4 rs qs ws sh os) (hL : OwnV B' 36 6 Ac.cells w v al) (hg : w.grownBy w' v.ownBlock) : MeO B w' D0 d0 D1 d1 D2 d2 D3 d3 D4 d4 rs qs ws sh os :=
 ⟨h.o0.kept hg (h.o0.apart hL (by decide)), h.o1.kept hg (h.o1.apart hL (by decide)), h.o2.kept hg (h.o2.apart hL (by decide)), h.o3.kept hg (h.o3.apart hL (by decide)), h.o4.kept hg (h.o4.apart hL (by decide))⟩
theorem MeO.keptM {g : Nat} {cs : Array Value} (h : MeO B w D0 d0 D1 d1 D2 d2 D3 d3 D4 d4 rs qs ws sh os) (hb : Blk w g 32 cs) (hg : w.grownBy w' (some g)) : MeO B w' D0 d0 D1 d1 D2 d2 D3 d3 D4 d4 rs qs ws sh os :=
 ⟨h.o0.kept hg (fun k hk e => h.o0.notBlkV hb (by decide) k hk (Option.some.inj e)), h.o1.kept hg (fun k hk e => h.o1.notBlkV hb (by decide) k hk (Option.some.inj e)), h.o2.kept hg (fun k hk e => h.o2.notBlkV hb (by decide) k hk (Option.some.inj e)), h.o3.kept hg (fun k hk e => h.o3.notBlkV hb (by decide) k hk (Option.some.inj e)), h.o4.kept hg (fun k hk e => h.o4.notBlkV hb (by decide) k hk (Option.some.inj e))⟩
theorem MeO.map (h : MeO B w D0 d0 D1 d1 D2 d2 D3 d3 D4 d4 rs qs ws sh os) (hp : w = w') : MeO B w' D0 d0 D1 d1 D2 d2 D3 d3 D4 d4 rs qs ws sh os := hp ▸ h
end
theorem rds_oneA (w : World) (a b c d e f : Int) (t : TypeId) : Rds 6 Ac.cells (w.alloc (.cells #[.int .i64 a, .int .i64 b, .int .i64 c, .int .i64 d, .int .i64 e, .int .i64 f] t)) (some ⟨w.heap.size, 0, none⟩) [(⟨a, b, c, d, e, f⟩ : Ac)] := by
 have h := (OwnV.built (B := w.heap.size) (f := Ac.cells) w [(⟨a, b, c, d, e, f⟩ : Ac)] t (Nat.le_refl _) (by simp [maxLen]) ac_len).rds (hf := ac_len)
 simpa [Ac.cells] using h
theorem drawMeeting_is (A : Option Addr) (c : Nat) (cs : List UInt8) (hcs : cs.length ≤ 1048576) (w : World) (hR : Rds 1 u8C w A cs) :
 Calls Tryz.prog 62 #[.slice A cs.length c] w fun e w' => ∃ (rs : List Rul) (qs : List Que) (tu se sp : Int) (ws : List Int) (sh : List Sha) (os : List Out) (D0 : Option Addr) (d0 : Nat) (D1 : Option Addr) (d1 : Nat) (D2 : Option Addr) (d2 : Nat) (D3 : Option Addr) (d3 : Nat) (D4 : Option Addr) (d4 : Nat), e = .returned (.agg #[.slice D0 rs.length d0, .slice D1 qs.length d1, .int .i64 tu, .int .i64 se, .int .i64 sp, .slice D2 ws.length d2, .slice D3 sh.length d3, .slice D4 os.length d4]) ∧ rs.length ≤ 12 ∧ (∀ t ∈ rs, t.name.size ≤ 12) ∧ qs.length ≤ 7 ∧ ws.length ≤ 60 ∧ sh.length ≤ 99 ∧ os.length ≤ 30 ∧ MeO w.heap.size w' D0 d0 D1 d1 D2 d2 D3 d3 D4 d4 rs qs ws sh os ∧ Below w.heap.size w w' := by
 go_in
 go_upto_region 2 with fail
 have hlt : ∀ ad, A = some ad → 0 < cs.length → ad.block < w.heap.size := fun ad h h0 => by
  obtain ⟨b, off, h1, h2, _⟩ := hR h0
  rw [h1] at h; cases h; exact h2
 have hq1 : Below w.heap.size w (World.alloc (World.alloc w (.cells #[.slice none 0 0, .slice none 0 0, .int .i64 0, .int .i64 0, .int .i64 0, .slice none 0 0, .slice none 0 0, .slice none 0 0] 32)) (.cells #[.slice A cs.length c, .int .i64 0, .int .u64 0] 95)) := bl2 w _ _
 have hZ : Blk (World.alloc (World.alloc w (.cells #[.slice none 0 0, .slice none 0 0, .int .i64 0, .int .i64 0, .int .i64 0, .slice none 0 0, .slice none 0 0, .slice none 0 0] 32)) (.cells #[.slice A cs.length c, .int .i64 0, .int .u64 0] 95)) (w.heap.size) 32 #[.slice none 0 0, .slice none 0 0, .int .i64 0, .int .i64 0, .int .i64 0, .slice none 0 0, .slice none 0 0, .slice none 0 0] := by repeat (first | exact Blk.new _ _ _ | exact Blk.new2 _ _ _ _ | exact Blk.new3 _ _ _ _ _ | exact Blk.new4 _ _ _ _ _ _ | refine Blk.alloc ?_ _)
 have hP : Blk (World.alloc (World.alloc w (.cells #[.slice none 0 0, .slice none 0 0, .int .i64 0, .int .i64 0, .int .i64 0, .slice none 0 0, .slice none 0 0, .slice none 0 0] 32)) (.cells #[.slice A cs.length c, .int .i64 0, .int .u64 0] 95)) (w.heap.size + 1) 95 #[.slice A cs.length c, .int .i64 0, .int .u64 0] := by repeat (first | exact Blk.new _ _ _ | exact Blk.new2 _ _ _ _ | exact Blk.new3 _ _ _ _ _ | exact Blk.new4 _ _ _ _ _ _ | refine Blk.alloc ?_ _)
 generalize World.alloc (World.alloc w (.cells #[.slice none 0 0, .slice none 0 0, .int .i64 0, .int .i64 0, .int .i64 0, .slice none 0 0, .slice none 0 0, .slice none 0 0] 32)) (.cells #[.slice A cs.length c, .int .i64 0, .int .u64 0] 95) = wA at *
 have HB := hq1; have z' := hZ.cs8; have cu' := hP.cs3; have hC : Cur wA (w.heap.size + 1) A c cs 0 := ⟨⟨0, 0, hP, by decide, by decide⟩, hR.below HB, fun ad h h0 => by have := hlt ad h h0; omega⟩
 obtain ⟨p, hpe⟩ : ∃ p, p = w.heap.size + 1 := ⟨_, rfl⟩
 rw [← hpe] at hC
 obtain ⟨n0, hn0⟩ : ∃ n : Nat, n ≤ 0 := ⟨0, Nat.le_refl _⟩
 replace hC : Cur wA p A c cs n0 := hC.mono (Nat.zero_le _)
 simp only [← hpe]
 clear z' cu'; have hp := hC.lt; have HG := grown_refl w (some p); replace HG : w.grownBy wA (some p) := bgr HB _; have szw : w.heap.size ≤ wA.heap.size := HB.size
 have hwp : w.heap.size ≤ p := by omega
 have hwp1 : w.heap.size < p := by omega
 clear hR hlt hP HB hpe; have z' := hZ.cs8
 go_wp2_with fail
 refine (meeting_is p A c cs hcs n0 (by omega) _ (hC.later bel)).mono ?_
 rintro e w1 ⟨rs, qs, tu, se, sp, ws, sh, os, D0, d0, D1, d1, D2, d2, D3, d3, D4, d4, rfl, hl0, hrn, hl1, hl2, hl3, hl4, OO, hS1⟩
 clear z'; have hg1 : wA.grownBy w1 (some p) := grown_tr (bgr bel _) hS1.2; replace hC := hS1.1; have sz1 := hg1.size; replace HG := grown_tr HG hg1; replace hZ := hZ.grownB hg1 (by omega); have z' := hZ.cs8; replace OO := OO.base (B' := wA.heap.size) (by omega); have HRN := lh hrn; clear hrn; have OZ := lh OO; have HZB := lh hZ; clear OO hC; have fhZ' := hZ.fz8; have yhZ := hZ.lt
 go_wp2
 clear z'
 refine st8 0 fun W9 tW9 => ?_
 replace HG := stG tW9 HG; have gRZ := tW9.gr; replace hZ := tW9.all8 hZ; have z' := hZ.cs8; have OO := OZ.out.keptM HZB.out gRZ
 exact brt ⟨rs, qs, tu, se, sp, ws, sh, os, D0, d0, D1, d1, D2, d2, D3, d3, D4, d4, rfl, hl0, HRN.out, hl1, hl2, hl3, hl4, OO.base (by omega), grown_below HG (Nat.le_refl _) (fun k hk => by cases hk; omega)⟩ (by simp [results, Tryz.results62, go_sem, z'])
theorem drawAdopted_is (A : Option Addr) (c : Nat) (cs : List UInt8) (hcs : cs.length ≤ 1048576) (w : World) (hR : Rds 1 u8C w A cs) :
 Calls Tryz.prog 27 #[.slice A cs.length c] w fun e w' => ∃ (rs : List Rul) (qs : List Que) (tu se sp : Int) (ws : List Int) (sh : List Sha) (os : List Out) (D0 : Option Addr) (d0 : Nat) (D1 : Option Addr) (d1 : Nat) (D2 : Option Addr) (d2 : Nat) (D3 : Option Addr) (d3 : Nat) (D4 : Option Addr) (d4 : Nat), e = .returned (.agg #[.slice D0 rs.length d0, .slice D1 qs.length d1, .int .i64 tu, .int .i64 se, .int .i64 sp, .slice D2 ws.length d2, .slice D3 sh.length d3, .slice D4 os.length d4]) ∧ rs.length ≤ 12 ∧ (∀ t ∈ rs, t.name.size ≤ 12) ∧ qs.length ≤ 7 ∧ ws.length ≤ 60 ∧ sh.length ≤ 99 ∧ os.length ≤ 30 ∧ MeO w.heap.size w' D0 d0 D1 d1 D2 d2 D3 d3 D4 d4 rs qs ws sh os ∧ Below w.heap.size w w' := by
 go_in
 go_upto_region 1 with fail
 refine lay1 fun wX hq1 hZ => ?_
 have HB := hq1; have z' := hZ.cs8; have szw := HB.size
 go_wp2_with fail
 refine (drawMeeting_is A c cs hcs _ (hR.below (bth HB bel))).mono ?_
 rintro e w2 ⟨rs, qs, tu, se, sp, ws, sh, os, D0, d0, D1, d1, D2, d2, D3, d3, D4, d4, rfl, hl0, hrn, hl1, hl2, hl3, hl4, OO, hb2⟩
 have hq2 := be wX hb2; replace HB := bth HB hq2; replace hZ := hZ.to hq2; clear z'; have z' := hZ.cs8; replace OO := OO.base (B' := w.heap.size) szw; have HRN := lh hrn; clear hrn hR; have O0 := OO.o0; have O1 := OO.o1; have O2 := OO.o2; have O3 := OO.o3; have O4 := OO.o4; clear OO; have neO0 := O0.nb hZ; have neO1 := O1.nb hZ; have neO2 := O2.nb hZ; have neO3 := O3.nb hZ; have neO4 := O4.nb hZ; have fhZ' := hZ.fz8
 have yhZ := hZ.lt
 go_wp2
 clear z'
 refine st8 0 fun W9 tW9 => ?_
 replace HB := tW9.hc HB; replace hZ := tW9.all8 hZ; have gRW9 := tW9.gr; have szW9 := tW9.sz; replace O0 := O0.keptS tW9 neO0; replace O1 := O1.keptS tW9 neO1; replace O2 := O2.keptS tW9 neO2; replace O3 := O3.keptS tW9 neO3; replace O4 := O4.keptS tW9 neO4; have z' := hZ.cs8
 exact brt ⟨rs, qs, tu, se, sp, ws, sh, os, D0, d0, D1, d1, D2, d2, D3, d3, D4, d4, rfl, hl0, HRN.out, hl1, hl2, hl3, hl4, ⟨O0, O1, O2, O3, O4⟩, HB⟩ (by simp [results, Tryz.results27, go_sem, z'])
theorem drawMovedBy_is (A : Option Addr) (c : Nat) (cs : List UInt8) (hcs : cs.length ≤ 1048576) (w : World) (hR : Rds 1 u8C w A cs) :
 Calls Tryz.prog 32 #[.slice A cs.length c] w fun e w' => ∃ (rs : List Rul) (qs : List Que) (tu se sp : Int) (ws : List Int) (sh : List Sha) (os : List Out) (D0 : Option Addr) (d0 : Nat) (D1 : Option Addr) (d1 : Nat) (D2 : Option Addr) (d2 : Nat) (D3 : Option Addr) (d3 : Nat) (D4 : Option Addr) (d4 : Nat) (me : Int), e = .returned (.tuple #[.agg #[.slice D0 rs.length d0, .slice D1 qs.length d1, .int .i64 tu, .int .i64 se, .int .i64 sp, .slice D2 ws.length d2, .slice D3 sh.length d3, .slice D4 os.length d4], .int .i64 me]) ∧ rs.length ≤ 12 ∧ (∀ t ∈ rs, t.name.size ≤ 12) ∧ qs.length ≤ 7 ∧ ws.length ≤ 60 ∧ sh.length ≤ 99 ∧ os.length ≤ 30 ∧ MeO w.heap.size w' D0 d0 D1 d1 D2 d2 D3 d3 D4 d4 rs qs ws sh os ∧ Below w.heap.size w w' := by
 go_in
 go_upto_region 2 with fail
 have hlt : ∀ ad, A = some ad → 0 < cs.length → ad.block < w.heap.size := fun ad h h0 => by
  obtain ⟨b, off, h1, h2, _⟩ := hR h0
  rw [h1] at h; cases h; exact h2
 refine lay2 fun wA hq1 hZ hP => ?_
 have HB := hq1; have z' := hZ.cs8; have cu' := hP.cs3; have hC : Cur wA (w.heap.size + 1) A c cs 0 := ⟨⟨0, 0, hP, by decide, by decide⟩, hR.below HB, fun ad h h0 => by have := hlt ad h h0; omega⟩
 obtain ⟨p, hpe⟩ : ∃ p, p = w.heap.size + 1 := ⟨_, rfl⟩
 rw [← hpe] at hC
 obtain ⟨n0, hn0⟩ : ∃ n : Nat, n ≤ 0 := ⟨0, Nat.le_refl _⟩
 replace hC : Cur wA p A c cs n0 := hC.mono (Nat.zero_le _)
 simp only [← hpe]
 clear z' cu'; have hp := hC.lt; have HG := grown_refl w (some p); replace HG : w.grownBy wA (some p) := bgr HB _; have szw : w.heap.size ≤ wA.heap.size := HB.size
 have hwp : w.heap.size ≤ p := by omega
 have hwp1 : w.heap.size < p := by omega
 clear hR hlt hP HB hpe; have z' := hZ.cs8
 go_wp2_with fail
 refine (meeting_is p A c cs hcs n0 (by omega) _ (hC.later bel)).mono ?_
 rintro e w1 ⟨rs, qs, tu, se, sp, ws, sh, os, D0, d0, D1, d1, D2, d2, D3, d3, D4, d4, rfl, hl0, hrn, hl1, hl2, hl3, hl4, OO, hS1⟩
 clear z'; have hg1 : wA.grownBy w1 (some p) := grown_tr (bgr bel _) hS1.2; replace hC := hS1.1; have sz1 := hg1.size; replace HG := grown_tr HG hg1; replace hZ := hZ.grownB hg1 (by omega); have z' := hZ.cs8; replace OO := OO.base (B' := wA.heap.size) (by omega); have HRN := lh hrn; clear hrn
 go_wp2_with fail
 refine (member_is p A c cs hcs (n0 + 2600) (by omega) _ (hC.later bel)).mono ?_
 rintro e w2 ⟨me, rfl, hme, hS2⟩
 clear z'; have hg2 : w1.grownBy w2 (some p) := grown_tr (bgr bel _) hS2.2; replace hC := hS2.1; have sz2 := hg2.size; replace HG := grown_tr HG hg2; replace hZ := hZ.grownB hg2 (by omega); have z' := hZ.cs8; replace OO := OO.cur hp hg2; have OZ := lh OO; have HZB := lh hZ; clear OO hC; have fhZ' := hZ.fz8; have yhZ := hZ.lt
 go_wp2
 clear z'
 refine st8 0 fun W9 tW9 => ?_
 replace HG := stG tW9 HG; have gRZ := tW9.gr; replace hZ := tW9.all8 hZ; have z' := hZ.cs8; have OO := OZ.out.keptM HZB.out gRZ
 exact brt ⟨rs, qs, tu, se, sp, ws, sh, os, D0, d0, D1, d1, D2, d2, D3, d3, D4, d4, me, rfl, hl0, HRN.out, hl1, hl2, hl3, hl4, OO.base (by omega), grown_below HG (Nat.le_refl _) (fun k hk => by cases hk; omega)⟩ (by simp [results, Tryz.results32, go_sem, z'])
theorem zb21 {p : Prop} (h : p := by
 have OZ := lh OO; have HZB := lh hZ; have OLB := lh OL; clear OO OL hC; have fhZ' := hZ.fz8; have yhZ := hZ.lt; have yhM := hM.lt
 go_wp2
 clear z' x0 x1 x2 x3 x4 x5 x6 x7
 refine st8 0 fun W9 tW9 => ?_
 replace HG := stG tW9 HG; have gRZ := tW9.gr; replace hZ := tW9.all8 hZ; replace hM := tW9.fa hM; have z' := hZ.cs8
 obtain ⟨x0, x1, x2, x3, x4, x5, x6, x7⟩ := hM.cs8
 have OO := OZ.out.keptM HZB.out gRZ; have OL := OLB.out.kept gRZ (fun k hk e => OLB.out.notBlkV HZB.out (by decide) k hk (Option.some.inj e))
 exact brt ⟨rs, qs, tu, se, sp, ws, sh, os, D0, d0, D1, d1, D2, d2, D3, d3, D4, d4, al, Y, y, rfl, hl0, HRN.out, hl1, hl2, hl3, hl4, by omega, OO.base (by omega), OL.base (by omega), grown_below HG (Nat.le_refl _) (fun k hk => by cases hk; omega)⟩ (by simp [results, Tryz.results24, go_sem, z'])) : p := h
theorem drawRunActs_is (A : Option Addr) (c : Nat) (cs : List UInt8) (hcs : cs.length ≤ 1048576) (w : World) (hR : Rds 1 u8C w A cs) :
 Calls Tryz.prog 24 #[.slice A cs.length c] w fun e w' => ∃ (rs : List Rul) (qs : List Que) (tu se sp : Int) (ws : List Int) (sh : List Sha) (os : List Out) (D0 : Option Addr) (d0 : Nat) (D1 : Option Addr) (d1 : Nat) (D2 : Option Addr) (d2 : Nat) (D3 : Option Addr) (d3 : Nat) (D4 : Option Addr) (d4 : Nat) (al : List Ac) (Y : Option Addr) (y : Nat), e = .returned (.tuple #[.agg #[.slice D0 rs.length d0, .slice D1 qs.length d1, .int .i64 tu, .int .i64 se, .int .i64 sp, .slice D2 ws.length d2, .slice D3 sh.length d3, .slice D4 os.length d4], .slice Y al.length y]) ∧ rs.length ≤ 12 ∧ (∀ t ∈ rs, t.name.size ≤ 12) ∧ qs.length ≤ 7 ∧ ws.length ≤ 60 ∧ sh.length ≤ 99 ∧ os.length ≤ 30 ∧ al.length ≤ 40 ∧ MeO w.heap.size w' D0 d0 D1 d1 D2 d2 D3 d3 D4 d4 rs qs ws sh os ∧ OwnV w.heap.size 36 6 Ac.cells w' (.slice Y al.length y) al ∧ Below w.heap.size w w' := by
 obtain ⟨j0, hj, jz0, jz1, jz2⟩ := info_parts info_Ac
 go_in
 go_upto_region 2 with fail
 have hlt : ∀ ad, A = some ad → 0 < cs.length → ad.block < w.heap.size := fun ad h h0 => by
  obtain ⟨b, off, h1, h2, _⟩ := hR h0
  rw [h1] at h; cases h; exact h2
 refine lay2 fun wA hq1 hZ hP => ?_
 have HB := hq1; have z' := hZ.cs8; have cu' := hP.cs3; have hC : Cur wA (w.heap.size + 1) A c cs 0 := ⟨⟨0, 0, hP, by decide, by decide⟩, hR.below HB, fun ad h h0 => by have := hlt ad h h0; omega⟩
 obtain ⟨p, hpe⟩ : ∃ p, p = w.heap.size + 1 := ⟨_, rfl⟩
 rw [← hpe] at hC
 obtain ⟨n0, hn0⟩ : ∃ n : Nat, n ≤ 0 := ⟨0, Nat.le_refl _⟩
 replace hC : Cur wA p A c cs n0 := hC.mono (Nat.zero_le _)
 simp only [← hpe]
 clear z' cu'; have hp := hC.lt; have HG := grown_refl w (some p); replace HG : w.grownBy wA (some p) := bgr HB _; have szw : w.heap.size ≤ wA.heap.size := HB.size
 have hwp : w.heap.size ≤ p := by omega
 have hwp1 : w.heap.size < p := by omega
 clear hR hlt hP HB hpe; have z' := hZ.cs8
 go_wp2_with fail
 refine (meeting_is p A c cs hcs n0 (by omega) _ (hC.later bel)).mono ?_
 rintro e w1 ⟨rs, qs, tu, se, sp, ws, sh, os, D0, d0, D1, d1, D2, d2, D3, d3, D4, d4, rfl, hl0, hrn, hl1, hl2, hl3, hl4, OO, hS1⟩
 clear z'; have hg1 : wA.grownBy w1 (some p) := grown_tr (bgr bel _) hS1.2; replace hC := hS1.1; have sz1 := hg1.size; replace HG := grown_tr HG hg1; replace hZ := hZ.grownB hg1 (by omega); have z' := hZ.cs8; replace OO := OO.base (B' := wA.heap.size) (by omega); have HRN := lh hrn; clear hrn
 go_upto_region 3 with fail
 obtain ⟨mb, hmb⟩ : ∃ b, b = w1.heap.size := ⟨_, rfl⟩
 have hmw : p < mb := by have := hC.lt; omega
 replace OO := OO.later (bl1 w1 (.cells #[.slice D0 rs.length d0, .slice D1 qs.length d1, .int .i64 tu, .int .i64 se, .int .i64 sp, .slice D2 ws.length d2, .slice D3 sh.length d3, .slice D4 os.length d4] 32))
 have hmA : wA.heap.size ≤ mb := by omega
 have hb2 : Below w1.heap.size w1 (World.alloc w1 (.cells #[.slice D0 rs.length d0, .slice D1 qs.length d1, .int .i64 tu, .int .i64 se, .int .i64 sp, .slice D2 ws.length d2, .slice D3 sh.length d3, .slice D4 os.length d4] 32)) := bl1 w1 _
 have hM : Blk (World.alloc w1 (.cells #[.slice D0 rs.length d0, .slice D1 qs.length d1, .int .i64 tu, .int .i64 se, .int .i64 sp, .slice D2 ws.length d2, .slice D3 sh.length d3, .slice D4 os.length d4] 32)) (w1.heap.size) 32 #[.slice D0 rs.length d0, .slice D1 qs.length d1, .int .i64 tu, .int .i64 se, .int .i64 sp, .slice D2 ws.length d2, .slice D3 sh.length d3, .slice D4 os.length d4] := by repeat (first | exact Blk.new _ _ _ | exact Blk.new2 _ _ _ _ | exact Blk.new3 _ _ _ _ _ | exact Blk.new4 _ _ _ _ _ _ | refine Blk.alloc ?_ _)
 generalize World.alloc w1 (.cells #[.slice D0 rs.length d0, .slice D1 qs.length d1, .int .i64 tu, .int .i64 se, .int .i64 sp, .slice D2 ws.length d2, .slice D3 sh.length d3, .slice D4 os.length d4] 32) = wM at *
 replace hC := hC.later hb2; replace HG := grown_tr HG (bgr hb2 (some p)); clear z'; replace hZ := hZ.grownB (bgr hb2 (some p)) (by omega); have z' := hZ.cs8; have sz2 := hb2.size; have LhM := hM.lt
 obtain ⟨x0, x1, x2, x3, x4, x5, x6, x7⟩ := hM.cs8
 rw [← hmb] at hM x0 x1 x2 x3 x4 x5 x6 x7
 rw [← hmb]
 clear hmb x0 x1 x2 x3 x4 x5 x6 x7
 obtain ⟨x0, x1, x2, x3, x4, x5, x6, x7⟩ := hM.cs8
 have szM : wA.heap.size ≤ wM.heap.size := by omega
 have OL := OwnV.made (sz := 6) (f := Ac.cells) wM szM 36
 go_upto_region 4 with fail
 replace OO := OO.later (bl1 wM (.cells #[] 36)); have hb3 : Below wM.heap.size wM (World.alloc wM (.cells #[] 36)) := bl1 wM _
 have hE : Blk (World.alloc wM (.cells #[] 36)) (wM.heap.size) 36 #[] := by repeat (first | exact Blk.new _ _ _ | exact Blk.new2 _ _ _ _ | exact Blk.new3 _ _ _ _ _ | exact Blk.new4 _ _ _ _ _ _ | refine Blk.alloc ?_ _)
 generalize World.alloc wM (.cells #[] 36) = wL at *
 replace hC := hC.later hb3; replace HG := grown_tr HG (bgr hb3 (some p)); clear z'; replace hZ := hZ.grownB (bgr hb3 (some p)) (by omega); have z' := hZ.cs8; clear x0 x1 x2 x3 x4 x5 x6 x7; replace hM := hM.grownB (bgr hb3 (some p)) (by omega)
 obtain ⟨x0, x1, x2, x3, x4, x5, x6, x7⟩ := hM.cs8
 have sz3 := hb3.size; have LhE := hE.lt; clear hE
 go_wp2_with fail
 refine (pick_is 8 p A c cs hcs (n0 + 2600) (by omega) (by omega) _ (hC.later bel)).mono ?_
 rintro e w4 ⟨r, rfl, ⟨hbr, _, hcr⟩, hS4⟩
 clear z'; clear x0 x1 x2 x3 x4 x5 x6 x7; have hg4 : wL.grownBy w4 (some p) := grown_tr (bgr bel _) hS4.2; replace hC := hS4.1; have sz4 := hg4.size; replace HG := grown_tr HG hg4; replace hZ := hZ.grownB hg4 (by omega); replace hM := hM.grownB hg4 (by omega); have z' := hZ.cs8
 obtain ⟨x0, x1, x2, x3, x4, x5, x6, x7⟩ := hM.cs8
 replace hcr := hcr (by omega); replace OO := OO.cur hp hg4; replace OL := OL.kept hg4 (fun k hk e => by have := (OL.lt k hk).1; have := Option.some.inj e; omega)
 obtain ⟨m0, rfl⟩ : ∃ m : Nat, r = m := ⟨r.toNat, by omega⟩
 go_wp2
 go_loopw [6, 7] (fun v i wr => ∃ (m : Nat) (al : List Ac) (Y : Option Addr) (y : Nat), v = .slice Y al.length y ∧ i = .int .i64 (m : Int) ∧ al.length + m ≤ 7 ∧ OwnV wA.heap.size 36 6 Ac.cells wr (.slice Y al.length y) al ∧ MeO wA.heap.size wr D0 d0 D1 d1 D2 d2 D3 d3 D4 d4 rs qs ws sh os ∧ Blk wr w.heap.size 32 #[.slice none 0 0, .slice none 0 0, .int .i64 0, .int .i64 0, .int .i64 0, .slice none 0 0, .slice none 0 0, .slice none 0 0] ∧ Blk wr mb 32 #[.slice D0 rs.length d0, .slice D1 qs.length d1, .int .i64 tu, .int .i64 se, .int .i64 sp, .slice D2 ws.length d2, .slice D3 sh.length d3, .slice D4 os.length d4] ∧ Cur wr p A c cs (n0 + 2610 + 60 * (7 - m)) ∧ w.grownBy wr (some p)) (fun _ i _ => (intOf i).toNat)
 case atStart => exact ⟨m0, [], _, 0, rfl, rfl, by simp; omega, OL, OO, hZ, hM, hC.mono (by omega), HG⟩
 case round =>
  clear hC hZ hM HG OO OL z' x0 x1 x2 x3 x4 x5 x6 x7
  obtain ⟨m, al, Y, y, rfl, rfl, hal, OL, OO, hZ, hM, hC, HG⟩ := hrel
  have z' := hZ.cs8
  obtain ⟨x0, x1, x2, x3, x4, x5, x6, x7⟩ := hM.cs8
  by_cases hlt : 0 < m
  ·have hmm : (m : Int) - 1 = ((m - 1 : Nat) : Int) := by omega
   have hm1 : (0 : Int) < (m : Int) := by omega
   have hm2 : decide ((0 : Int) < (m : Int)) = true := decide_eq_true hm1; have HMA : MeAp p D0 D1 rs qs := ⟨own_ne OO.o0 hp, own_ne OO.o1 hp⟩; have szr := hM.lt
   have szo : wA.heap.size ≤ wr.heap.size := by omega
   go_wp2_with fail
   refine (act_is D0 D1 D2 D3 D4 d0 d1 d2 d3 d4 rs qs tu se sp ws sh os (by omega) (by omega) p A c cs hcs (n0 + 2610 + 60 * (7 - m)) (by omega) _ (hC.later bel) (OO.o0.rds rul_len) (OO.o1.rds que_len) HMA).mono ?_
   rintro e w5 ⟨kd, me, vl, ye, no, ab, rfl, hS5⟩
   clear z'; clear x0 x1 x2 x3 x4 x5 x6 x7; have hg5 : wr.grownBy w5 (some p) := grown_tr (bgr bel _) hS5.2; replace hC := hS5.1; have sz5 := hg5.size; replace HG := grown_tr HG hg5; replace hZ := hZ.grownB hg5 (by omega); replace hM := hM.grownB hg5 (by omega); have z' := hZ.cs8
   obtain ⟨x0, x1, x2, x3, x4, x5, x6, x7⟩ := hM.cs8
   replace OO := OO.cur hp hg5; replace OL := OL.kept hg5 (fun k hk e => by have := (OL.lt k hk).1; have := Option.some.inj e; omega); clear HMA hm1 hm2; have HCX := lh hC; have HGX := lh HG; have HZX := lh hZ; have HMX := lh hM; have HOO := lh OO; have HOL := lh OL; have hnZ := lh (OL.nb hZ); have hnM := lh (OL.nb hM); clear hC HG hZ hM OO OL z' x0 x1 x2 x3 x4 x5 x6 x7
   go_wp2_with ((at_builtin; refine wpList_app1 rfl _ _ 58 rfl wA.heap.size 36 j0 _ 6 48 Tryz.underlying58 hj jz0 jz1 jz2 rfl (by decide) Ac.cells ac_len ac_one _ al rfl (HOL.out.alloc _) ⟨w5.heap.size, 0, none⟩ 1 ⟨kd, me, vl, ye, no, ab⟩ rfl (rds_oneA _ _ _ _ _ _ _ _) (by unfold maxLen; omega) (by omega) (by simp; omega) ?_; intro va wa hOa hga haa; clear haa; obtain ⟨ga, dd, rfl⟩ := own_some hOa (by simp)))
   have hC := (HCX.out.later (bl1 _ (.cells #[.int .i64 kd, .int .i64 me, .int .i64 vl, .int .i64 ye, .int .i64 no, .int .i64 ab] 36))).row hga (fun k hk => by have := (HOL.out.lt k hk).1; omega); have HG := grown_row2 (grown_tr HGX.out (bgr (bl1 _ (.cells #[.int .i64 kd, .int .i64 me, .int .i64 vl, .int .i64 ye, .int .i64 no, .int .i64 ab] 36)) _)) hga (fun k hk => by have := (HOL.out.lt k hk).1; omega)
   have hZ := (HZX.out.to (bl1 _ (.cells #[.int .i64 kd, .int .i64 me, .int .i64 vl, .int .i64 ye, .int .i64 no, .int .i64 ab] 36))).grownN hga (fun e => hnZ.out _ e.symm rfl); have hM := (HMX.out.to (bl1 _ (.cells #[.int .i64 kd, .int .i64 me, .int .i64 vl, .int .i64 ye, .int .i64 no, .int .i64 ab] 36))).grownN hga (fun e => hnM.out _ e.symm rfl); have OO := (HOO.out.later (bl1 _ (.cells #[.int .i64 kd, .int .i64 me, .int .i64 vl, .int .i64 ye, .int .i64 no, .int .i64 ab] 36))).keptA (HOL.out.later (bl1 _ (.cells #[.int .i64 kd, .int .i64 me, .int .i64 vl, .int .i64 ye, .int .i64 no, .int .i64 ab] 36))) hga
   have hl8 : (al ++ [(⟨kd, me, vl, ye, no, ab⟩ : Ac)]).length + (m - 1) ≤ 7 := by simp; omega
   go_wp2
   go_roundw
   case rel => exact ⟨m - 1, _, _, dd, by simp, by rw [← hmm], hl8, hOa, OO, hZ, hM, hC.mono (by omega), HG⟩
   case measure => simp [intOf]; omega
  ·have hm1 : ¬ (0 : Int) < (m : Int) := by omega
   have hm2 : decide ((0 : Int) < (m : Int)) = false := decide_eq_false hm1; replace hC := hC.mono (M := n0 + 3100) (by omega)
   go_wp2_with fail
   refine (one_is 24 p A c cs hcs (n0 + 3100) (by omega) (by omega) _ (hC.later bel)).mono ?_
   rintro e w5 ⟨b1, rfl, hS5⟩
   clear z'; clear x0 x1 x2 x3 x4 x5 x6 x7; have hg5 : wr.grownBy w5 (some p) := grown_tr (bgr bel _) hS5.2; replace hC := hS5.1; have sz5 := hg5.size; replace HG := grown_tr HG hg5; replace hZ := hZ.grownB hg5 (by omega); replace hM := hM.grownB hg5 (by omega); have z' := hZ.cs8
   obtain ⟨x0, x1, x2, x3, x4, x5, x6, x7⟩ := hM.cs8
   replace OO := OO.cur hp hg5; replace OL := OL.kept hg5 (fun k hk e => by have := (OL.lt k hk).1; have := Option.some.inj e; omega); clear hm1 hm2
   cases b1
   ·skip
    exact zb21
   ·go_wp2
    go_loopw [6, 8] (fun v i wr => ∃ (m : Nat) (al : List Ac) (Y : Option Addr) (y : Nat), v = .slice Y al.length y ∧ i = .int .i64 (m : Int) ∧ m ≤ 22 ∧ al.length ≤ 7 + m ∧ OwnV wA.heap.size 36 6 Ac.cells wr (.slice Y al.length y) al ∧ MeO wA.heap.size wr D0 d0 D1 d1 D2 d2 D3 d3 D4 d4 rs qs ws sh os ∧ Blk wr w.heap.size 32 #[.slice none 0 0, .slice none 0 0, .int .i64 0, .int .i64 0, .int .i64 0, .slice none 0 0, .slice none 0 0, .slice none 0 0] ∧ Blk wr mb 32 #[.slice D0 rs.length d0, .slice D1 qs.length d1, .int .i64 tu, .int .i64 se, .int .i64 sp, .slice D2 ws.length d2, .slice D3 sh.length d3, .slice D4 os.length d4] ∧ Cur wr p A c cs (n0 + 3110 + 2 * m) ∧ w.grownBy wr (some p)) (fun _ i _ => 22 - (intOf i).toNat)
    case atStart => exact ⟨0, al, Y, y, rfl, rfl, by omega, by omega, OL, OO, hZ, hM, hC.mono (by omega), HG⟩
    case round =>
     clear hC hZ hM HG OO OL hal z' x0 x1 x2 x3 x4 x5 x6 x7
     obtain ⟨k, al, Y, y, rfl, rfl, hk, hal, OL, OO, hZ, hM, hC, HG⟩ := hrel
     have z' := hZ.cs8
     obtain ⟨x0, x1, x2, x3, x4, x5, x6, x7⟩ := hM.cs8
     have szr := hM.lt
     have szo : wA.heap.size ≤ wr.heap.size := by omega
     go_wp2_with fail
     refine (pick_is 2 p A c cs hcs (n0 + 3110 + 2 * k) (by omega) (by omega) _ (hC.later bel)).mono ?_
     rintro e w6 ⟨q, rfl, ⟨hbq, _, hcq⟩, hS6⟩
     clear z'; clear x0 x1 x2 x3 x4 x5 x6 x7; have hg6 : wr.grownBy w6 (some p) := grown_tr (bgr bel _) hS6.2; replace hC := hS6.1; have sz6 := hg6.size; replace HG := grown_tr HG hg6; replace hZ := hZ.grownB hg6 (by omega); replace hM := hM.grownB hg6 (by omega); have z' := hZ.cs8
     obtain ⟨x0, x1, x2, x3, x4, x5, x6, x7⟩ := hM.cs8
     replace hcq := hcq (by omega); replace OO := OO.cur hp hg6; replace OL := OL.kept hg6 (fun k hk e => by have := (OL.lt k hk).1; have := Option.some.inj e; omega)
     rcases (show ((al.length : Int) < 20 + q ∧ k < 22) ∨ ((al.length : Int) < 20 + q ∧ k = 22) ∨ ¬ ((al.length : Int) < 20 + q) by omega) with ⟨h1, h2⟩ | ⟨h1, h2⟩ | h1
     ·have d1 : decide ((al.length : Int) < 20 + q) = true := decide_eq_true h1
      have d2 : decide ((k : Int) < 22) = true := decide_eq_true (by omega)
      have d3 : (k : Int) < 22 := by omega
      go_upto_region 12 with fail
      clear d1 d2 d3 h1; have HCX := lh hC; have HGX := lh HG; have HZX := lh hZ; have HMX := lh hM; have HOO := lh OO; have HOL := lh OL; have hnZ := lh (OL.nb hZ); have hnM := lh (OL.nb hM); clear hC HG hZ hM OO OL z' x0 x1 x2 x3 x4 x5 x6 x7
      go_wp2_with ((at_builtin; refine wpList_app1 rfl _ _ 58 rfl wA.heap.size 36 j0 _ 6 48 Tryz.underlying58 hj jz0 jz1 jz2 rfl (by decide) Ac.cells ac_len ac_one _ al rfl (HOL.out.alloc _) ⟨w6.heap.size, 0, none⟩ 1 ⟨4, 0, 0, 0, 0, 0⟩ rfl (rds_oneA _ _ _ _ _ _ _ _) (by unfold maxLen; omega) (by omega) (by simp; omega) ?_; intro va wa hOa hga haa; clear haa; obtain ⟨ga, dd, rfl⟩ := own_some hOa (by simp)))
      have hC := (HCX.out.later (bl1 _ (.cells #[.int .i64 4, .int .i64 0, .int .i64 0, .int .i64 0, .int .i64 0, .int .i64 0] 36))).row hga (fun k hk => by have := (HOL.out.lt k hk).1; omega); have HG := grown_row2 (grown_tr HGX.out (bgr (bl1 _ (.cells #[.int .i64 4, .int .i64 0, .int .i64 0, .int .i64 0, .int .i64 0, .int .i64 0] 36)) _)) hga (fun k hk => by have := (HOL.out.lt k hk).1; omega); have hZ := (HZX.out.to (bl1 _ (.cells #[.int .i64 4, .int .i64 0, .int .i64 0, .int .i64 0, .int .i64 0, .int .i64 0] 36))).grownN hga (fun e => hnZ.out _ e.symm rfl)
      have hM := (HMX.out.to (bl1 _ (.cells #[.int .i64 4, .int .i64 0, .int .i64 0, .int .i64 0, .int .i64 0, .int .i64 0] 36))).grownN hga (fun e => hnM.out _ e.symm rfl); have OO := (HOO.out.later (bl1 _ (.cells #[.int .i64 4, .int .i64 0, .int .i64 0, .int .i64 0, .int .i64 0, .int .i64 0] 36))).keptA (HOL.out.later (bl1 _ (.cells #[.int .i64 4, .int .i64 0, .int .i64 0, .int .i64 0, .int .i64 0, .int .i64 0] 36))) hga
      have hl8 : (al ++ [(⟨4, 0, 0, 0, 0, 0⟩ : Ac)]).length ≤ 7 + (k + 1) := by simp; omega
      go_wp2
      go_roundw
      case rel => exact ⟨k + 1, _, _, dd, by simp, by go_num, by omega, hl8, hOa, OO, hZ, hM, hC.mono (by omega), HG⟩
      case measure => simp [intOf]; omega
     ·have d1 : decide ((al.length : Int) < 20 + q) = true := decide_eq_true h1
      have d2 : decide ((k : Int) < 22) = false := decide_eq_false (by omega)
      have d3 : ¬ (k : Int) < 22 := by omega
      go_upto_region 13 with fail
      clear d1 d2 d3 h1 h2
      exact zb21
     ·have d1 : decide ((al.length : Int) < 20 + q) = false := decide_eq_false h1
      go_upto_region 13 with fail
      clear d1 h1
      exact zb21
end Go.Proofs.YtjimibkgocieoaaGreat
