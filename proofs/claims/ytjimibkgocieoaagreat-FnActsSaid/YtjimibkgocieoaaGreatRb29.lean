/- Texts of the proof: walks of the functions, and what they compute. -/
import Derived.Deep.Cut
import Derived.Deep.CutRange
import Derived.Deep.DeepCutAuto
import Derived.Test.YtjimibkgocieoaaGreatRb1
import Derived.Test.YtjimibkgocieoaaGreatRb25
import Derived.Test.YtjimibkgocieoaaGreatRb28
import Derived.Test.YtjimibkgocieoaaGreatRb27
import Derived.Test.YtjimibkgocieoaaGreatRb26
import Derived.Test.YtjimibkgocieoaaGreatRb3
import Derived.Test.YtjimibkgocieoaaGreatRb0
set_option maxHeartbeats 16000000
set_option maxRecDepth 100000
namespace Go.Proofs.YtjimibkgocieoaaGreat
open Go.RowKit Go.G9
def wiA {T : Type} (e : TypeId) (sz : Nat) (f : T → List Value) (m1 m2 : Nat) (xs : List T) (cs : Array Value) : MkSpec (Option Addr × Nat) where
 par := fun n => if n = m1 then [0] else []
 val := fun n p => if n = 0 then .slice p.1 0 0 else if n = m1 then .slice p.1 xs.length p.2 else if n = m2 then .slice p.1 1 1 else undef
 post := fun n σ p V0 V => (n = 0 → p.1 = some ⟨V0.heap.size, 0, none⟩ ∧ Blk V V0.heap.size e #[]) ∧
  (n = m1 → ∃ g g', (σ 0).1 = some ⟨g, 0, none⟩ ∧ p.1 = some ⟨g', 0, none⟩ ∧ OwnV g e sz f V (.slice p.1 xs.length p.2) xs) ∧
  (n = m2 → ∃ g, p.1 = some ⟨g, 0, none⟩ ∧ V0.heap.size = g ∧ Blk V g e cs)
theorem rds_oneO (w : World) (r m : Int) (s : Bool) (e : TypeId) : Rds 3 Out.cells (w.alloc (.cells #[.int .i64 r, .int .i64 m, .bool s] e)) (some ⟨w.heap.size, 0, none⟩) [(⟨r, m, s⟩ : Out)] := by
 have h := (OwnV.built (B := w.heap.size) (f := Out.cells) w [(⟨r, m, s⟩ : Out)] e (Nat.le_refl _) (by simp [maxLen]) out_len).rds (hf := out_len)
 simpa [Out.cells] using h
theorem zb3 {p : Prop} (h : p := by
 replace hC := hC.later hb11; have sz11 := hg11.size; replace HG := grown_tr HG hg11; replace hZ := hZ.grownB hg11 (by omega); replace hN := hN.grownB hg11 (by omega); replace O0 := O0.kept hg11 (fun k hk e => by have h1 := (O0.lt k hk); have h2 : k = p := (Option.some.inj e); omega); replace O1 := O1.kept hg11 (fun k hk e => by have h1 := (O1.lt k hk); have h2 : k = p := (Option.some.inj e); omega)
 replace O2 := O2.kept hg11 (fun k hk e => by have h1 := (O2.lt k hk); have h2 : k = p := (Option.some.inj e); omega); replace O3 := O3.kept hg11 (fun k hk e => by have h1 := (O3.lt k hk); have h2 : k = p := (Option.some.inj e); omega); replace O4 := O4.kept hg11 (fun k hk e => by have h1 := (O4.lt k hk); have h2 : k = p := (Option.some.inj e); omega); replace OR := OR.kept hg11 (fun k hk e => by have h1 := (OR.lt k hk); have h2 : k = p := (Option.some.inj e); omega)
 have z' := hZ.cs8
 obtain ⟨v0, v1, v2, v3, v4, v5, v6, v7⟩ := hN.cs8
 replace hM := hM.grownB hg11 (by omega); replace OQ := OQ.base (B' := w.heap.size) szq; have Q0 := OQ.o0; have Q1 := OQ.o1; have Q2 := OQ.o2; have Q3 := OQ.o3; have Q4 := OQ.o4; clear OQ szq
 go_wp2
 refine ⟨rfl, (HCC.out _).2 hM, ?_⟩
 change wpQuiet _ _ _ _ (_ :: _ :: _ :: []) _
 repeat (go_big_quiet_step (fail))
 refine wpQuiet_nil ?_
 refine hK _ _ ?_
 clear hK K
 generalize w11 = wT at *
 clear x0 x1 x2 x3 x4 x5 x6 x7 v0 v1 v2 v3 v4 v5 v6 v7 z'; have z' := hZ.cs8
 obtain ⟨x0, x1, x2, x3, x4, x5, x6, x7⟩ := hM.cs8
 obtain ⟨v0, v1, v2, v3, v4, v5, v6, v7⟩ := hN.cs8
 have neO0 := O0.nb hN; have neO1 := O1.nb hN; have neO2 := O2.nb hN; have neO3 := O3.nb hN; have neO4 := O4.nb hN; have neQ0 := Q0.nb hN; have neQ1 := Q1.nb hN; have neQ2 := Q2.nb hN; have neQ3 := Q3.nb hN; have neQ4 := Q4.nb hN; have neOR := OR.nb hN; have fhN' := hN.fz8; have yhZ := hZ.lt; have yhM := hM.lt; have yhN := hN.lt
 refine rest_one 9 [10] #[true, true, true, true, true, true, true, true, true, true, true] (by kernel_rfl) ((HCC.out _).2 hM) (fun K hK => ?_)
 change wpList _ _ _ (_ :: []) _ _
 go_wp2
 clear z' x0 x1 x2 x3 x4 x5 x6 x7 v0 v1 v2 v3 v4 v5 v6 v7
 refine st8 0 fun wS twS => ?_
 replace HG := stG twS HG; replace hC := stC twS hC; replace hZ := twS.fa hZ; replace hM := twS.fa hM; replace hN := twS.all8 hN; replace O0 := O0.kS twS; replace O1 := O1.kS twS; replace O2 := O2.kS twS; replace O3 := O3.kS twS; replace O4 := O4.kS twS; replace Q0 := Q0.kS twS; replace Q1 := Q1.kS twS; replace Q2 := Q2.kS twS; replace Q3 := Q3.kS twS; replace Q4 := Q4.kS twS; replace OR := OR.kS twS
 have z' := hZ.cs8
 obtain ⟨x0, x1, x2, x3, x4, x5, x6, x7⟩ := hM.cs8
 obtain ⟨v0, v1, v2, v3, v4, v5, v6, v7⟩ := hN.cs8
 refine ⟨rfl, (HCC.out _).2 hM, ?_⟩
 change wpQuiet _ _ _ _ (_ :: []) _
 repeat (go_big_quiet_step (fail))
 refine wpQuiet_nil ?_
 refine hK _ _ ?_
 clear hK K
 refine rest_end (by kernel_rfl) ((HCC.out _).2 hM) ?_
 go_wp2_with fail
 go_meet
 exact ⟨nb, b, rs', qs', tu', se', sp', ws', sh', os', E0, e0, E1, e1, E2, e2, E3, e3, E4, e4, rfl, rfl, hnw, hnm, HBK, hZ, hM, hN, ⟨O0, O1, O2, O3, O4⟩, ⟨Q0, Q1, Q2, Q3, Q4⟩, OR, hC.mono (by omega), HG⟩) : p := h
theorem meeting_is (p : Nat) (A : Option Addr) (c : Nat) (cs : List UInt8) (hcs : cs.length ≤ 1048576) (N : Nat) (hN : N ≤ 200000) (w : World) (hC : Cur w p A c cs N) :
 Calls Tryz.prog 44 #[.pointer (some ⟨p, 0, none⟩)] w fun e w' => ∃ (rs : List Rul) (qs : List Que) (tu se sp : Int) (ws : List Int) (sh : List Sha) (os : List Out) (D0 : Option Addr) (d0 : Nat) (D1 : Option Addr) (d1 : Nat) (D2 : Option Addr) (d2 : Nat) (D3 : Option Addr) (d3 : Nat) (D4 : Option Addr) (d4 : Nat), e = .returned (.agg #[.slice D0 rs.length d0, .slice D1 qs.length d1, .int .i64 tu, .int .i64 se, .int .i64 sp, .slice D2 ws.length d2, .slice D3 sh.length d3, .slice D4 os.length d4]) ∧ rs.length ≤ 12 ∧ (∀ t ∈ rs, t.name.size ≤ 12) ∧ qs.length ≤ 7 ∧ ws.length ≤ 60 ∧ sh.length ≤ 99 ∧ os.length ≤ 30 ∧ MeO w.heap.size w' D0 d0 D1 d1 D2 d2 D3 d3 D4 d4 rs qs ws sh os ∧ Stepped w w' p A c cs (N + 2600) := by
 obtain ⟨i0, hi, hz0, hz1, hz2⟩ := info_parts info_Out
 go_in
 have hp := hC.lt; have HG := grown_refl w (some p)
 go_upto_region 1 with fail
 have hb1 : Below w.heap.size w (World.alloc w (.cells #[.slice none 0 0, .slice none 0 0, .int .i64 0, .int .i64 0, .int .i64 0, .slice none 0 0, .slice none 0 0, .slice none 0 0] 32)) := bl1 w _
 have hZ : Blk (World.alloc w (.cells #[.slice none 0 0, .slice none 0 0, .int .i64 0, .int .i64 0, .int .i64 0, .slice none 0 0, .slice none 0 0, .slice none 0 0] 32)) (w.heap.size) 32 #[.slice none 0 0, .slice none 0 0, .int .i64 0, .int .i64 0, .int .i64 0, .slice none 0 0, .slice none 0 0, .slice none 0 0] := by repeat (first | exact Blk.new _ _ _ | exact Blk.new2 _ _ _ _ | exact Blk.new3 _ _ _ _ _ | exact Blk.new4 _ _ _ _ _ _ | refine Blk.alloc ?_ _)
 generalize World.alloc w (.cells #[.slice none 0 0, .slice none 0 0, .int .i64 0, .int .i64 0, .int .i64 0, .slice none 0 0, .slice none 0 0, .slice none 0 0] 32) = w1 at *
 replace hC := hC.later hb1; replace HG := grown_tr HG (bgr hb1 (some p)); have sz1 := hb1.size; have LhZ := hZ.lt; have z' := hZ.cs8
 go_wp2_with fail
 refine (ladder_is p A c cs hcs N (by omega) _ (hC.later bel)).mono ?_
 rintro e w2 ⟨rs, g, y, rfl, hrl, hrn, OR, hS2⟩
 clear z'; have hg2 : w1.grownBy w2 (some p) := grown_tr (bgr bel _) hS2.2; replace hC := hS2.1; have sz2 := hg2.size; replace HG := grown_tr HG hg2; replace hZ := hZ.grownB hg2 (by omega); have z' := hZ.cs8; replace OR := OR.base (B' := w.heap.size) (by omega)
 obtain ⟨rb, hrb⟩ : ∃ b, rulesB rs = b := ⟨_, rfl⟩
 go_wp2_with fail
 refine (l2Good_is (some ⟨g, 0, none⟩) y rs (by omega) rb hrb _ (OR.rds rul_len')).mono ?_
 rintro e w3 ⟨rfl, hS3⟩
 clear z'; have hb3 : Below w2.heap.size w2 w3 := bth bel hS3; have hg3 : w2.grownBy w3 (some p) := bgr hb3 _; replace hC := hC.later hb3; have sz3 := hg3.size; replace HG := grown_tr HG hg3; replace hZ := hZ.grownB hg3 (by omega); replace OR := OR.kept hg3 (fun k hk e => by have h1 := (OR.lt k hk); have h2 : k = p := (Option.some.inj e); omega); have z' := hZ.cs8
 go_upto_if 14 with fail
 clear z'
 go_cut [3] (fun v W => ∃ (rs : List Rul) (g y : Nat), v = .slice (some ⟨g, 0, none⟩) rs.length y ∧ rs.length ≤ 12 ∧ Hid (rulesB rs = true) ∧ Hid (∀ t ∈ rs, t.name.size ≤ 12) ∧ OwnV w.heap.size 48 7 Rul.cells W (.slice (some ⟨g, 0, none⟩) rs.length y) rs ∧ Blk W w.heap.size 32 #[.slice none 0 0, .slice none 0 0, .int .i64 0, .int .i64 0, .int .i64 0, .slice none 0 0, .slice none 0 0, .slice none 0 0] ∧ Cur W p A c cs (N + 700) ∧ w.grownBy W (some p))
 case first =>
  cases rb
  ·go_wp2_with fail
   have szg := HG.size; have OB := (OwnV.built (B := w.heap.size) (f := Rul.cells) w3 [(⟨1, (⟨#[109, 97, 105, 110]⟩ : ByteArray), 0, false, true, false, 1, by decide⟩ : Rul), ⟨2, (⟨#[116, 97, 98, 108, 101]⟩ : ByteArray), 4, true, false, false, 1, by decide⟩] 48 szg (by simp [maxLen]) rul_len')
   rw [show ([(⟨1, (⟨#[109, 97, 105, 110]⟩ : ByteArray), 0, false, true, false, 1, by decide⟩ : Rul), ⟨2, (⟨#[116, 97, 98, 108, 101]⟩ : ByteArray), 4, true, false, false, 1, by decide⟩].flatMap Rul.cells).toArray = #[.int .i64 1, .string (⟨#[109, 97, 105, 110]⟩ : ByteArray), .int .i64 0, .bool false, .bool true, .bool false, .int .i64 1, .int .i64 2, .string (⟨#[116, 97, 98, 108, 101]⟩ : ByteArray), .int .i64 4, .bool true, .bool false, .bool false, .int .i64 1] from rfl] at OB
   replace hZ := hZ.to (bl1 w3 (.cells #[.int .i64 1, .string (⟨#[109, 97, 105, 110]⟩ : ByteArray), .int .i64 0, .bool false, .bool true, .bool false, .int .i64 1, .int .i64 2, .string (⟨#[116, 97, 98, 108, 101]⟩ : ByteArray), .int .i64 4, .bool true, .bool false, .bool false, .int .i64 1] 48)); replace HG := grown_tr HG (bgr (bl1 w3 (.cells #[.int .i64 1, .string (⟨#[109, 97, 105, 110]⟩ : ByteArray), .int .i64 0, .bool false, .bool true, .bool false, .int .i64 1, .int .i64 2, .string (⟨#[116, 97, 98, 108, 101]⟩ : ByteArray), .int .i64 4, .bool true, .bool false, .bool false, .int .i64 1] 48)) (some p))
   replace hC := hC.later (bl1 w3 (.cells #[.int .i64 1, .string (⟨#[109, 97, 105, 110]⟩ : ByteArray), .int .i64 0, .bool false, .bool true, .bool false, .int .i64 1, .int .i64 2, .string (⟨#[116, 97, 98, 108, 101]⟩ : ByteArray), .int .i64 4, .bool true, .bool false, .bool false, .int .i64 1] 48))
   go_meet
   exact ⟨[(⟨1, (⟨#[109, 97, 105, 110]⟩ : ByteArray), 0, false, true, false, 1, by decide⟩ : Rul), ⟨2, (⟨#[116, 97, 98, 108, 101]⟩ : ByteArray), 4, true, false, false, 1, by decide⟩], _, 2, rfl, by decide, lh (by kernel_rfl), lh (by intro t ht; simp only [List.mem_cons, List.not_mem_nil, or_false] at ht; rcases ht with rfl | rfl <;> decide), OB, hZ, hC, HG⟩
  ·go_wp2_with fail
   go_meet
   exact ⟨rs, g, y, rfl, hrl, lh hrb, lh hrn, OR, hZ, hC, HG⟩
 case rest =>
  clear hZ hC HG OR hrl hrn hrb
  obtain ⟨rs, g, y, rfl, hrl, HRB, HRN, OR, hZ, hC, HG⟩ := hcut
  generalize wc = wL at *
  have z' := hZ.cs8
  go_wp2_with fail
  refine (pick_is 3 p A c cs hcs (N + 700) (by omega) (by omega) _ (hC.later bel)).mono ?_
  rintro e w4 ⟨r1, rfl, ⟨hbr1, _, hcr1⟩, hS4⟩
  clear z'; have hg4 : wL.grownBy w4 (some p) := grown_tr (bgr bel _) hS4.2; replace hC := hS4.1; have sz4 := hg4.size; replace HG := grown_tr HG hg4; replace hZ := hZ.grownB hg4 (by omega); replace OR := OR.kept hg4 (fun k hk e => by have h1 := (OR.lt k hk); have h2 : k = p := (Option.some.inj e); omega); have z' := hZ.cs8; replace hcr1 := hcr1 (by omega)
  go_wp2_with fail
  refine (amongL [10, 60, 3600] (10) 3600 (by decide) (by decide) (by decide) p A c cs hcs (N + 702) (by omega) w4 (hC.later (bl0 _))).mono ?_
  rintro e w5 ⟨s0, rfl, hbs0, hS5⟩
  clear z'; have hg5 : w4.grownBy w5 (some p) := grown_tr (bgr bel _) hS5.2; replace hC := hS5.1; have sz5 := hg5.size; replace HG := grown_tr HG hg5; replace hZ := hZ.grownB hg5 (by omega); replace OR := OR.kept hg5 (fun k hk e => by have h1 := (OR.lt k hk); have h2 : k = p := (Option.some.inj e); omega); have z' := hZ.cs8
  have hnm : nmB rs (1 + r1) s0 = true := by
   have h1 := HRB.out
   rw [nmB, h1, Bool.and_true]
   exact flo_new ⟨by omega, by omega⟩ ⟨by omega, by omega⟩
  have szq := HG.size; have HKR := lh (own_cap OR rul_len')
  go_wp2_with fail
  refine (drNewM_is (some ⟨g, 0, none⟩) y rs (by omega) (1 + r1) s0 hnm _ (OR.rds rul_len') (fun h => by cases h) HKR.out).mono ?_
  rintro e w6 ⟨qs, tu, se, sp, ws, sh, os, D0, d0, D1, d1, D2, d2, D3, d3, D4, d4, rfl, HOK, OO, hS6⟩
  clear z'; have hb6 : Below w5.heap.size w5 w6 := bth bel hS6; have hg6 : w5.grownBy w6 (some p) := bgr hb6 _; replace hC := hC.later hb6; have sz6 := hg6.size; replace HG := grown_tr HG hg6; replace hZ := hZ.grownB hg6 (by omega); replace OR := OR.kept hg6 (fun k hk e => by have h1 := (OR.lt k hk); have h2 : k = p := (Option.some.inj e); omega); have z' := hZ.cs8; replace OO := OO.base (B' := w.heap.size) szq
  have O0 := OO.o0; have O1 := OO.o1; have O2 := OO.o2; have O3 := OO.o3; have O4 := OO.o4; clear OO hnm hbr1 hcr1 hbs0
  go_upto_region 5 with fail
  obtain ⟨mb, hmb⟩ : ∃ b, b = w6.heap.size := ⟨_, rfl⟩
  have hmw : w.heap.size < mb := by have := hZ.lt; omega
  have hb7 : Below w6.heap.size w6 (World.alloc w6 (.cells #[.slice D0 rs.length d0, .slice D1 qs.length d1, .int .i64 tu, .int .i64 se, .int .i64 sp, .slice D2 ws.length d2, .slice D3 sh.length d3, .slice D4 os.length d4] 32)) := bl1 w6 _
  have hM : Blk (World.alloc w6 (.cells #[.slice D0 rs.length d0, .slice D1 qs.length d1, .int .i64 tu, .int .i64 se, .int .i64 sp, .slice D2 ws.length d2, .slice D3 sh.length d3, .slice D4 os.length d4] 32)) (w6.heap.size) 32 #[.slice D0 rs.length d0, .slice D1 qs.length d1, .int .i64 tu, .int .i64 se, .int .i64 sp, .slice D2 ws.length d2, .slice D3 sh.length d3, .slice D4 os.length d4] := by repeat (first | exact Blk.new _ _ _ | exact Blk.new2 _ _ _ _ | exact Blk.new3 _ _ _ _ _ | exact Blk.new4 _ _ _ _ _ _ | refine Blk.alloc ?_ _)
  generalize World.alloc w6 (.cells #[.slice D0 rs.length d0, .slice D1 qs.length d1, .int .i64 tu, .int .i64 se, .int .i64 sp, .slice D2 ws.length d2, .slice D3 sh.length d3, .slice D4 os.length d4] 32) = wM at *
  replace hC := hC.later hb7; replace HG := grown_tr HG (bgr hb7 (some p)); clear z'; replace hZ := hZ.grownB (bgr hb7 (some p)) (by omega); have z' := hZ.cs8; replace OR := OR.kept (bgr hb7 (some p)) (fun k hk e => by have h1 := (OR.lt k hk); have h2 : k = p := (Option.some.inj e); omega); replace O0 := O0.kept (bgr hb7 (some p)) (fun k hk e => by have h1 := (O0.lt k hk); have h2 : k = p := (Option.some.inj e); omega)
  replace O1 := O1.kept (bgr hb7 (some p)) (fun k hk e => by have h1 := (O1.lt k hk); have h2 : k = p := (Option.some.inj e); omega); replace O2 := O2.kept (bgr hb7 (some p)) (fun k hk e => by have h1 := (O2.lt k hk); have h2 : k = p := (Option.some.inj e); omega); replace O3 := O3.kept (bgr hb7 (some p)) (fun k hk e => by have h1 := (O3.lt k hk); have h2 : k = p := (Option.some.inj e); omega); replace O4 := O4.kept (bgr hb7 (some p)) (fun k hk e => by have h1 := (O4.lt k hk); have h2 : k = p := (Option.some.inj e); omega)
  have sz7 := hb7.size; have LhM := hM.lt
  obtain ⟨x0, x1, x2, x3, x4, x5, x6, x7⟩ := hM.cs8
  rw [← hmb] at hM x0 x1 x2 x3 x4 x5 x6 x7
  rw [← hmb]
  clear hmb x0 x1 x2 x3 x4 x5 x6 x7
  obtain ⟨x0, x1, x2, x3, x4, x5, x6, x7⟩ := hM.cs8
  go_wp2_with fail
  refine (pick_is 18 p A c cs hcs (N + 704) (by omega) (by omega) _ (hC.later bel)).mono ?_
  rintro e w8 ⟨r2, rfl, ⟨hbr2, _, hcr2⟩, hS8⟩
  clear z'; clear x0 x1 x2 x3 x4 x5 x6 x7; have hg8 : wM.grownBy w8 (some p) := grown_tr (bgr bel _) hS8.2; replace hC := hS8.1; have sz8 := hg8.size; replace HG := grown_tr HG hg8; replace hZ := hZ.grownB hg8 (by omega); replace hM := hM.grownB hg8 (by omega); replace OR := OR.kept hg8 (fun k hk e => by have h1 := (OR.lt k hk); have h2 : k = p := (Option.some.inj e); omega); replace O0 := O0.kept hg8 (fun k hk e => by have h1 := (O0.lt k hk); have h2 : k = p := (Option.some.inj e); omega)
  replace O1 := O1.kept hg8 (fun k hk e => by have h1 := (O1.lt k hk); have h2 : k = p := (Option.some.inj e); omega); replace O2 := O2.kept hg8 (fun k hk e => by have h1 := (O2.lt k hk); have h2 : k = p := (Option.some.inj e); omega); replace O3 := O3.kept hg8 (fun k hk e => by have h1 := (O3.lt k hk); have h2 : k = p := (Option.some.inj e); omega); replace O4 := O4.kept hg8 (fun k hk e => by have h1 := (O4.lt k hk); have h2 : k = p := (Option.some.inj e); omega)
  have z' := hZ.cs8
  obtain ⟨x0, x1, x2, x3, x4, x5, x6, x7⟩ := hM.cs8
  replace hcr2 := hcr2 (by omega)
  obtain ⟨k0, rfl⟩ : ∃ m : Nat, r2 = m := ⟨r2.toNat, by omega⟩
  go_wp2
  go_loopw [6] (fun i wr => ∃ (m : Nat) (qs : List Que) (tu se sp : Int) (ws : List Int) (sh : List Sha) (os : List Out) (D0 : Option Addr) (d0 : Nat) (D1 : Option Addr) (d1 : Nat) (D2 : Option Addr) (d2 : Nat) (D3 : Option Addr) (d3 : Nat) (D4 : Option Addr) (d4 : Nat), i = .int .i64 (m : Int) ∧ m ≤ 17 ∧ Hid (MeeOk ⟨rs, qs, tu, se, sp, ws, sh, os⟩) ∧ Blk wr w.heap.size 32 #[.slice none 0 0, .slice none 0 0, .int .i64 0, .int .i64 0, .int .i64 0, .slice none 0 0, .slice none 0 0, .slice none 0 0] ∧ Blk wr mb 32 #[.slice D0 rs.length d0, .slice D1 qs.length d1, .int .i64 tu, .int .i64 se, .int .i64 sp, .slice D2 ws.length d2, .slice D3 sh.length d3, .slice D4 os.length d4] ∧ MeO w.heap.size wr D0 d0 D1 d1 D2 d2 D3 d3 D4 d4 rs qs ws sh os ∧ OwnV w.heap.size 48 7 Rul.cells wr (.slice (some ⟨g, 0, none⟩) rs.length y) rs ∧ Cur wr p A c cs (N + 710 + 62 * (17 - m)) ∧ w.grownBy wr (some p)) (fun i _ => (intOf i).toNat)
  case atStart => exact ⟨k0, qs, tu, se, sp, ws, sh, os, D0, d0, D1, d1, D2, d2, D3, d3, D4, d4, rfl, by omega, HOK, hZ, hM, ⟨O0, O1, O2, O3, O4⟩, OR, hC.mono (by omega), HG⟩
  case round =>
   clear hC hZ hM HG O0 O1 O2 O3 O4 OR HOK x0 x1 x2 x3 x4 x5 x6 x7 z'
   obtain ⟨m, qs, tu, se, sp, ws, sh, os, D0, d0, D1, d1, D2, d2, D3, d3, D4, d4, rfl, hm17, HOK, hZ, hM, OO, OR, hC, HG⟩ := hrel
   obtain ⟨l0, l1, l2, l3, l4⟩ := mee_len HOK.out
   simp only at l0 l1 l2 l3 l4
   have HZI := lh (OO.inp (by omega) (by omega) (by omega) (by omega) (by omega)); have O0 := OO.o0; have O1 := OO.o1; have O2 := OO.o2; have O3 := OO.o3; have O4 := OO.o4; clear OO; have z' := hZ.cs8
   obtain ⟨x0, x1, x2, x3, x4, x5, x6, x7⟩ := hM.cs8
   by_cases hlt : 0 < m
   ·have hmm : (m : Int) - 1 = ((m - 1 : Nat) : Int) := by omega
    have hm1 : (0 : Int) < (m : Int) := by omega
    have hm2 : decide ((0 : Int) < (m : Int)) = true := decide_eq_true hm1
    go_upto_region 8 with fail
    clear hm1 hm2
    go_cut [7, 8] from 31 to 44 (fun v7 v8 W => ∃ (nb : Nat) (b : Bool) (rs' : List Rul) (qs' : List Que) (tu' se' sp' : Int) (ws' : List Int) (sh' : List Sha) (os' : List Out) (E0 : Option Addr) (e0 : Nat) (E1 : Option Addr) (e1 : Nat) (E2 : Option Addr) (e2 : Nat) (E3 : Option Addr) (e3 : Nat) (E4 : Option Addr) (e4 : Nat), v7 = .pointer (some ⟨nb, 0, none⟩) ∧ v8 = .bool b ∧ w.heap.size < nb ∧ mb < nb ∧ Hid (b = true → rs' = rs ∧ MeeOk ⟨rs', qs', tu', se', sp', ws', sh', os'⟩) ∧ Blk W w.heap.size 32 #[.slice none 0 0, .slice none 0 0, .int .i64 0, .int .i64 0, .int .i64 0, .slice none 0 0, .slice none 0 0, .slice none 0 0] ∧ Blk W mb 32 #[.slice D0 rs.length d0, .slice D1 qs.length d1, .int .i64 tu, .int .i64 se, .int .i64 sp, .slice D2 ws.length d2, .slice D3 sh.length d3, .slice D4 os.length d4] ∧ Blk W nb 32 #[.slice E0 rs'.length e0, .slice E1 qs'.length e1, .int .i64 tu', .int .i64 se', .int .i64 sp', .slice E2 ws'.length e2, .slice E3 sh'.length e3, .slice E4 os'.length e4] ∧ MeO w.heap.size W D0 d0 D1 d1 D2 d2 D3 d3 D4 d4 rs qs ws sh os ∧ MeO w.heap.size W E0 e0 E1 e1 E2 e2 E3 e3 E4 e4 rs' qs' ws' sh' os' ∧ OwnV w.heap.size 48 7 Rul.cells W (.slice (some ⟨g, 0, none⟩) rs.length y) rs ∧ Cur W p A c cs (N + 710 + 62 * (17 - m) + 60) ∧ w.grownBy W (some p))
    case first =>
     obtain ⟨CC, hCC⟩ : ∃ X : World → Prop, ∀ V, X V ↔ Blk V mb 32 #[.slice D0 rs.length d0, .slice D1 qs.length d1, .int .i64 tu, .int .i64 se, .int .i64 sp, .slice D2 ws.length d2, .slice D3 sh.length d3, .slice D4 os.length d4] := ⟨_, fun _ => Iff.rfl⟩
     have HCC := lh hCC; clear hCC
     refine wp_region_rest CC [0, 1, 2] #[true, true, true, false, false, false, false, false, false, false, false] (by kernel_rfl) (by kernel_rfl) ((HCC.out _).2 hM) (fun K hK => ?_)
     replace O0 := O0.later (Below.refl wr.heap.size wr).drew; replace O1 := O1.later (Below.refl wr.heap.size wr).drew; replace O2 := O2.later (Below.refl wr.heap.size wr).drew; replace O3 := O3.later (Below.refl wr.heap.size wr).drew; replace O4 := O4.later (Below.refl wr.heap.size wr).drew; replace OR := OR.later (Below.refl wr.heap.size wr).drew
     haveI : Nonempty (Hld CC) := ⟨⟨_, (HCC.out _).2 hM⟩⟩
     replace hC := hC.later (Below.refl _ _).drew; replace HG := grown_tr HG (bgr (Below.refl wr.heap.size wr).drew (some p)); clear z'; replace hZ : Blk wr.drew (w.heap.size) 32 #[.slice none 0 0, .slice none 0 0, .int .i64 0, .int .i64 0, .int .i64 0, .slice none 0 0, .slice none 0 0, .slice none 0 0] := hZ; clear x0 x1 x2 x3 x4 x5 x6 x7; replace hM : Blk wr.drew (mb) 32 #[.slice D0 rs.length d0, .slice D1 qs.length d1, .int .i64 tu, .int .i64 se, .int .i64 sp, .slice D2 ws.length d2, .slice D3 sh.length d3, .slice D4 os.length d4] := hM
     have szd : wr.drew.heap.size = wr.heap.size := rfl
     generalize wr.drew = wd at *
     have z' := hZ.cs8
     obtain ⟨x0, x1, x2, x3, x4, x5, x6, x7⟩ := hM.cs8
     clear szd; have szd2 : w.heap.size ≤ wd.heap.size := HG.size; clear x0 x1 x2 x3 x4 x5 x6 x7
     obtain ⟨x0, x1, x2, x3, x4, x5, x6, x7⟩ := Blk.cs8K (fun K : Hld CC => (HCC.out _).1 K.holds)
     change wpQuiet _ _ _ _ (_ :: _ :: _ :: []) _
     repeat (go_big_quiet_step (fail))
     refine wpQuiet_nil ?_
     refine hK _ _ ?_
     clear hK K
     refine rest_two 3 [] #[true, true, true, true, false, false, false, false, false, false, false] 8 [] #[true, true, true, false, false, false, false, false, true, false, false] (by kernel_rfl) ((HCC.out _).2 hM) (fun K hK => ?_) (fun K hK => ?_)
     ·skip
      change wpList _ _ _ (_ :: []) _ _
      have HMA : MeAp p D0 D1 rs qs := ⟨own_ne O0 hp, own_ne O1 hp⟩
      go_wp2_with fail
      refine (act_is D0 D1 D2 D3 D4 d0 d1 d2 d3 d4 rs qs tu se sp ws sh os (by omega) (by omega) p A c cs hcs (N + 710 + 62 * (17 - m)) (by omega) _ (hC.later bel) (O0.rds rul_len) (O1.rds que_len) HMA).mono ?_
      rintro e w9 ⟨kd, me, vl, ye, no, ab, rfl, hS9⟩
      clear z'; have hg9 : wd.grownBy w9 (some p) := grown_tr (bgr bel _) hS9.2; replace hC := hS9.1; have sz9 := hg9.size; replace HG := grown_tr HG hg9; replace hZ := hZ.grownB hg9 (by omega); replace O0 := O0.kept hg9 (fun k hk e => by have h1 := (O0.lt k hk); have h2 : k = p := (Option.some.inj e); omega); replace O1 := O1.kept hg9 (fun k hk e => by have h1 := (O1.lt k hk); have h2 : k = p := (Option.some.inj e); omega)
      replace O2 := O2.kept hg9 (fun k hk e => by have h1 := (O2.lt k hk); have h2 : k = p := (Option.some.inj e); omega); replace O3 := O3.kept hg9 (fun k hk e => by have h1 := (O3.lt k hk); have h2 : k = p := (Option.some.inj e); omega); replace O4 := O4.kept hg9 (fun k hk e => by have h1 := (O4.lt k hk); have h2 : k = p := (Option.some.inj e); omega); replace OR := OR.kept hg9 (fun k hk e => by have h1 := (OR.lt k hk); have h2 : k = p := (Option.some.inj e); omega)
      have z' := hZ.cs8; replace hM := hM.grownB hg9 (by omega); clear HMA
      go_wp2
      refine ⟨rfl, (HCC.out _).2 hM, ?_⟩
      change wpQuiet _ _ _ _ ([]) _
      refine wpQuiet_nil ?_
      refine hK _ _ ?_
      clear hK K
      refine rest_two 4 [5, 6, 7] #[true, true, true, true, true, true, true, true, false, false, false] 8 [] #[true, true, true, true, false, false, false, false, true, false, false] (by kernel_rfl) ((HCC.out _).2 hM) (fun K hK => ?_) (fun K hK => ?_)
      ·skip
       change wpList _ _ _ (_ :: []) _ _
       have szq := HG.size
       go_wp2_with fail
       refine (drMake_is D0 D1 D2 D3 D4 d0 d1 d2 d3 d4 rs qs tu se sp ws sh os HZI.out kd me vl ye no ab HOK.out _ ⟨O0.rds rul_len, O1.rds que_len, O2.rds intC_len, O3.rds sha_len, O4.rds out_len⟩).mono ?_
       rintro e w10 ⟨rs', qs', tu', se', sp', ws', sh', os', E0, e0, E1, e1, E2, e2, E3, e3, E4, e4, b, rfl, HBK, OQ, hS10⟩
       clear z'; have hb10 : Below w9.heap.size w9 w10 := bth bel hS10; have hg10 : w9.grownBy w10 (some p) := bgr hb10 _; replace hC := hC.later hb10; have sz10 := hg10.size; replace HG := grown_tr HG hg10; replace hZ := hZ.grownB hg10 (by omega); replace O0 := O0.kept hg10 (fun k hk e => by have h1 := (O0.lt k hk); have h2 : k = p := (Option.some.inj e); omega); replace O1 := O1.kept hg10 (fun k hk e => by have h1 := (O1.lt k hk); have h2 : k = p := (Option.some.inj e); omega)
       replace O2 := O2.kept hg10 (fun k hk e => by have h1 := (O2.lt k hk); have h2 : k = p := (Option.some.inj e); omega); replace O3 := O3.kept hg10 (fun k hk e => by have h1 := (O3.lt k hk); have h2 : k = p := (Option.some.inj e); omega); replace O4 := O4.kept hg10 (fun k hk e => by have h1 := (O4.lt k hk); have h2 : k = p := (Option.some.inj e); omega); replace OR := OR.kept hg10 (fun k hk e => by have h1 := (OR.lt k hk); have h2 : k = p := (Option.some.inj e); omega)
       have z' := hZ.cs8; replace hM := hM.grownB hg10 (by omega); replace OQ := OQ.base (B' := w.heap.size) szq; have Q0 := OQ.o0; have Q1 := OQ.o1; have Q2 := OQ.o2; have Q3 := OQ.o3; have Q4 := OQ.o4; clear OQ szq
       go_wp2
       refine ⟨rfl, (HCC.out _).2 hM, ?_⟩
       change wpQuiet _ _ _ _ (_ :: _ :: _ :: []) _
       repeat (go_big_quiet_step (fail))
       refine wpQuiet_nil ?_
       refine hK _ _ ?_
       clear hK K
       refine rest_one 8 [] #[true, true, true, true, true, true, true, true, true, false, false] (by kernel_rfl) ((HCC.out _).2 hM) (fun K hK => ?_)
       change wpList _ _ _ (_ :: []) _ _
       obtain ⟨nb, hnb⟩ : ∃ b, b = w10.heap.size := ⟨_, rfl⟩
       have hnw : w.heap.size < nb := by have := hM.lt; omega
       have hnm : mb < nb := by have := hM.lt; omega
       go_wp2
       have hb11 : Below w10.heap.size w10 (World.alloc w10 (.cells #[.slice none 0 0, .slice none 0 0, .int .i64 0, .int .i64 0, .int .i64 0, .slice none 0 0, .slice none 0 0, .slice none 0 0] 32)) := bl1 w10 _
       have hN : Blk (World.alloc w10 (.cells #[.slice none 0 0, .slice none 0 0, .int .i64 0, .int .i64 0, .int .i64 0, .slice none 0 0, .slice none 0 0, .slice none 0 0] 32)) (w10.heap.size) 32 #[.slice none 0 0, .slice none 0 0, .int .i64 0, .int .i64 0, .int .i64 0, .slice none 0 0, .slice none 0 0, .slice none 0 0] := by repeat (first | exact Blk.new _ _ _ | exact Blk.new2 _ _ _ _ | exact Blk.new3 _ _ _ _ _ | exact Blk.new4 _ _ _ _ _ _ | refine Blk.alloc ?_ _)
       generalize World.alloc w10 (.cells #[.slice none 0 0, .slice none 0 0, .int .i64 0, .int .i64 0, .int .i64 0, .slice none 0 0, .slice none 0 0, .slice none 0 0] 32) = wA at *
       replace hC := hC.later hb11; replace HG := grown_tr HG (bgr hb11 (some p)); clear z'; replace hZ := hZ.grownB (bgr hb11 (some p)) (by omega); have z' := hZ.cs8; replace O0 := O0.kept (bgr hb11 (some p)) (fun k hk e => by have h1 := (O0.lt k hk); have h2 : k = p := (Option.some.inj e); omega); replace O1 := O1.kept (bgr hb11 (some p)) (fun k hk e => by have h1 := (O1.lt k hk); have h2 : k = p := (Option.some.inj e); omega)
       replace O2 := O2.kept (bgr hb11 (some p)) (fun k hk e => by have h1 := (O2.lt k hk); have h2 : k = p := (Option.some.inj e); omega); replace O3 := O3.kept (bgr hb11 (some p)) (fun k hk e => by have h1 := (O3.lt k hk); have h2 : k = p := (Option.some.inj e); omega); replace O4 := O4.kept (bgr hb11 (some p)) (fun k hk e => by have h1 := (O4.lt k hk); have h2 : k = p := (Option.some.inj e); omega)
       replace OR := OR.kept (bgr hb11 (some p)) (fun k hk e => by have h1 := (OR.lt k hk); have h2 : k = p := (Option.some.inj e); omega); replace Q0 := Q0.kept (bgr hb11 (some p)) (fun k hk e => by have h1 := (Q0.lt k hk); have h2 : k = p := (Option.some.inj e); omega); replace Q1 := Q1.kept (bgr hb11 (some p)) (fun k hk e => by have h1 := (Q1.lt k hk); have h2 : k = p := (Option.some.inj e); omega)
       replace Q2 := Q2.kept (bgr hb11 (some p)) (fun k hk e => by have h1 := (Q2.lt k hk); have h2 : k = p := (Option.some.inj e); omega); replace Q3 := Q3.kept (bgr hb11 (some p)) (fun k hk e => by have h1 := (Q3.lt k hk); have h2 : k = p := (Option.some.inj e); omega); replace Q4 := Q4.kept (bgr hb11 (some p)) (fun k hk e => by have h1 := (Q4.lt k hk); have h2 : k = p := (Option.some.inj e); omega)
       have sz11 := hb11.size; have LhN := hN.lt
       obtain ⟨v0, v1, v2, v3, v4, v5, v6, v7⟩ := hN.cs8
       replace hM := hM.grownB (bgr hb11 (some p)) (by omega)
       rw [← hnb] at hN v0 v1 v2 v3 v4 v5 v6 v7
       rw [← hnb]
       clear hnb v0 v1 v2 v3 v4 v5 v6 v7
       obtain ⟨v0, v1, v2, v3, v4, v5, v6, v7⟩ := hN.cs8
       refine ⟨rfl, (HCC.out _).2 hM, ?_⟩
       change wpQuiet _ _ _ _ ([]) _
       refine wpQuiet_nil ?_
       refine hK _ _ ?_
       clear hK K
       generalize wA = wT at *
       clear x0 x1 x2 x3 x4 x5 x6 x7 v0 v1 v2 v3 v4 v5 v6 v7 z'; have z' := hZ.cs8
       obtain ⟨x0, x1, x2, x3, x4, x5, x6, x7⟩ := hM.cs8
       obtain ⟨v0, v1, v2, v3, v4, v5, v6, v7⟩ := hN.cs8
       have neO0 := O0.nb hN; have neO1 := O1.nb hN; have neO2 := O2.nb hN; have neO3 := O3.nb hN; have neO4 := O4.nb hN; have neQ0 := Q0.nb hN; have neQ1 := Q1.nb hN; have neQ2 := Q2.nb hN; have neQ3 := Q3.nb hN; have neQ4 := Q4.nb hN; have neOR := OR.nb hN; have fhN' := hN.fz8; have yhZ := hZ.lt; have yhM := hM.lt; have yhN := hN.lt
       refine rest_one 9 [10] #[true, true, true, true, true, true, true, true, true, true, true] (by kernel_rfl) ((HCC.out _).2 hM) (fun K hK => ?_)
       change wpList _ _ _ (_ :: []) _ _
       go_wp2
       clear z' x0 x1 x2 x3 x4 x5 x6 x7 v0 v1 v2 v3 v4 v5 v6 v7
       refine st8 0 fun wS twS => ?_
       replace HG := stG twS HG; replace hC := stC twS hC; replace hZ := twS.fa hZ; replace hM := twS.fa hM; replace hN := twS.all8 hN; replace O0 := O0.kS twS; replace O1 := O1.kS twS; replace O2 := O2.kS twS; replace O3 := O3.kS twS; replace O4 := O4.kS twS; replace Q0 := Q0.kS twS; replace Q1 := Q1.kS twS; replace Q2 := Q2.kS twS; replace Q3 := Q3.kS twS; replace Q4 := Q4.kS twS; replace OR := OR.kS twS
       have z' := hZ.cs8
       obtain ⟨x0, x1, x2, x3, x4, x5, x6, x7⟩ := hM.cs8
       obtain ⟨v0, v1, v2, v3, v4, v5, v6, v7⟩ := hN.cs8
       refine ⟨rfl, (HCC.out _).2 hM, ?_⟩
       change wpQuiet _ _ _ _ (_ :: []) _
       repeat (go_big_quiet_step (fail))
       refine wpQuiet_nil ?_
       refine hK _ _ ?_
       clear hK K
       refine rest_end (by kernel_rfl) ((HCC.out _).2 hM) ?_
       go_wp2_with fail
       go_meet
       exact ⟨nb, b, rs', qs', tu', se', sp', ws', sh', os', E0, e0, E1, e1, E2, e2, E3, e3, E4, e4, rfl, rfl, hnw, hnm, HBK, hZ, hM, hN, ⟨O0, O1, O2, O3, O4⟩, ⟨Q0, Q1, Q2, Q3, Q4⟩, OR, hC.mono (by omega), HG⟩
      ·skip
       change wpList _ _ _ (_ :: []) _ _
       obtain ⟨nb, hnb⟩ : ∃ b, b = w9.heap.size := ⟨_, rfl⟩
       have hnw : w.heap.size < nb := by have := hM.lt; omega
       have hnm : mb < nb := by have := hM.lt; omega
       go_wp2
       have hb10 : Below w9.heap.size w9 (World.alloc w9 (.cells #[.slice none 0 0, .slice none 0 0, .int .i64 0, .int .i64 0, .int .i64 0, .slice none 0 0, .slice none 0 0, .slice none 0 0] 32)) := bl1 w9 _
       have hN : Blk (World.alloc w9 (.cells #[.slice none 0 0, .slice none 0 0, .int .i64 0, .int .i64 0, .int .i64 0, .slice none 0 0, .slice none 0 0, .slice none 0 0] 32)) (w9.heap.size) 32 #[.slice none 0 0, .slice none 0 0, .int .i64 0, .int .i64 0, .int .i64 0, .slice none 0 0, .slice none 0 0, .slice none 0 0] := by repeat (first | exact Blk.new _ _ _ | exact Blk.new2 _ _ _ _ | exact Blk.new3 _ _ _ _ _ | exact Blk.new4 _ _ _ _ _ _ | refine Blk.alloc ?_ _)
       generalize World.alloc w9 (.cells #[.slice none 0 0, .slice none 0 0, .int .i64 0, .int .i64 0, .int .i64 0, .slice none 0 0, .slice none 0 0, .slice none 0 0] 32) = wA at *
       replace hC := hC.later hb10; replace HG := grown_tr HG (bgr hb10 (some p)); clear z'; replace hZ := hZ.grownB (bgr hb10 (some p)) (by omega); have z' := hZ.cs8; replace O0 := O0.kept (bgr hb10 (some p)) (fun k hk e => by have h1 := (O0.lt k hk); have h2 : k = p := (Option.some.inj e); omega); replace O1 := O1.kept (bgr hb10 (some p)) (fun k hk e => by have h1 := (O1.lt k hk); have h2 : k = p := (Option.some.inj e); omega)
       replace O2 := O2.kept (bgr hb10 (some p)) (fun k hk e => by have h1 := (O2.lt k hk); have h2 : k = p := (Option.some.inj e); omega); replace O3 := O3.kept (bgr hb10 (some p)) (fun k hk e => by have h1 := (O3.lt k hk); have h2 : k = p := (Option.some.inj e); omega); replace O4 := O4.kept (bgr hb10 (some p)) (fun k hk e => by have h1 := (O4.lt k hk); have h2 : k = p := (Option.some.inj e); omega)
       replace OR := OR.kept (bgr hb10 (some p)) (fun k hk e => by have h1 := (OR.lt k hk); have h2 : k = p := (Option.some.inj e); omega); have sz10 := hb10.size; have LhN := hN.lt
       obtain ⟨v0, v1, v2, v3, v4, v5, v6, v7⟩ := hN.cs8
       replace hM := hM.grownB (bgr hb10 (some p)) (by omega)
       rw [← hnb] at hN v0 v1 v2 v3 v4 v5 v6 v7
       rw [← hnb]
       clear hnb v0 v1 v2 v3 v4 v5 v6 v7
       obtain ⟨v0, v1, v2, v3, v4, v5, v6, v7⟩ := hN.cs8
       refine ⟨rfl, (HCC.out _).2 hM, ?_⟩
       change wpQuiet _ _ _ _ ([]) _
       refine wpQuiet_nil ?_
       refine hK _ _ ?_
       clear hK K
       refine rest_one 4 [5, 6, 7] #[true, true, true, true, true, true, true, true, true, false, false] (by kernel_rfl) ((HCC.out _).2 hM) (fun K hK => ?_)
       change wpList _ _ _ (_ :: []) _ _
       have szq := HG.size
       go_wp2_with fail
       refine (drMake_is D0 D1 D2 D3 D4 d0 d1 d2 d3 d4 rs qs tu se sp ws sh os HZI.out kd me vl ye no ab HOK.out _ ⟨O0.rds rul_len, O1.rds que_len, O2.rds intC_len, O3.rds sha_len, O4.rds out_len⟩).mono ?_
       rintro e w11 ⟨rs', qs', tu', se', sp', ws', sh', os', E0, e0, E1, e1, E2, e2, E3, e3, E4, e4, b, rfl, HBK, OQ, hS11⟩
       clear z'; clear v0 v1 v2 v3 v4 v5 v6 v7; have hb11 : Below wA.heap.size wA w11 := bth bel hS11; have hg11 : wA.grownBy w11 (some p) := bgr hb11 _
       exact zb3
     ·skip
      change wpList _ _ _ (_ :: []) _ _
      obtain ⟨nb, hnb⟩ : ∃ b, b = wd.heap.size := ⟨_, rfl⟩
      have hnw : w.heap.size < nb := by have := hM.lt; omega
      have hnm : mb < nb := by have := hM.lt; omega
      go_wp2
      have hb9 : Below wd.heap.size wd (World.alloc wd (.cells #[.slice none 0 0, .slice none 0 0, .int .i64 0, .int .i64 0, .int .i64 0, .slice none 0 0, .slice none 0 0, .slice none 0 0] 32)) := bl1 wd _
      have hN : Blk (World.alloc wd (.cells #[.slice none 0 0, .slice none 0 0, .int .i64 0, .int .i64 0, .int .i64 0, .slice none 0 0, .slice none 0 0, .slice none 0 0] 32)) (wd.heap.size) 32 #[.slice none 0 0, .slice none 0 0, .int .i64 0, .int .i64 0, .int .i64 0, .slice none 0 0, .slice none 0 0, .slice none 0 0] := by repeat (first | exact Blk.new _ _ _ | exact Blk.new2 _ _ _ _ | exact Blk.new3 _ _ _ _ _ | exact Blk.new4 _ _ _ _ _ _ | refine Blk.alloc ?_ _)
      generalize World.alloc wd (.cells #[.slice none 0 0, .slice none 0 0, .int .i64 0, .int .i64 0, .int .i64 0, .slice none 0 0, .slice none 0 0, .slice none 0 0] 32) = wA at *
      replace hC := hC.later hb9; replace HG := grown_tr HG (bgr hb9 (some p)); clear z'; replace hZ := hZ.grownB (bgr hb9 (some p)) (by omega); have z' := hZ.cs8; replace O0 := O0.kept (bgr hb9 (some p)) (fun k hk e => by have h1 := (O0.lt k hk); have h2 : k = p := (Option.some.inj e); omega); replace O1 := O1.kept (bgr hb9 (some p)) (fun k hk e => by have h1 := (O1.lt k hk); have h2 : k = p := (Option.some.inj e); omega)
      replace O2 := O2.kept (bgr hb9 (some p)) (fun k hk e => by have h1 := (O2.lt k hk); have h2 : k = p := (Option.some.inj e); omega); replace O3 := O3.kept (bgr hb9 (some p)) (fun k hk e => by have h1 := (O3.lt k hk); have h2 : k = p := (Option.some.inj e); omega); replace O4 := O4.kept (bgr hb9 (some p)) (fun k hk e => by have h1 := (O4.lt k hk); have h2 : k = p := (Option.some.inj e); omega)
      replace OR := OR.kept (bgr hb9 (some p)) (fun k hk e => by have h1 := (OR.lt k hk); have h2 : k = p := (Option.some.inj e); omega); have sz9 := hb9.size; have LhN := hN.lt
      obtain ⟨v0, v1, v2, v3, v4, v5, v6, v7⟩ := hN.cs8
      replace hM := hM.grownB (bgr hb9 (some p)) (by omega)
      rw [← hnb] at hN v0 v1 v2 v3 v4 v5 v6 v7
      rw [← hnb]
      clear hnb v0 v1 v2 v3 v4 v5 v6 v7
      obtain ⟨v0, v1, v2, v3, v4, v5, v6, v7⟩ := hN.cs8
      refine ⟨rfl, (HCC.out _).2 hM, ?_⟩
      change wpQuiet _ _ _ _ ([]) _
      refine wpQuiet_nil ?_
      refine hK _ _ ?_
      clear hK K
      refine rest_one 3 [] #[true, true, true, true, false, false, false, false, true, false, false] (by kernel_rfl) ((HCC.out _).2 hM) (fun K hK => ?_)
      change wpList _ _ _ (_ :: []) _ _
      have HMA : MeAp p D0 D1 rs qs := ⟨own_ne O0 hp, own_ne O1 hp⟩
      go_wp2_with fail
      refine (act_is D0 D1 D2 D3 D4 d0 d1 d2 d3 d4 rs qs tu se sp ws sh os (by omega) (by omega) p A c cs hcs (N + 710 + 62 * (17 - m)) (by omega) _ (hC.later bel) (O0.rds rul_len) (O1.rds que_len) HMA).mono ?_
      rintro e w10 ⟨kd, me, vl, ye, no, ab, rfl, hS10⟩
      clear z'; clear v0 v1 v2 v3 v4 v5 v6 v7; have hg10 : wA.grownBy w10 (some p) := grown_tr (bgr bel _) hS10.2; replace hC := hS10.1; have sz10 := hg10.size; replace HG := grown_tr HG hg10; replace hZ := hZ.grownB hg10 (by omega); replace hN := hN.grownB hg10 (by omega); replace O0 := O0.kept hg10 (fun k hk e => by have h1 := (O0.lt k hk); have h2 : k = p := (Option.some.inj e); omega); replace O1 := O1.kept hg10 (fun k hk e => by have h1 := (O1.lt k hk); have h2 : k = p := (Option.some.inj e); omega)
      replace O2 := O2.kept hg10 (fun k hk e => by have h1 := (O2.lt k hk); have h2 : k = p := (Option.some.inj e); omega); replace O3 := O3.kept hg10 (fun k hk e => by have h1 := (O3.lt k hk); have h2 : k = p := (Option.some.inj e); omega); replace O4 := O4.kept hg10 (fun k hk e => by have h1 := (O4.lt k hk); have h2 : k = p := (Option.some.inj e); omega); replace OR := OR.kept hg10 (fun k hk e => by have h1 := (OR.lt k hk); have h2 : k = p := (Option.some.inj e); omega)
      have z' := hZ.cs8
      obtain ⟨v0, v1, v2, v3, v4, v5, v6, v7⟩ := hN.cs8
      replace hM := hM.grownB hg10 (by omega); clear HMA
      go_wp2
      refine ⟨rfl, (HCC.out _).2 hM, ?_⟩
      change wpQuiet _ _ _ _ ([]) _
      refine wpQuiet_nil ?_
      refine hK _ _ ?_
      clear hK K
      refine rest_one 4 [5, 6, 7] #[true, true, true, true, true, true, true, true, true, false, false] (by kernel_rfl) ((HCC.out _).2 hM) (fun K hK => ?_)
      change wpList _ _ _ (_ :: []) _ _
      have szq := HG.size
      go_wp2_with fail
      refine (drMake_is D0 D1 D2 D3 D4 d0 d1 d2 d3 d4 rs qs tu se sp ws sh os HZI.out kd me vl ye no ab HOK.out _ ⟨O0.rds rul_len, O1.rds que_len, O2.rds intC_len, O3.rds sha_len, O4.rds out_len⟩).mono ?_
      rintro e w11 ⟨rs', qs', tu', se', sp', ws', sh', os', E0, e0, E1, e1, E2, e2, E3, e3, E4, e4, b, rfl, HBK, OQ, hS11⟩
      clear z'; clear v0 v1 v2 v3 v4 v5 v6 v7; have hb11 : Below w10.heap.size w10 w11 := bth bel hS11; have hg11 : w10.grownBy w11 (some p) := bgr hb11 _
      exact zb3
    case rest =>
     obtain ⟨nb, b, rs', qs', tu', se', sp', ws', sh', os', E0, e0, E1, e1, E2, e2, E3, e3, E4, e4, rfl, rfl, hnw, hnm, HBK, hZ, hM, hN, OO, OQ, OR, hC, HG⟩ := hcut
     generalize wc = wS at *
     cases b
     ·go_wp2
      go_roundw
      case rel =>
       exact ⟨m - 1, qs, tu, se, sp, ws, sh, os, D0, d0, D1, d1, D2, d2, D3, d3, D4, d4, by rw [← hmm], by omega, HOK, hZ, hM, OO, OR, hC.mono (by omega), HG⟩
      case measure => simp [intOf]; omega
     ·have Q0 := OQ.o0; have Q1 := OQ.o1; have Q2 := OQ.o2; have Q3 := OQ.o3; have Q4 := OQ.o4; clear OQ OO
      have z' := hZ.cs8
      obtain ⟨x0, x1, x2, x3, x4, x5, x6, x7⟩ := hM.cs8
      obtain ⟨v0, v1, v2, v3, v4, v5, v6, v7⟩ := hN.cs8
      have neQ0 := Q0.nb hM; have neQ1 := Q1.nb hM; have neQ2 := Q2.nb hM; have neQ3 := Q3.nb hM; have neQ4 := Q4.nb hM; have neOR := OR.nb hM
      obtain ⟨fhM0, fhM1, fhM2, fhM3, fhM4, fhM5, fhM6, fhM7⟩ := hM.fz8
      have yhZ := hZ.lt; have yhM := hM.lt; have yhN := hN.lt
      go_upto_region 7 with fail
      clear z' x0 x1 x2 x3 x4 x5 x6 x7 v0 v1 v2 v3 v4 v5 v6 v7
      refine st8 0 fun wU twU => ?_
      replace HG := stG twU HG; replace hC := stC twU hC; replace hZ := twU.fa hZ; replace hM := twU.all8 hM; replace hN := twU.fa hN; replace Q0 := Q0.kS twU; replace Q1 := Q1.kS twU; replace Q2 := Q2.kS twU; replace Q3 := Q3.kS twU; replace Q4 := Q4.kS twU; replace OR := OR.kS twU; have z' := hZ.cs8
      obtain ⟨x0, x1, x2, x3, x4, x5, x6, x7⟩ := hM.cs8
      obtain ⟨v0, v1, v2, v3, v4, v5, v6, v7⟩ := hN.cs8
      go_wp2
      go_roundw
      case rel =>
       obtain ⟨hr9, hk9⟩ := HBK.out rfl
       have hr8 := hr9.symm
       subst hr8
       exact ⟨m - 1, qs', tu', se', sp', ws', sh', os', E0, e0, E1, e1, E2, e2, E3, e3, E4, e4, by rw [← hmm], by omega, lh hk9, hZ, hM, ⟨Q0, Q1, Q2, Q3, Q4⟩, OR, hC.mono (by omega), HG⟩
      case measure => simp [intOf]; omega
   ·have hlt1 : ¬ (0 : Int) < (m : Int) := by omega
    have hlt2 : decide ((0 : Int) < (m : Int)) = false := decide_eq_false hlt1; replace hC := hC.mono (M := N + 1800) (by omega)
    go_wp2_with fail
    refine (pick_is 24 p A c cs hcs (N + 1800) (by omega) (by omega) _ (hC.later bel)).mono ?_
    rintro e w9 ⟨q, rfl, ⟨hbq, _, hcq⟩, hS9⟩
    clear z'; clear x0 x1 x2 x3 x4 x5 x6 x7; have hg9 : wr.grownBy w9 (some p) := grown_tr (bgr bel _) hS9.2; replace hC := hS9.1; have sz9 := hg9.size; replace HG := grown_tr HG hg9; replace hZ := hZ.grownB hg9 (by omega); replace hM := hM.grownB hg9 (by omega); replace O0 := O0.kept hg9 (fun k hk e => by have h1 := (O0.lt k hk); have h2 : k = p := (Option.some.inj e); omega); replace O1 := O1.kept hg9 (fun k hk e => by have h1 := (O1.lt k hk); have h2 : k = p := (Option.some.inj e); omega)
    replace O2 := O2.kept hg9 (fun k hk e => by have h1 := (O2.lt k hk); have h2 : k = p := (Option.some.inj e); omega); replace O3 := O3.kept hg9 (fun k hk e => by have h1 := (O3.lt k hk); have h2 : k = p := (Option.some.inj e); omega); replace O4 := O4.kept hg9 (fun k hk e => by have h1 := (O4.lt k hk); have h2 : k = p := (Option.some.inj e); omega); replace OR := OR.kept hg9 (fun k hk e => by have h1 := (OR.lt k hk); have h2 : k = p := (Option.some.inj e); omega)
    have z' := hZ.cs8
    obtain ⟨x0, x1, x2, x3, x4, x5, x6, x7⟩ := hM.cs8
    replace hcq := hcq (by omega); clear hlt1 hlt2 HOK HZI
    have hlq : qs.length ≤ 7 := by omega
    have hlw : ws.length ≤ 60 := by omega
    have hlo : os.length ≤ 30 := by omega
    have hlo2 : os.length ≤ 12 := by omega
    clear l0 l1 l2 l4
    rcases (show q = 0 ∨ q = 1 ∨ q = 2 ∨ q = 3 ∨ 3 < q by omega) with rfl | rfl | rfl | rfl | hq4
    case' inl =>
     have szq := HG.size
     go_wp2_with fail
     refine (pending_is (some ⟨g, 0, none⟩) y rs (by omega) p A c cs hcs (N + 1810) (by omega) _ (hC.mono (by omega)) (OR.rds rul_len') (own_ne OR hp)).mono ?_
     rintro e w10 ⟨qs2, E1, e1, rfl, hq7, OP, hS10⟩
     clear z'; clear x0 x1 x2 x3 x4 x5 x6 x7; have hg10 : w9.grownBy w10 (some p) := grown_tr (bgr bel _) hS10.2; replace hC := hS10.1; have sz10 := hg10.size; replace HG := grown_tr HG hg10; replace hZ := hZ.grownB hg10 (by omega); replace hM := hM.grownB hg10 (by omega); replace O0 := O0.kept hg10 (fun k hk e => by have h1 := (O0.lt k hk); have h2 : k = p := (Option.some.inj e); omega); replace O1 := O1.kept hg10 (fun k hk e => by have h1 := (O1.lt k hk); have h2 : k = p := (Option.some.inj e); omega)
     replace O2 := O2.kept hg10 (fun k hk e => by have h1 := (O2.lt k hk); have h2 : k = p := (Option.some.inj e); omega); replace O3 := O3.kept hg10 (fun k hk e => by have h1 := (O3.lt k hk); have h2 : k = p := (Option.some.inj e); omega); replace O4 := O4.kept hg10 (fun k hk e => by have h1 := (O4.lt k hk); have h2 : k = p := (Option.some.inj e); omega); replace OR := OR.kept hg10 (fun k hk e => by have h1 := (OR.lt k hk); have h2 : k = p := (Option.some.inj e); omega)
     have z' := hZ.cs8
     obtain ⟨x0, x1, x2, x3, x4, x5, x6, x7⟩ := hM.cs8
     replace OP := OP.base (B' := w.heap.size) szq; have neO0 := O0.nb hM; have neO1 := O1.nb hM; have neO2 := O2.nb hM; have neO3 := O3.nb hM; have neO4 := O4.nb hM; have neOR := OR.nb hM; have neOP := OP.nb hM; have fhM1 := hM.frozen 1; have yhZ := hZ.lt; have yhM := hM.lt
     go_upto_region 23 with fail
     clear z' x0 x1 x2 x3 x4 x5 x6 x7
     refine st1 1 fun wE twE => ?_
     replace HG := stG twE HG; replace hC := stC twE hC; replace hZ := twE.fa hZ; replace hM : Blk wE (mb) 32 #[.slice D0 rs.length d0, .slice E1 qs2.length e1, .int .i64 tu, .int .i64 se, .int .i64 sp, .slice D2 ws.length d2, .slice D3 sh.length d3, .slice D4 os.length d4] := twE.own hM; replace O0 := O0.kS twE; replace O1 := O1.kS twE; replace O2 := O2.kS twE; replace O3 := O3.kS twE; replace O4 := O4.kS twE
     replace OR := OR.kS twE; replace OP := OP.kS twE; have z' := hZ.cs8
     obtain ⟨x0, x1, x2, x3, x4, x5, x6, x7⟩ := hM.cs8
     clear O1 hlq
     generalize qs2 = qs at *
     generalize E1 = D1 at *
     generalize e1 = d1 at *
     have O1 := OP; have hlq := hq7; clear OP hq7 OR hlo2; replace hC := hC.mono (M := N + 2590) (by omega)
     generalize wE = wE at *
    case' inr.inl =>
     have szq := HG.size
     go_wp2_with fail
     refine (floor_is p A c cs hcs (N + 1810) (by omega) _ (hC.mono (by omega))).mono ?_
     rintro e w10 ⟨tu2, se2, sp2, ws2, sh2, E2, e2, E3, e3, rfl, hw60, hs60, OFF, hS10⟩
     clear z'; clear x0 x1 x2 x3 x4 x5 x6 x7; have hg10 : w9.grownBy w10 (some p) := grown_tr (bgr bel _) hS10.2; replace hC := hS10.1; have sz10 := hg10.size; replace HG := grown_tr HG hg10; replace hZ := hZ.grownB hg10 (by omega); replace hM := hM.grownB hg10 (by omega); replace O0 := O0.kept hg10 (fun k hk e => by have h1 := (O0.lt k hk); have h2 : k = p := (Option.some.inj e); omega); replace O1 := O1.kept hg10 (fun k hk e => by have h1 := (O1.lt k hk); have h2 : k = p := (Option.some.inj e); omega)
     replace O2 := O2.kept hg10 (fun k hk e => by have h1 := (O2.lt k hk); have h2 : k = p := (Option.some.inj e); omega); replace O3 := O3.kept hg10 (fun k hk e => by have h1 := (O3.lt k hk); have h2 : k = p := (Option.some.inj e); omega); replace O4 := O4.kept hg10 (fun k hk e => by have h1 := (O4.lt k hk); have h2 : k = p := (Option.some.inj e); omega); replace OR := OR.kept hg10 (fun k hk e => by have h1 := (OR.lt k hk); have h2 : k = p := (Option.some.inj e); omega)
     have z' := hZ.cs8
     obtain ⟨x0, x1, x2, x3, x4, x5, x6, x7⟩ := hM.cs8
     replace OFF := OFF.base (B' := w.heap.size) szq; have OF2 := OFF.o2; have OF3 := OFF.o3; clear OFF; have neO0 := O0.nb hM; have neO1 := O1.nb hM; have neO2 := O2.nb hM; have neO3 := O3.nb hM; have neO4 := O4.nb hM; have neOR := OR.nb hM; have neOF2 := OF2.nb hM; have neOF3 := OF3.nb hM; have fhM2 := hM.frozen 2; have fhM3 := hM.frozen 3; have fhM4 := hM.frozen 4; have fhM5 := hM.frozen 5; have fhM6 := hM.frozen 6
     have yhZ := hZ.lt; have yhM := hM.lt
     go_upto_region 23 with fail
     clear z' x0 x1 x2 x3 x4 x5 x6 x7
     refine st5 2 fun wE twE => ?_
     replace HG := stG twE HG; replace hC := stC twE hC; replace hZ := twE.fa hZ; replace hM : Blk wE (mb) 32 #[.slice D0 rs.length d0, .slice D1 qs.length d1, .int .i64 tu2, .int .i64 se2, .int .i64 sp2, .slice E2 ws2.length e2, .slice E3 sh2.length e3, .slice D4 os.length d4] := twE.own hM; replace O0 := O0.kS twE; replace O1 := O1.kS twE; replace O2 := O2.kS twE; replace O3 := O3.kS twE; replace O4 := O4.kS twE
     replace OR := OR.kS twE; replace OF2 := OF2.kS twE; replace OF3 := OF3.kS twE; have z' := hZ.cs8
     obtain ⟨x0, x1, x2, x3, x4, x5, x6, x7⟩ := hM.cs8
     clear O2 O3 hlw l3
     generalize tu2 = tu at *
     generalize se2 = se at *
     generalize sp2 = sp at *
     generalize ws2 = ws at *
     generalize sh2 = sh at *
     generalize E2 = D2 at *
     generalize e2 = d2 at *
     generalize E3 = D3 at *
     generalize e3 = d3 at *
     have O2 := OF2; have O3 := OF3; have hlw := hw60; have l3 : sh.length ≤ 99 := by omega
     clear OF2 OF3 hw60 hs60 OR hlo2; replace hC := hC.mono (M := N + 2590) (by omega)
     generalize wE = wE at *
    case' inr.inr.inl =>
     have szb := HG.size; have HCX := lh hC; have HGX := lh HG; have HZX := lh hZ; have HMX := lh hM; have HO0 := lh O0; have HO1 := lh O1; have HO2 := lh O2; have HO3 := lh O3; have HO4 := lh O4; have HOR := lh OR; have HN4 := lh O4.nilOk; have yhZ := hZ.lt; have yhM := hM.lt; clear hC HG hZ O0 O1 O2 O3 O4 OR z' x0 x1 x2 x3 x4 x5 x6
     go_wp2_with ((at_builtin; refine wpList_appOn rfl _ _ 30 rfl w9.heap.size 44 i0 _ 3 24 Tryz.underlying30 hi hz0 hz1 hz2 rfl (by decide) Out.cells out_len out_one w9.heap.size rfl (Blk.new _ _ _) (Nat.le_refl _) D4 d4 os os.length rfl rfl ((HO4.out.rds out_len).alloc _) HN4.out (by unfold maxLen; omega) (by omega) ?_; intro gs ds wb hO' hb'))
     have hb2 : Below w9.heap.size w9 wb := bth (bl1 _ _) hb'; have hC := HCX.out.later hb2; have HG := grown_tr HGX.out (bgr hb2 (some p)); have hZ := HZX.out.to hb2; replace hM := HMX.out.to hb2; have O0 := HO0.out.later hb2; have O1 := HO1.out.later hb2; have O2 := HO2.out.later hb2; have O3 := HO3.out.later hb2; have OR := HOR.out.later hb2; have OS := hO'.base (B' := w.heap.size) szb; clear x7 hO' hb'
     have z' := hZ.cs8
     obtain ⟨x0, x1, x2, x3, x4, x5, x6, x7⟩ := hM.cs8
     go_wp2_with fail
     refine (drRuleOf_is (some ⟨g, 0, none⟩) y rs (by omega) p A c cs hcs (N + 1810) (by omega) _ (hC.mono (by omega)) (OR.rds rul_len') (own_ne OR hp)).mono ?_
     rintro e w10 ⟨ri, rfl, hS10⟩
     clear z'; clear x0 x1 x2 x3 x4 x5 x6 x7; have hg10 : wb.grownBy w10 (some p) := grown_tr (bgr bel _) hS10.2; replace hC := hS10.1; have sz10 := hg10.size; replace HG := grown_tr HG hg10; replace hZ := hZ.grownB hg10 (by omega); replace hM := hM.grownB hg10 (by omega); replace O0 := O0.kept hg10 (fun k hk e => by have h1 := (O0.lt k hk); have h2 : k = p := (Option.some.inj e); omega); replace O1 := O1.kept hg10 (fun k hk e => by have h1 := (O1.lt k hk); have h2 : k = p := (Option.some.inj e); omega)
     replace O2 := O2.kept hg10 (fun k hk e => by have h1 := (O2.lt k hk); have h2 : k = p := (Option.some.inj e); omega); replace O3 := O3.kept hg10 (fun k hk e => by have h1 := (O3.lt k hk); have h2 : k = p := (Option.some.inj e); omega); replace OR := OR.kept hg10 (fun k hk e => by have h1 := (OR.lt k hk); have h2 : k = p := (Option.some.inj e); omega); replace OS := OS.kept hg10 (fun k hk e => by have h1 := (OS.lt k hk); have h2 : k = p := (Option.some.inj e); omega)
     have z' := hZ.cs8
     obtain ⟨x0, x1, x2, x3, x4, x5, x6, x7⟩ := hM.cs8
     go_wp2_with fail
     refine (member_is p A c cs hcs (N + 1814) (by omega) _ (hC.later bel)).mono ?_
     rintro e w11 ⟨rm, rfl, hbm, hS11⟩
     clear z'; clear x0 x1 x2 x3 x4 x5 x6 x7; have hg11 : w10.grownBy w11 (some p) := grown_tr (bgr bel _) hS11.2; replace hC := hS11.1; have sz11 := hg11.size; replace HG := grown_tr HG hg11; replace hZ := hZ.grownB hg11 (by omega); replace hM := hM.grownB hg11 (by omega); replace O0 := O0.kept hg11 (fun k hk e => by have h1 := (O0.lt k hk); have h2 : k = p := (Option.some.inj e); omega); replace O1 := O1.kept hg11 (fun k hk e => by have h1 := (O1.lt k hk); have h2 : k = p := (Option.some.inj e); omega)
     replace O2 := O2.kept hg11 (fun k hk e => by have h1 := (O2.lt k hk); have h2 : k = p := (Option.some.inj e); omega); replace O3 := O3.kept hg11 (fun k hk e => by have h1 := (O3.lt k hk); have h2 : k = p := (Option.some.inj e); omega); replace OR := OR.kept hg11 (fun k hk e => by have h1 := (OR.lt k hk); have h2 : k = p := (Option.some.inj e); omega); replace OS := OS.kept hg11 (fun k hk e => by have h1 := (OS.lt k hk); have h2 : k = p := (Option.some.inj e); omega)
     have z' := hZ.cs8
     obtain ⟨x0, x1, x2, x3, x4, x5, x6, x7⟩ := hM.cs8
     have nyM : ∀ k, (Value.slice (some ⟨gs, 0, none⟩) os.length ds).ownBlock = some k → ¬ k = mb := OS.nb hM; have nyZ : ∀ k, (Value.slice (some ⟨gs, 0, none⟩) os.length ds).ownBlock = some k → ¬ k = w.heap.size := OS.nb hZ; have HA0 := lh (O0.apart OS (by decide)); have HA1 := lh (O1.apart OS (by decide)); have HA2 := lh (O2.apart OS (by decide)); have HA3 := lh (O3.apart OS (by decide)); have HCY := lh hC
     have HGY := lh HG; have HZY := lh hZ; have HMY := lh hM; have HP0 := lh O0; have HP1 := lh O1; have HP2 := lh O2; have HP3 := lh O3; have HOS := lh OS; have HNZ := lh nyZ; have HNM := lh nyM; clear hC HG hZ hM O0 O1 O2 O3 OR OS nyZ nyM z' x0 x1 x2 x3 x4 x5 x6 x7
     go_upto_region 23 with ((at_builtin; refine wpList_app1 rfl _ _ 30 rfl w.heap.size 44 i0 _ 3 24 Tryz.underlying30 hi hz0 hz1 hz2 rfl (by decide) Out.cells out_len out_one _ os rfl (HOS.out.alloc _) ⟨w11.heap.size, 0, none⟩ 1 ⟨ri, rm, false⟩ rfl (rds_oneO _ _ _ _ _) (by unfold maxLen; omega) (by omega) (by have := HGY.out.size; simp; omega) ?_; intro va wa hOa hga haa; clear haa; obtain ⟨ga, dd, rfl⟩ := own_some hOa (by simp); have hM := (HMY.out.to (bl1 _ _)).grownN hga (fun e => HNM.out _ e.symm rfl); have x7 := (hM.cell 7).trans (show _ = some (.slice D4 os.length d4) from rfl); have r7 := hM.frozen 7; have hml := hM.lt))
     have hl8 : (os ++ [(⟨ri, rm, false⟩ : Out)]).length = os.length + 1 := by simp
     rw [hl8] at hOa
     have hC := (HCY.out.later (bl1 _ (.cells #[.int .i64 ri, .int .i64 rm, .bool false] 44))).row hga (fun k hk => by have := (HOS.out.lt k hk).1; omega); have HG := grown_row2 (grown_tr HGY.out (bgr (bl1 _ (.cells #[.int .i64 ri, .int .i64 rm, .bool false] 44)) _)) hga (fun k hk => (HOS.out.lt k hk).1); have hZ := (HZY.out.to (bl1 _ (.cells #[.int .i64 ri, .int .i64 rm, .bool false] 44))).grownN hga (fun e => HNZ.out _ e.symm rfl)
     have O0 := (HP0.out.later (bl1 _ (.cells #[.int .i64 ri, .int .i64 rm, .bool false] 44))).kept hga (fun k hk e => HA0.out k hk e); have O1 := (HP1.out.later (bl1 _ (.cells #[.int .i64 ri, .int .i64 rm, .bool false] 44))).kept hga (fun k hk e => HA1.out k hk e); have O2 := (HP2.out.later (bl1 _ (.cells #[.int .i64 ri, .int .i64 rm, .bool false] 44))).kept hga (fun k hk e => HA2.out k hk e); have O3 := (HP3.out.later (bl1 _ (.cells #[.int .i64 ri, .int .i64 rm, .bool false] 44))).kept hga (fun k hk e => HA3.out k hk e)
     have OS := hOa; clear x7 hga hOa r7 hml; have z' := hZ.cs8
     obtain ⟨x0, x1, x2, x3, x4, x5, x6, x7⟩ := hM.cs8
     have neO0 := O0.nb hM; have neO1 := O1.nb hM; have neO2 := O2.nb hM; have neO3 := O3.nb hM; have neOS := OS.nb hM; have hml := hM.lt; clear z' x0 x1 x2 x3 x4 x5 x6 x7
     refine st1 7 fun wE twE => ?_
     replace HG := stG twE HG; replace hC := stC twE hC; replace hZ := twE.fa hZ; replace hM : Blk wE (mb) 32 #[.slice D0 rs.length d0, .slice D1 qs.length d1, .int .i64 tu, .int .i64 se, .int .i64 sp, .slice D2 ws.length d2, .slice D3 sh.length d3, .slice (some ⟨ga, 0, none⟩) (os.length + 1) dd] := twE.own hM; replace O0 := O0.kS twE; replace O1 := O1.kS twE; replace O2 := O2.kS twE; replace O3 := O3.kS twE
     replace OS := OS.kS twE; have z' := hZ.cs8
     obtain ⟨x0, x1, x2, x3, x4, x5, x6, x7⟩ := hM.cs8
     replace hlo : (os ++ [(⟨ri, rm, false⟩ : Out)]).length ≤ 30 := by rw [hl8]; omega
     rw [← hl8] at hM x7 OS
     clear hl8 hlo2 hbm hml
     generalize os ++ [(⟨ri, rm, false⟩ : Out)] = os at *
     generalize (some ⟨ga, 0, none⟩ : Option Addr) = D4 at *
     generalize dd = d4 at *
     have O4 := OS; clear OS; replace hC := hC.mono (M := N + 2590) (by omega)
     generalize wE = wE at *
    case' inr.inr.inr.inl =>
     go_wp2
     go_loopw [9] (fun i wr => ∃ (k : Nat) (os : List Out) (D4 : Option Addr) (d4 : Nat), i = .int .i64 (k : Int) ∧ k ≤ 14 ∧ os.length ≤ 12 + k ∧ Blk wr w.heap.size 32 #[.slice none 0 0, .slice none 0 0, .int .i64 0, .int .i64 0, .int .i64 0, .slice none 0 0, .slice none 0 0, .slice none 0 0] ∧ Blk wr mb 32 #[.slice D0 rs.length d0, .slice D1 qs.length d1, .int .i64 tu, .int .i64 se, .int .i64 sp, .slice D2 ws.length d2, .slice D3 sh.length d3, .slice D4 os.length d4] ∧ MeO w.heap.size wr D0 d0 D1 d1 D2 d2 D3 d3 D4 d4 rs qs ws sh os ∧ OwnV w.heap.size 48 7 Rul.cells wr (.slice (some ⟨g, 0, none⟩) rs.length y) rs ∧ Cur wr p A c cs (N + 1810 + 2 * k) ∧ w.grownBy wr (some p)) (fun i _ => 14 - (intOf i).toNat)
     case atStart => exact ⟨0, os, D4, d4, rfl, by omega, by omega, hZ, hM, ⟨O0, O1, O2, O3, O4⟩, OR, hC.mono (by omega), HG⟩
     case round =>
      clear hC hZ hM HG O0 O1 O2 O3 O4 OR hlo hlo2 x0 x1 x2 x3 x4 x5 x6 x7 z'
      obtain ⟨k, os, D4, d4, rfl, hk14, hlo, hZ, hM, OO, OR, hC, HG⟩ := hrel
      have O0 := OO.o0; have O1 := OO.o1; have O2 := OO.o2; have O3 := OO.o3; have O4 := OO.o4; clear OO; have hrn := HRN.out; have z' := hZ.cs8
      obtain ⟨x0, x1, x2, x3, x4, x5, x6, x7⟩ := hM.cs8
      go_upto_region 20 with fail
      obtain ⟨CC, hCC⟩ : ∃ X : World → Prop, ∀ V, X V ↔ Blk V mb 32 #[.slice D0 rs.length d0, .slice D1 qs.length d1, .int .i64 tu, .int .i64 se, .int .i64 sp, .slice D2 ws.length d2, .slice D3 sh.length d3, .slice D4 os.length d4] := ⟨_, fun _ => Iff.rfl⟩
      have HCC := lh hCC; clear hCC
      refine wp_region_mixh CC [([0, 1, 2, 3], 4)] [5, 6, 7, 8, 9, 10, 11, 12, 13, 14, 15] (by kernel_rfl) (by kernel_rfl) ((HCC.out _).2 hM) ?_
      replace O0 := O0.later (Below.refl wr.heap.size wr).drew; replace O1 := O1.later (Below.refl wr.heap.size wr).drew; replace O2 := O2.later (Below.refl wr.heap.size wr).drew; replace O3 := O3.later (Below.refl wr.heap.size wr).drew; replace O4 := O4.later (Below.refl wr.heap.size wr).drew; replace OR := OR.later (Below.refl wr.heap.size wr).drew
      haveI : Nonempty (Hld CC) := ⟨⟨_, (HCC.out _).2 hM⟩⟩
      replace hC := hC.later (Below.refl _ _).drew; replace HG := grown_tr HG (bgr (Below.refl wr.heap.size wr).drew (some p)); clear z'; replace hZ : Blk wr.drew (w.heap.size) 32 #[.slice none 0 0, .slice none 0 0, .int .i64 0, .int .i64 0, .int .i64 0, .slice none 0 0, .slice none 0 0, .slice none 0 0] := hZ; clear x0 x1 x2 x3 x4 x5 x6 x7; replace hM : Blk wr.drew (mb) 32 #[.slice D0 rs.length d0, .slice D1 qs.length d1, .int .i64 tu, .int .i64 se, .int .i64 sp, .slice D2 ws.length d2, .slice D3 sh.length d3, .slice D4 os.length d4] := hM
      have szd : wr.drew.heap.size = wr.heap.size := rfl
      generalize wr.drew = wd at *
      have z' := hZ.cs8
      obtain ⟨x0, x1, x2, x3, x4, x5, x6, x7⟩ := hM.cs8
      clear szd; have szd2 : w.heap.size ≤ wd.heap.size := HG.size; clear x0 x1 x2 x3 x4 x5 x6 x7
      obtain ⟨x0, x1, x2, x3, x4, x5, x6, x7⟩ := Blk.cs8K (fun K : Hld CC => (HCC.out _).1 K.holds)
      refine wpMix_cons fun K2 hK2 => ?_
      change wpQuiet _ _ _ _ (_ :: _ :: _ :: _ :: []) _
      repeat (go_big_quiet_step (fail))
      refine wpQuiet_nil ?_
      change wpList _ _ _ (_ :: []) _ _
      go_wp2_with fail
      refine (pick_is 2 p A c cs hcs (N + 1810 + 2 * k) (by omega) (by omega) _ (hC.later bel)).mono ?_
      rintro e w10 ⟨q, rfl, ⟨hbq, _, hcq⟩, hS10⟩
      clear z'; have hg10 : wd.grownBy w10 (some p) := grown_tr (bgr bel _) hS10.2; replace hC := hS10.1; have sz10 := hg10.size; replace HG := grown_tr HG hg10; replace hZ := hZ.grownB hg10 (by omega); replace O0 := O0.kept hg10 (fun k hk e => by have h1 := (O0.lt k hk); have h2 : k = p := (Option.some.inj e); omega); replace O1 := O1.kept hg10 (fun k hk e => by have h1 := (O1.lt k hk); have h2 : k = p := (Option.some.inj e); omega)
      replace O2 := O2.kept hg10 (fun k hk e => by have h1 := (O2.lt k hk); have h2 : k = p := (Option.some.inj e); omega); replace O3 := O3.kept hg10 (fun k hk e => by have h1 := (O3.lt k hk); have h2 : k = p := (Option.some.inj e); omega); replace O4 := O4.kept hg10 (fun k hk e => by have h1 := (O4.lt k hk); have h2 : k = p := (Option.some.inj e); omega); replace OR := OR.kept hg10 (fun k hk e => by have h1 := (OR.lt k hk); have h2 : k = p := (Option.some.inj e); omega)
      have z' := hZ.cs8; replace hcq := hcq (by omega); replace hM := hM.grownB hg10 (by omega)
      rcases (show ((os.length : Int) < 12 + q ∧ k < 14 ∧ 0 < rs.length) ∨ ((os.length : Int) < 12 + q ∧ k < 14 ∧ rs.length = 0) ∨ ((os.length : Int) < 12 + q ∧ k = 14) ∨ ¬ ((os.length : Int) < 12 + q) by omega) with ⟨hl1, hl2, hl3⟩ | ⟨hl1, hl2, hl3⟩ | ⟨hl1, hl2⟩ | hl1
      case' inl =>
       have d1 : decide ((os.length : Int) < 12 + q) = true := decide_eq_true hl1; have d2 : decide ((k : Int) < 14) = true := decide_eq_true (by omega); have d3 : decide ((0 : Int) < (rs.length : Int)) = true := decide_eq_true (by omega)
       go_wp2
       refine Nrm_intro ((HCC.out _).2 hM) (hK2 _ _ ?_)
       refine wpMix_last ?_
       change wpQuiet _ _ _ _ (_ :: _ :: _ :: _ :: _ :: _ :: _ :: _ :: _ :: _ :: _ :: []) _
       repeat (go_big_quiet_step (fail))
       refine wpQuiet_nil ?_
       clear d1 d2 d3; clear x0 x1 x2 x3 x4 x5 x6 x7
       obtain ⟨x0, x1, x2, x3, x4, x5, x6, x7⟩ := hM.cs8
       go_upto_region 22 with fail
       have hmlt := hM.lt
       obtain ⟨⟨id0, nm0, rk0, sc0, db0, am0, nd0, hok0⟩, hx0⟩ : ∃ x, rs[0]? = some x := ⟨_, List.getElem?_eq_getElem hl3⟩
       clear x0 x1 x2 x3 x4 x5 x6 x7 z'
       obtain ⟨wb, hwb⟩ : ∃ W, W = w10 := ⟨_, rfl⟩
       rw [← hwb] at hM hZ O0 O1 O2 O3 O4 OR hC HG
       rw [← hwb]
       clear hwb
       obtain ⟨CD, hCD⟩ : ∃ X : World → Prop, ∀ V, X V ↔ Below wb.heap.size wb V := ⟨_, fun _ => Iff.rfl⟩
       have HCD := lh hCD; clear hCD
       haveI : Nonempty (Hld CD) := ⟨⟨wb, (HCD.out _).2 (Below.refl _ _)⟩⟩
       have x7 := fun K : Hld CD => ((hM.below ((HCD.out _).1 K.holds) hM.lt).cell 7).trans (show _ = some (.slice D4 os.length d4) from rfl)
       have q0 := fun K : Hld CD => own_cellq (OR.later ((HCD.out _).1 K.holds)) rul_len' hx0 (i := 0) (u := .int .i64 id0) rfl
       simp only [Nat.add_zero, Nat.zero_mul] at q0
       have HR4 := lh (O4.rds out_len); have HN4 := lh O4.nilOk
       have hl30 : (0 : Int) < (rs.length : Int) := by omega
       have hl31 : decide ((0 : Int) < (rs.length : Int)) = true := decide_eq_true hl30
       refine wp_region_mky (wiA 44 3 Out.cells 3 9 os #[.int .i64 id0, .int .i64 1, .bool true]) CD [([], 0), ([1, 2], 3), ([4, 5, 6, 7, 8], 9)] [] [([], [], 10, false), ([], [11], 12, true)] [] [] (by kernel_rfl) (by kernel_rfl) ((HCD.out _).2 (Below.refl _ _).drew) (fun W W' h k => (HCD.out _).2 (bth ((HCD.out _).1 h) k)) ?_
       intro σ
       refine wpMk1_cons (some 93) rfl (.slice (σ 0).1 0 0) rfl fun K1 hK1 => ?_
       change wpQuiet _ _ _ _ ([]) _
       refine wpQuiet_nil ?_
       refine ⟨fun kq hpar => ?_, hK1 _ ?_⟩
       ·change wpList _ _ _ (_ :: []) _ _
        go_wp2
        first | exact Nrm_mk ⟨(some ⟨kq.world.heap.size, 0, none⟩, 0), rfl, bl1 _ _, by simp [wiA]; exact Blk.new _ _ _⟩ | exact Nrm_mk ⟨some ⟨kq.world.heap.size, 0, none⟩, 0, rfl, bl1 _ _, by simp [wiA]; exact Blk.new _ _ _⟩
       simp only [Act.put]
       go_simp
       refine wpMk1_cons (some 96) rfl (.slice (σ 3).1 os.length (σ 3).2) rfl fun K1 hK1 => ?_
       change wpQuiet _ _ _ _ (_ :: _ :: []) _
       repeat (go_big_quiet_step (fail))
       refine wpQuiet_nil ?_
       refine ⟨fun kq hpar => ?_, hK1 _ ?_⟩
       ·change wpList _ _ _ (_ :: []) _ _
        obtain ⟨U0, U, hU1, hU, hU5⟩ := hpar 0 (by simp [wiA])
        obtain ⟨hU2, hU4⟩ := hU.1 rfl
        have hU6 := hU4.to hU5; have hU7 : (σ 0).1 = some ⟨U0.heap.size, 0, none⟩ := hU2; have HUR := lh (HR4.out.below ((HCD.out _).1 kq.holds)); have HU6 := lh hU6; clear hU6 hU4 hU2 hU1 hU5 hU hpar
        rw [hU7]
        have HU7 := lh hU7; clear hU7
        go_wp2_with ((at_builtin; refine wpList_appOn rfl _ _ 30 rfl U0.heap.size 44 i0 _ 3 24 Tryz.underlying30 hi hz0 hz1 hz2 rfl (by decide) Out.cells out_len out_one U0.heap.size rfl HU6.out (Nat.le_refl _) D4 d4 os os.length rfl rfl HUR.out HN4.out (by unfold maxLen; omega) (by omega) ?_; intro g' c' w' hO' hb'))
        first | exact Nrm_mk ⟨(some ⟨g', 0, none⟩, c'), rfl, hb', by simp [wiA], fun _ => ⟨U0.heap.size, g', HU7.out, rfl, hO'⟩, by simp [wiA]⟩ | exact Nrm_mk ⟨some ⟨g', 0, none⟩, c', rfl, hb', by simp [wiA], fun _ => ⟨U0.heap.size, g', HU7.out, rfl, hO'⟩, by simp [wiA]⟩
       simp only [Act.put]
       go_simp
       refine wpMk1_cons (some 102) rfl (.slice (σ 9).1 1 1) rfl fun K1 hK1 => ?_
       change wpQuiet _ _ _ _ (_ :: _ :: _ :: _ :: _ :: []) _
       repeat (go_big_quiet_step (fail))
       refine wpQuiet_nil ?_
       refine ⟨fun kq hpar => ?_, hK1 _ ?_⟩
       ·change wpList _ _ _ (_ :: []) _ _
        go_wp2
        first | exact Nrm_mk ⟨(some ⟨kq.world.heap.size, 0, none⟩, 0), rfl, bl1 _ _, by simp [wiA], by simp [wiA], fun _ => ⟨kq.world.heap.size, rfl, rfl, Blk.new _ _ _⟩⟩ | exact Nrm_mk ⟨some ⟨kq.world.heap.size, 0, none⟩, 0, rfl, bl1 _ _, by simp [wiA], by simp [wiA], fun _ => ⟨kq.world.heap.size, rfl, rfl, Blk.new _ _ _⟩⟩
       simp only [Act.put]
       go_simp
       refine wpMk1_last ?_
       change wpQuiet _ _ _ _ ([]) _
       refine wpQuiet_nil ?_
       intro V0 V WM hM2 hWM
       obtain ⟨g0, g5, e0, e5, q5⟩ : ∃ g g', (σ 0).1 = some ⟨g, 0, none⟩ ∧ (σ 3).1 = some ⟨g', 0, none⟩ ∧ OwnV g 44 3 Out.cells (V 3) (.slice (σ 3).1 os.length (σ 3).2) os := (hM2.post 3 (by simp)).2.1 rfl
       obtain ⟨a0, _⟩ : (σ 0).1 = some ⟨(V0 0).heap.size, 0, none⟩ ∧ Blk (V 0) (V0 0).heap.size 44 #[] := (hM2.post 0 (by simp)).1 rfl
       obtain ⟨g7, e7, u7', q7⟩ : ∃ g, (σ 9).1 = some ⟨g, 0, none⟩ ∧ (V0 9).heap.size = g ∧ Blk (V 9) g 44 #[.int .i64 id0, .int .i64 1, .bool true] := (hM2.post 9 (by simp)).2.2 rfl
       have t0 : (V0 0).heap.size = g0 := by rw [a0] at e0; exact congrArg Addr.block (Option.some.inj e0)
       have O5 := (q5.later (hM2.later 3 (by simp))).base (B' := wb.heap.size) (by rw [← t0]; exact (hM2.from0 0 (by simp)).size); have hB7 := q7.below (hM2.later 9 (by simp)) q7.lt; have hqW : Below wb.heap.size wb WM := (hM2.whole 3 (by simp)).undrew; clear hM2 q5 q7 a0 e0 t0 u7' hWM HR4 x7 q0 hx0 hl30 hl31 hl1 hl3
       generalize σ 3 = p5 at *
       generalize σ 9 = p7 at *
       obtain ⟨D5, d5⟩ := p5
       obtain ⟨D7, d7⟩ := p7
       simp only at O5 e5 e7
       subst e5
       subst e7
       have HR7 : Hid (Rds 3 Out.cells WM (some ⟨g7, 0, none⟩) [(⟨id0, 1, true⟩ : Out)]) := lh (fun _ => ⟨g7, 0, rfl, hB7.lt, fun i y hy j u hu => by
        have h0 : i = 0 := by have := (List.getElem?_eq_some_iff.1 hy).1; simp at this; omega
        subst h0; simp at hy; subst hy
        rw [Nat.zero_mul, Nat.zero_add]
        exact (hB7.cell _).trans (by simpa [Out.cells] using hu)⟩)
       have szwb : w.heap.size ≤ wb.heap.size := HG.size; replace hC := hC.later hqW; replace HG := grown_tr HG (bgr hqW (some p)); replace hZ := hZ.to hqW; replace hM := hM.to hqW; replace O0 := O0.later hqW; replace O1 := O1.later hqW; replace O2 := O2.later hqW; replace O3 := O3.later hqW; replace OR := OR.later hqW; have szWM := hqW.size; have nyM := lh (O5.nb hM); have nyZ := lh (O5.nb hZ); have HA0 := lh (O0.apart O5 (by decide))
       have HA1 := lh (O1.apart O5 (by decide)); have HA2 := lh (O2.apart O5 (by decide)); have HA3 := lh (O3.apart O5 (by decide)); have HAR := lh (OR.apart O5 (by decide)); have HC9 := lh hC; have HG9 := lh HG; have HZ9 := lh hZ; have HM9 := lh hM; have HP0 := lh O0; have HP1 := lh O1; have HP2 := lh O2; have HP3 := lh O3; have HPR := lh OR; have HO5 := lh O5; have HQW := lh hqW; clear hC HG hZ hM O0 O1 O2 O3 O4 OR O5 hB7 hqW
       refine wpMx_cons fun K2 hK2 => ?_
       refine wpQuiet_nil ?_
       refine wpQuiet_nil ?_
       change wpList _ _ _ (_ :: []) _ _
       at_builtin
       refine wpList_app1 rfl _ _ 30 rfl wb.heap.size 44 i0 _ 3 24 Tryz.underlying30 hi hz0 hz1 hz2 rfl (by decide) Out.cells out_len out_one _ os rfl HO5.out ⟨g7, 0, none⟩ 1 ⟨id0, 1, true⟩ rfl HR7.out (by unfold maxLen; omega) (by omega) szWM ?_
       intro v8 w8 hOa hga haa
       clear haa
       obtain ⟨ga, dd, rfl⟩ := own_some hOa (by simp)
       have hl8 : (os ++ [(⟨id0, 1, true⟩ : Out)]).length = os.length + 1 := by simp
       rw [hl8] at hOa ⊢
       clear hl8
       go_wp2_with fail
       have hC := HC9.out.row hga (fun k hk => by have := (HO5.out.lt k hk).1; omega); have HG := grown_row2 HG9.out hga (fun k hk => by have := (HO5.out.lt k hk).1; omega); have hZ := HZ9.out.grownN hga (fun e => nyZ.out _ e.symm rfl); have hM := HM9.out.grownN hga (fun e => nyM.out _ e.symm rfl); have O0 := HP0.out.kept hga (fun k hk e => HA0.out k hk e); have O1 := HP1.out.kept hga (fun k hk e => HA1.out k hk e)
       have O2 := HP2.out.kept hga (fun k hk e => HA2.out k hk e); have O3 := HP3.out.kept hga (fun k hk e => HA3.out k hk e); have OR := HPR.out.kept hga (fun k hk e => HAR.out k hk e); have hCk := (HCD.out w8).2 (HQW.out.grown hga szWM (fun q hq => (HO5.out.lt q hq).1)); have OS := hOa.base (B' := w.heap.size) szwb; clear hga hOa
       refine Nrm_keep hCk (hK2 _ _ ?_)
       clear hCk; have z' := hZ.cs8
       obtain ⟨x0, x1, x2, x3, x4, x5, x6, x7⟩ := hM.cs8
       have neO0 := O0.nb hM; have neO1 := O1.nb hM; have neO2 := O2.nb hM; have neO3 := O3.nb hM; have neOR := OR.nb hM; have neOS := OS.nb hM
       haveI : Nonempty (Hld (fun _ => True)) := ⟨⟨w, trivial⟩⟩
       refine wpMx_cons fun K3 hK3 => ?_
       refine wpQuiet_nil ?_
       change wpQuiet _ _ _ _ (_ :: []) _
       repeat (go_big_quiet_step (fail))
       refine wpQuiet_nil ?_
       change wpList _ _ _ (_ :: []) _ _
       have hml := hM.lt; have fhM7 := hM.frozen 7; have yhZ := hZ.lt; have yhM := hM.lt
       go_wp2
       clear z' x0 x1 x2 x3 x4 x5 x6 x7
       refine st1 7 fun wE twE => ?_
       replace HG := stG twE HG; replace hC := stC twE hC; replace hZ := twE.fa hZ; replace hM : Blk wE (mb) 32 #[.slice D0 rs.length d0, .slice D1 qs.length d1, .int .i64 tu, .int .i64 se, .int .i64 sp, .slice D2 ws.length d2, .slice D3 sh.length d3, .slice (some ⟨ga, 0, none⟩) (os.length + 1) dd] := twE.own hM; replace O0 := O0.kS twE; replace O1 := O1.kS twE; replace O2 := O2.kS twE; replace O3 := O3.kS twE
       replace OR := OR.kS twE; replace OS := OS.kS twE; have z' := hZ.cs8
       obtain ⟨x0, x1, x2, x3, x4, x5, x6, x7⟩ := hM.cs8
       refine Nrm_drop (hK3 _ _ ?_)
       refine wpMx_last ?_
       refine wpQuiet_nil ?_
       refine wpQuiet_nil ?_
       have hl8 : (os ++ [(⟨id0, 1, true⟩ : Out)]).length = os.length + 1 := by simp
       rw [← hl8] at hM x7 OS
       have hlo9 : (os ++ [(⟨id0, 1, true⟩ : Out)]).length ≤ 12 + (k + 1) := by rw [hl8]; omega
       clear hl8
       generalize os ++ [(⟨id0, 1, true⟩ : Out)] = os9 at *
       go_wp2
       go_roundw
       case rel => exact ⟨k + 1, os9, (some ⟨ga, 0, none⟩), dd, by go_num, by omega, hlo9, hZ, hM, ⟨O0, O1, O2, O3, OS⟩, OR, hC.mono (by omega), HG⟩
       case measure => simp [intOf]; omega
      case' inr.inl =>
       have d1 : decide ((os.length : Int) < 12 + q) = true := decide_eq_true hl1; have d2 : decide ((k : Int) < 14) = true := decide_eq_true (by omega); have d3 : decide ((0 : Int) < (rs.length : Int)) = false := decide_eq_false (by omega)
       go_wp2
       refine Nrm_intro ((HCC.out _).2 hM) (hK2 _ _ ?_)
       refine wpMix_last ?_
       change wpQuiet _ _ _ _ (_ :: _ :: _ :: _ :: _ :: _ :: _ :: _ :: _ :: _ :: _ :: []) _
       repeat (go_big_quiet_step (fail))
       refine wpQuiet_nil ?_
       clear d1 d2 d3; clear x0 x1 x2 x3 x4 x5 x6 x7
       obtain ⟨x0, x1, x2, x3, x4, x5, x6, x7⟩ := hM.cs8
       clear hl1 hl2 hl3; clear OR; have neO0 := O0.nb hZ; have neO1 := O1.nb hZ; have neO2 := O2.nb hZ; have neO3 := O3.nb hZ; have neO4 := O4.nb hZ; have fhZ' := hZ.fz8; have yhZ := hZ.lt; have yhM := hM.lt
       go_wp2
       clear z' x0 x1 x2 x3 x4 x5 x6 x7
       refine st8 0 fun W9 tW9 => ?_
       replace HG := stG tW9 HG; replace hC := stC tW9 hC; replace hZ := tW9.all8 hZ; replace hM := tW9.fa hM; replace O0 := O0.kS tW9; replace O1 := O1.kS tW9; replace O2 := O2.kS tW9; replace O3 := O3.kS tW9; replace O4 := O4.kS tW9; have z' := hZ.cs8
       obtain ⟨x0, x1, x2, x3, x4, x5, x6, x7⟩ := hM.cs8
       exact brt ⟨rs, qs, tu, se, sp, ws, sh, os, D0, d0, D1, d1, D2, d2, D3, d3, D4, d4, rfl, hrl, hrn, by omega, by omega, by omega, by omega, ⟨O0, O1, O2, O3, O4⟩, hC.mono (by omega), HG⟩ (by simp [results, Tryz.results44, go_sem, z'])
      case' inr.inr.inl =>
       have d1 : decide ((os.length : Int) < 12 + q) = true := decide_eq_true hl1; have d2 : decide ((k : Int) < 14) = false := decide_eq_false (by omega)
       go_wp2
       refine Nrm_intro ((HCC.out _).2 hM) (hK2 _ _ ?_)
       refine wpMix_last ?_
       change wpQuiet _ _ _ _ (_ :: _ :: _ :: _ :: _ :: _ :: _ :: _ :: _ :: _ :: _ :: []) _
       repeat (go_big_quiet_step (fail))
       refine wpQuiet_nil ?_
       clear d1 d2; clear x0 x1 x2 x3 x4 x5 x6 x7
       obtain ⟨x0, x1, x2, x3, x4, x5, x6, x7⟩ := hM.cs8
       clear hl1 hl2; clear OR; have neO0 := O0.nb hZ; have neO1 := O1.nb hZ; have neO2 := O2.nb hZ; have neO3 := O3.nb hZ; have neO4 := O4.nb hZ; have fhZ' := hZ.fz8; have yhZ := hZ.lt; have yhM := hM.lt
       go_wp2
       clear z' x0 x1 x2 x3 x4 x5 x6 x7
       refine st8 0 fun W9 tW9 => ?_
       replace HG := stG tW9 HG; replace hC := stC tW9 hC; replace hZ := tW9.all8 hZ; replace hM := tW9.fa hM; replace O0 := O0.kS tW9; replace O1 := O1.kS tW9; replace O2 := O2.kS tW9; replace O3 := O3.kS tW9; replace O4 := O4.kS tW9; have z' := hZ.cs8
       obtain ⟨x0, x1, x2, x3, x4, x5, x6, x7⟩ := hM.cs8
       exact brt ⟨rs, qs, tu, se, sp, ws, sh, os, D0, d0, D1, d1, D2, d2, D3, d3, D4, d4, rfl, hrl, hrn, by omega, by omega, by omega, by omega, ⟨O0, O1, O2, O3, O4⟩, hC.mono (by omega), HG⟩ (by simp [results, Tryz.results44, go_sem, z'])
      case' inr.inr.inr =>
       have d1 : decide ((os.length : Int) < 12 + q) = false := decide_eq_false hl1
       go_wp2
       refine Nrm_intro ((HCC.out _).2 hM) (hK2 _ _ ?_)
       refine wpMix_last ?_
       change wpQuiet _ _ _ _ (_ :: _ :: _ :: _ :: _ :: _ :: _ :: _ :: _ :: _ :: _ :: []) _
       repeat (go_big_quiet_step (fail))
       refine wpQuiet_nil ?_
       clear d1; clear x0 x1 x2 x3 x4 x5 x6 x7
       obtain ⟨x0, x1, x2, x3, x4, x5, x6, x7⟩ := hM.cs8
       clear hl1; clear OR; have neO0 := O0.nb hZ; have neO1 := O1.nb hZ; have neO2 := O2.nb hZ; have neO3 := O3.nb hZ; have neO4 := O4.nb hZ; have fhZ' := hZ.fz8; have yhZ := hZ.lt; have yhM := hM.lt
       go_wp2
       clear z' x0 x1 x2 x3 x4 x5 x6 x7
       refine st8 0 fun W9 tW9 => ?_
       replace HG := stG tW9 HG; replace hC := stC tW9 hC; replace hZ := tW9.all8 hZ; replace hM := tW9.fa hM; replace O0 := O0.kS tW9; replace O1 := O1.kS tW9; replace O2 := O2.kS tW9; replace O3 := O3.kS tW9; replace O4 := O4.kS tW9; have z' := hZ.cs8
       obtain ⟨x0, x1, x2, x3, x4, x5, x6, x7⟩ := hM.cs8
       exact brt ⟨rs, qs, tu, se, sp, ws, sh, os, D0, d0, D1, d1, D2, d2, D3, d3, D4, d4, rfl, hrl, hrn, by omega, by omega, by omega, by omega, ⟨O0, O1, O2, O3, O4⟩, hC.mono (by omega), HG⟩ (by simp [results, Tryz.results44, go_sem, z'])
    case' inr.inr.inr.inr =>
     have g0 : (q == 0) = false := beq_eq_false_iff_ne.2 (by omega); have g1 : (q == 1) = false := beq_eq_false_iff_ne.2 (by omega); have g2 : (q == 2) = false := beq_eq_false_iff_ne.2 (by omega); have g3 : (q == 3) = false := beq_eq_false_iff_ne.2 (by omega)
     go_upto_region 23 with fail
     clear g0 g1 g2 g3 hq4 OR hlo2; replace hC := hC.mono (M := N + 2590) (by omega)
     generalize w9 = wE at *
    all_goals
     clear z' x0 x1 x2 x3 x4 x5 x6 x7; have z' := hZ.cs8
     obtain ⟨x0, x1, x2, x3, x4, x5, x6, x7⟩ := hM.cs8
     have hrn := HRN.out; have neO0 := O0.nb hZ; have neO1 := O1.nb hZ; have neO2 := O2.nb hZ; have neO3 := O3.nb hZ; have neO4 := O4.nb hZ; have fhZ' := hZ.fz8; have yhZ := hZ.lt; have yhM := hM.lt
     go_wp2
     clear z' x0 x1 x2 x3 x4 x5 x6 x7
     refine st8 0 fun W9 tW9 => ?_
     replace HG := stG tW9 HG; replace hC := stC tW9 hC; replace hZ := tW9.all8 hZ; replace hM := tW9.fa hM; replace O0 := O0.kS tW9; replace O1 := O1.kS tW9; replace O2 := O2.kS tW9; replace O3 := O3.kS tW9; replace O4 := O4.kS tW9; have z' := hZ.cs8
     obtain ⟨x0, x1, x2, x3, x4, x5, x6, x7⟩ := hM.cs8
     exact brt ⟨rs, qs, tu, se, sp, ws, sh, os, D0, d0, D1, d1, D2, d2, D3, d3, D4, d4, rfl, hrl, hrn, by omega, by omega, by omega, by omega, ⟨O0, O1, O2, O3, O4⟩, hC.mono (by omega), HG⟩ (by simp [results, Tryz.results44, go_sem, z'])
end Go.Proofs.YtjimibkgocieoaaGreat
