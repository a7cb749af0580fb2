/- Texts of the proof: walks of the functions, and what they compute. -/
import Derived.Test.YtjimibkgocieoaaGreatRb23
import Derived.Test.YtjimibkgocieoaaGreatRb24
import Derived.Test.YtjimibkgocieoaaGreatRb0
import Derived.Test.YtjimibkgocieoaaGreatRb14
import Derived.Test.YtjimibkgocieoaaGreatRb3
import Derived.Test.YtjimibkgocieoaaGreatRb4
import Derived.Test.YtjimibkgocieoaaGreatRb9
set_option maxHeartbeats 16000000
set_option maxRecDepth 100000
namespace Go.Proofs.YtjimibkgocieoaaGreat
open Go.RowKit Go.G9
structure MeAp (p : Nat) (A0 A1 : Option Addr) (rs : List Rul) (qs : List Que) : Prop where
 a0 : ∀ ad, A0 = some ad → 0 < rs.length → ad.block ≠ p
 a1 : ∀ ad, A1 = some ad → 0 < qs.length → ad.block ≠ p
theorem act_is (A0 A1 A2 A3 A4 : Option Addr) (c0 c1 c2 c3 c4 : Nat) (rs : List Rul) (qs : List Que) (tu se sp : Int) (ws : List Int) (sh : List Sha) (os : List Out) (h0 : rs.length ≤ 1000) (h1 : qs.length ≤ 1000) (p : Nat) (A : Option Addr) (c : Nat) (cs : List UInt8) (hcs : cs.length ≤ 1048576) (N : Nat) (hN : N ≤ 600000) (w : World) (hC : Cur w p A c cs N) (R0 : Rds 7 Rul.cells w A0 rs) (R1 : Rds 3 Que.cells w A1 qs) (Q : MeAp p A0 A1 rs qs) :
 Calls Tryz.prog 45 #[.pointer (some ⟨p, 0, none⟩), .agg #[.slice A0 rs.length c0, .slice A1 qs.length c1, .int .i64 tu, .int .i64 se, .int .i64 sp, .slice A2 ws.length c2, .slice A3 sh.length c3, .slice A4 os.length c4]] w fun e w' => ∃ kd mb vl ye no ab : Int, e = .returned (.agg #[.int .i64 kd, .int .i64 mb, .int .i64 vl, .int .i64 ye, .int .i64 no, .int .i64 ab]) ∧ Stepped w w' p A c cs (N + 60) := by
 have HR0 := lh R0; have HR1 := lh R1; have HQ := lh Q; have HM := lh (mayL_len rs qs); clear R0 R1 Q
 go_in
 have hp := hC.lt; have HG := grown_refl w (some p)
 go_upto_region 1 with fail
 have hb1 : Below w.heap.size w (World.alloc (World.alloc w (.cells #[.slice A0 rs.length c0, .slice A1 qs.length c1, .int .i64 tu, .int .i64 se, .int .i64 sp, .slice A2 ws.length c2, .slice A3 sh.length c3, .slice A4 os.length c4] 32)) (.cells #[.int .i64 0, .int .i64 0, .int .i64 0, .int .i64 0, .int .i64 0, .int .i64 0] 36)) := bl2 w _ _
 have hM : Blk (World.alloc (World.alloc w (.cells #[.slice A0 rs.length c0, .slice A1 qs.length c1, .int .i64 tu, .int .i64 se, .int .i64 sp, .slice A2 ws.length c2, .slice A3 sh.length c3, .slice A4 os.length c4] 32)) (.cells #[.int .i64 0, .int .i64 0, .int .i64 0, .int .i64 0, .int .i64 0, .int .i64 0] 36)) (w.heap.size) 32 #[.slice A0 rs.length c0, .slice A1 qs.length c1, .int .i64 tu, .int .i64 se, .int .i64 sp, .slice A2 ws.length c2, .slice A3 sh.length c3, .slice A4 os.length c4] := by repeat (first | exact Blk.new _ _ _ | exact Blk.new2 _ _ _ _ | exact Blk.new3 _ _ _ _ _ | exact Blk.new4 _ _ _ _ _ _ | refine Blk.alloc ?_ _)
 have hZ : Blk (World.alloc (World.alloc w (.cells #[.slice A0 rs.length c0, .slice A1 qs.length c1, .int .i64 tu, .int .i64 se, .int .i64 sp, .slice A2 ws.length c2, .slice A3 sh.length c3, .slice A4 os.length c4] 32)) (.cells #[.int .i64 0, .int .i64 0, .int .i64 0, .int .i64 0, .int .i64 0, .int .i64 0] 36)) (w.heap.size + 1) 36 #[.int .i64 0, .int .i64 0, .int .i64 0, .int .i64 0, .int .i64 0, .int .i64 0] := by repeat (first | exact Blk.new _ _ _ | exact Blk.new2 _ _ _ _ | exact Blk.new3 _ _ _ _ _ | exact Blk.new4 _ _ _ _ _ _ | refine Blk.alloc ?_ _)
 generalize World.alloc (World.alloc w (.cells #[.slice A0 rs.length c0, .slice A1 qs.length c1, .int .i64 tu, .int .i64 se, .int .i64 sp, .slice A2 ws.length c2, .slice A3 sh.length c3, .slice A4 os.length c4] 32)) (.cells #[.int .i64 0, .int .i64 0, .int .i64 0, .int .i64 0, .int .i64 0, .int .i64 0] 36) = w1 at *
 replace hC := hC.later hb1; replace HG := grown_tr HG (bgr hb1 (some p)); have sz1 := hb1.size; have LhM := hM.lt; have m' := hM.cs8; have LhZ := hZ.lt; have z' := hZ.cs6
 go_wp2_with fail
 refine (amongL [1, 1, 2, 2, 3, 3, 4, 4, 5, 6, 7, 7, 8, 9] (1) 9 (by decide) (by decide) (by decide) p A c cs hcs (N + 0) (by omega) w1 (hC.later (bl0 _))).mono ?_
 rintro e w2 ⟨kd, rfl, hbkd, hS2⟩
 clear m'; clear z'; have hg2 : w1.grownBy w2 (some p) := grown_tr (bgr bel _) hS2.2; replace hC := hS2.1; have sz2 := hg2.size; replace HG := grown_tr HG hg2; replace hM := hM.grownB hg2 (by omega); replace hZ := hZ.grownB hg2 (by omega); have m' := hM.cs8; have z' := hZ.cs6
 go_wp2_with fail
 refine (pick_is 5 p A c cs hcs (N + 2) (by omega) (by omega) _ (hC.later bel)).mono ?_
 rintro e w3 ⟨r1, rfl, ⟨hbr1, _, hcr1⟩, hS3⟩
 clear m'; clear z'; have hg3 : w2.grownBy w3 (some p) := grown_tr (bgr bel _) hS3.2; replace hC := hS3.1; have sz3 := hg3.size; replace HG := grown_tr HG hg3; replace hM := hM.grownB hg3 (by omega); replace hZ := hZ.grownB hg3 (by omega); have m' := hM.cs8; have z' := hZ.cs6; replace hcr1 := hcr1 (by omega)
 obtain ⟨mb, hmb⟩ : ∃ x, x = 1 + r1 := ⟨_, rfl⟩
 go_upto_region 2 with fail
 rw [← hmb]
 clear hmb hbr1 hcr1; have hb4 : Below w3.heap.size w3 (World.alloc w3 (.cells #[.int .i64 kd, .int .i64 mb, .int .i64 0, .int .i64 0, .int .i64 0, .int .i64 0] 36)) := bl1 w3 _
 have hL : Blk (World.alloc w3 (.cells #[.int .i64 kd, .int .i64 mb, .int .i64 0, .int .i64 0, .int .i64 0, .int .i64 0] 36)) (w3.heap.size) 36 #[.int .i64 kd, .int .i64 mb, .int .i64 0, .int .i64 0, .int .i64 0, .int .i64 0] := by repeat (first | exact Blk.new _ _ _ | exact Blk.new2 _ _ _ _ | exact Blk.new3 _ _ _ _ _ | exact Blk.new4 _ _ _ _ _ _ | refine Blk.alloc ?_ _)
 generalize World.alloc w3 (.cells #[.int .i64 kd, .int .i64 mb, .int .i64 0, .int .i64 0, .int .i64 0, .int .i64 0] 36) = wL at *
 replace hC := hC.later hb4; replace HG := grown_tr HG (bgr hb4 (some p)); clear m'; replace hM := hM.grownB (bgr hb4 (some p)) (by omega); have m' := hM.cs8; clear z'; replace hZ := hZ.grownB (bgr hb4 (some p)) (by omega); have z' := hZ.cs6; have sz4 := hb4.size; have LhL := hL.lt; have l' := hL.cs6; clear l'
 obtain ⟨vl, hvl⟩ : ∃ x : Int, x = 0 := ⟨_, rfl⟩
 obtain ⟨ye, hye⟩ : ∃ x : Int, x = 0 := ⟨_, rfl⟩
 obtain ⟨no, hno⟩ : ∃ x : Int, x = 0 := ⟨_, rfl⟩
 obtain ⟨ab, hab⟩ : ∃ x : Int, x = 0 := ⟨_, rfl⟩
 replace hL : Blk wL (w3.heap.size) 36 #[.int .i64 kd, .int .i64 mb, .int .i64 vl, .int .i64 ye, .int .i64 no, .int .i64 ab] := by rw [hvl, hye, hno, hab]; exact hL
 clear hvl hye hno hab; have l' := hL.cs6
 rcases (show (kd = 1 ∧ pendB rs qs = false) ∨ (kd = 1 ∧ pendB rs qs = true ∧ ¬ 0 < (mayL rs qs).length) ∨ (kd = 1 ∧ pendB rs qs = true ∧ 0 < (mayL rs qs).length) ∨ kd = 5 ∨ kd = 7 ∨ (kd ≠ 1 ∧ kd ≠ 5 ∧ kd ≠ 7) by
  by_cases e1 : kd = 1
  ·cases pendB rs qs <;> by_cases e2 : 0 < (mayL rs qs).length <;> simp [e1, e2]
  ·by_cases e5 : kd = 5
   ·simp [e5]
   ·by_cases e7 : kd = 7 <;> simp [e1, e5, e7]) with ⟨e1, hg⟩ | ⟨e1, hg, hl⟩ | ⟨e1, hg, hl⟩ | e1 | e1 | ⟨e1, e5, e7⟩
 case' inl =>
  have g1 : (kd == 1) = true := beq_iff_eq.2 e1; have HGP := lh hg; clear hg e1
  go_wp2_with fail
  refine (drRuleOf_is A0 c0 rs h0 p A c cs hcs (N + 4) (by omega) _ (hC.later bel) (rds_far HR0.out HG HQ.out.a0) HQ.out.a0).mono ?_
  rintro e w5 ⟨vl, rfl, hS5⟩
  clear m'; clear z'; clear l'; have hg5 : wL.grownBy w5 (some p) := grown_tr (bgr bel _) hS5.2; replace hC := hS5.1; have sz5 := hg5.size; replace HG := grown_tr HG hg5; replace hM := hM.grownB hg5 (by omega); replace hZ := hZ.grownB hg5 (by omega); replace hL := hL.grownB hg5 (by omega); have m' := hM.cs8; have z' := hZ.cs6; have l' := hL.cs6; have fhL2 := hL.frozen 2; have yhM := hM.lt; have yhZ := hZ.lt
  have yhL := hL.lt
  go_upto_region 5 with fail
  clear fhL2 yhM yhZ yhL; clear m' z' l'
  refine st1 2 fun wT twT => ?_
  replace HG := stG twT HG; replace hC := stC twT hC; replace hM := twT.fa hM; replace hZ := twT.fa hZ; replace hL : Blk wT (w3.heap.size) 36 #[.int .i64 kd, .int .i64 mb, .int .i64 vl, .int .i64 ye, .int .i64 no, .int .i64 ab] := twT.own hL; have m' := hM.cs8; have z' := hZ.cs6; have l' := hL.cs6
  go_wp2_with fail
  refine (l7Good_is A0 c0 rs (by omega) A1 c1 qs (by omega) _ HGP.out _ (rds_far HR0.out HG HQ.out.a0) (rds_far HR1.out HG HQ.out.a1)).mono ?_
  rintro e w6 ⟨rfl, hS6⟩
  clear m'; clear z'; clear l'; have hb6 : Below wT.heap.size wT w6 := bth bel hS6; have hg6 : wT.grownBy w6 (some p) := bgr hb6 _; replace hC := hC.later hb6; have sz6 := hg6.size; replace HG := grown_tr HG hg6; replace hM := hM.grownB hg6 (by omega); replace hZ := hZ.grownB hg6 (by omega); replace hL := hL.grownB hg6 (by omega); have m' := hM.cs8; have z' := hZ.cs6; have l' := hL.cs6
  go_upto_region 13 with fail
  replace hC := hC.mono (M := N + 30) (by omega)
  generalize w6 = wS at *
  clear g1
 case' inr.inl =>
  have g1 : (kd == 1) = true := beq_iff_eq.2 e1; have HGP := lh hg; clear hg e1; have HL := lh hl; clear hl
  go_wp2_with fail
  refine (drRuleOf_is A0 c0 rs h0 p A c cs hcs (N + 4) (by omega) _ (hC.later bel) (rds_far HR0.out HG HQ.out.a0) HQ.out.a0).mono ?_
  rintro e w5 ⟨vl, rfl, hS5⟩
  clear m'; clear z'; clear l'; have hg5 : wL.grownBy w5 (some p) := grown_tr (bgr bel _) hS5.2; replace hC := hS5.1; have sz5 := hg5.size; replace HG := grown_tr HG hg5; replace hM := hM.grownB hg5 (by omega); replace hZ := hZ.grownB hg5 (by omega); replace hL := hL.grownB hg5 (by omega); have m' := hM.cs8; have z' := hZ.cs6; have l' := hL.cs6; have fhL2 := hL.frozen 2; have yhM := hM.lt; have yhZ := hZ.lt
  have yhL := hL.lt
  go_upto_region 5 with fail
  clear fhL2 yhM yhZ yhL; clear m' z' l'
  refine st1 2 fun wT twT => ?_
  replace HG := stG twT HG; replace hC := stC twT hC; replace hM := twT.fa hM; replace hZ := twT.fa hZ; replace hL : Blk wT (w3.heap.size) 36 #[.int .i64 kd, .int .i64 mb, .int .i64 vl, .int .i64 ye, .int .i64 no, .int .i64 ab] := twT.own hL; have m' := hM.cs8; have z' := hZ.cs6; have l' := hL.cs6
  go_wp2_with fail
  refine (l7Good_is A0 c0 rs (by omega) A1 c1 qs (by omega) _ HGP.out _ (rds_far HR0.out HG HQ.out.a0) (rds_far HR1.out HG HQ.out.a1)).mono ?_
  rintro e w6 ⟨rfl, hS6⟩
  clear m'; clear z'; clear l'; have hb6 : Below wT.heap.size wT w6 := bth bel hS6; have hg6 : wT.grownBy w6 (some p) := bgr hb6 _; replace hC := hC.later hb6; have sz6 := hg6.size; replace HG := grown_tr HG hg6; replace hM := hM.grownB hg6 (by omega); replace hZ := hZ.grownB hg6 (by omega); replace hL := hL.grownB hg6 (by omega); have m' := hM.cs8; have z' := hZ.cs6; have l' := hL.cs6; have szy := HG.size
  go_wp2_with fail
  refine (l7May_is A0 c0 rs (by omega) A1 c1 qs (by omega) HGP.out _ (rds_far HR0.out HG HQ.out.a0) (rds_far HR1.out HG HQ.out.a1)).mono ?_
  rintro e w7 ⟨Y, y, rfl, hO, hS7⟩
  clear m'; clear z'; clear l'; have hb7 : Below w6.heap.size w6 w7 := bth bel hS7; have hg7 : w6.grownBy w7 (some p) := bgr hb7 _; replace hC := hC.later hb7; have sz7 := hg7.size; replace HG := grown_tr HG hg7; replace hM := hM.grownB hg7 (by omega); replace hZ := hZ.grownB hg7 (by omega); replace hL := hL.grownB hg7 (by omega); have m' := hM.cs8; have z' := hZ.cs6; have l' := hL.cs6; have hl := HL.out
  have hl1 : ¬ (0 : Int) < ((mayL rs qs).length : Int) := by omega
  have hl2 : decide ((0 : Int) < ((mayL rs qs).length : Int)) = false := decide_eq_false hl1; clear hO hl
  go_upto_region 13 with fail
  replace hC := hC.mono (M := N + 30) (by omega)
  generalize w7 = wS at *
  clear hl1 hl2 g1
 case' inr.inr.inl =>
  have g1 : (kd == 1) = true := beq_iff_eq.2 e1; have HGP := lh hg; clear hg e1; have HL := lh hl; clear hl
  go_wp2_with fail
  refine (drRuleOf_is A0 c0 rs h0 p A c cs hcs (N + 4) (by omega) _ (hC.later bel) (rds_far HR0.out HG HQ.out.a0) HQ.out.a0).mono ?_
  rintro e w5 ⟨vl, rfl, hS5⟩
  clear m'; clear z'; clear l'; have hg5 : wL.grownBy w5 (some p) := grown_tr (bgr bel _) hS5.2; replace hC := hS5.1; have sz5 := hg5.size; replace HG := grown_tr HG hg5; replace hM := hM.grownB hg5 (by omega); replace hZ := hZ.grownB hg5 (by omega); replace hL := hL.grownB hg5 (by omega); have m' := hM.cs8; have z' := hZ.cs6; have l' := hL.cs6; have fhL2 := hL.frozen 2; have yhM := hM.lt; have yhZ := hZ.lt
  have yhL := hL.lt
  go_upto_region 5 with fail
  clear fhL2 yhM yhZ yhL; clear m' z' l'
  refine st1 2 fun wT twT => ?_
  replace HG := stG twT HG; replace hC := stC twT hC; replace hM := twT.fa hM; replace hZ := twT.fa hZ; replace hL : Blk wT (w3.heap.size) 36 #[.int .i64 kd, .int .i64 mb, .int .i64 vl, .int .i64 ye, .int .i64 no, .int .i64 ab] := twT.own hL; have m' := hM.cs8; have z' := hZ.cs6; have l' := hL.cs6
  go_wp2_with fail
  refine (l7Good_is A0 c0 rs (by omega) A1 c1 qs (by omega) _ HGP.out _ (rds_far HR0.out HG HQ.out.a0) (rds_far HR1.out HG HQ.out.a1)).mono ?_
  rintro e w6 ⟨rfl, hS6⟩
  clear m'; clear z'; clear l'; have hb6 : Below wT.heap.size wT w6 := bth bel hS6; have hg6 : wT.grownBy w6 (some p) := bgr hb6 _; replace hC := hC.later hb6; have sz6 := hg6.size; replace HG := grown_tr HG hg6; replace hM := hM.grownB hg6 (by omega); replace hZ := hZ.grownB hg6 (by omega); replace hL := hL.grownB hg6 (by omega); have m' := hM.cs8; have z' := hZ.cs6; have l' := hL.cs6; have szy := HG.size
  go_wp2_with fail
  refine (l7May_is A0 c0 rs (by omega) A1 c1 qs (by omega) HGP.out _ (rds_far HR0.out HG HQ.out.a0) (rds_far HR1.out HG HQ.out.a1)).mono ?_
  rintro e w7 ⟨Y, y, rfl, hO, hS7⟩
  clear m'; clear z'; clear l'; have hb7 : Below w6.heap.size w6 w7 := bth bel hS7; have hg7 : w6.grownBy w7 (some p) := bgr hb7 _; replace hC := hC.later hb7; have sz7 := hg7.size; replace HG := grown_tr HG hg7; replace hM := hM.grownB hg7 (by omega); replace hZ := hZ.grownB hg7 (by omega); replace hL := hL.grownB hg7 (by omega); have m' := hM.cs8; have z' := hZ.cs6; have l' := hL.cs6; have hl := HL.out
  have hm := HM.out
  have hl1 : (0 : Int) < ((mayL rs qs).length : Int) := by omega
  have hl2 : decide ((0 : Int) < ((mayL rs qs).length : Int)) = true := decide_eq_true hl1
  have hlx : ((mayL rs qs).length : Int) ≤ 1000000000 := by omega
  replace hO := hO.base (B' := w.heap.size) (by omega)
  go_wp2_with fail
  refine (pick_is ((mayL rs qs).length : Int) p A c cs hcs (N + 8) (by omega) hlx _ (hC.later bel)).mono ?_
  rintro e w8 ⟨r, rfl, ⟨hr0, hr1, hr2⟩, hS8⟩
  clear m'; clear z'; clear l'; have hg8 : w7.grownBy w8 (some p) := grown_tr (bgr bel _) hS8.2; replace hC := hS8.1; have sz8 := hg8.size; replace HG := grown_tr HG hg8; replace hM := hM.grownB hg8 (by omega); replace hZ := hZ.grownB hg8 (by omega); replace hL := hL.grownB hg8 (by omega); replace hO := hO.kept hg8 (fun k hk e => by have h1 := (hO.lt k hk); have h2 : k = p := (Option.some.inj e); omega)
  have m' := hM.cs8; have z' := hZ.cs6; have l' := hL.cs6
  have hr : r < (mayL rs qs).length := by
   by_cases h1 : (1 : Int) < (mayL rs qs).length
   ·exact hr2 h1
   ·rw [hr1 (by omega)]; omega
  obtain ⟨k, rfl⟩ : ∃ k : Nat, r = k := ⟨r.toNat, by omega⟩
  have hk : k < (mayL rs qs).length := by omega
  obtain ⟨b, off, vl, rfl, hbl, hx2, hcx⟩ := (hO.rds intC_len).at_ (Below.refl _ _) hk
  have f0 := hcx 0 _ rfl (Kin.self _)
  simp only [Nat.add_zero, Kin.self, Nat.mul_one] at f0
  clear hx2 hcx hr1 hr2 hO; have fhL2 := hL.frozen 2; have yhM := hM.lt; have yhZ := hZ.lt; have yhL := hL.lt
  go_upto_region 13 with fail
  clear fhL2 yhM yhZ yhL; clear m' z' l'
  refine st1 2 fun wS twS => ?_
  replace HG := stG twS HG; replace hC := stC twS hC; replace hM := twS.fa hM; replace hZ := twS.fa hZ; replace hL : Blk wS (w3.heap.size) 36 #[.int .i64 kd, .int .i64 mb, .int .i64 vl, .int .i64 ye, .int .i64 no, .int .i64 ab] := twS.own hL; have m' := hM.cs8; have z' := hZ.cs6; have l' := hL.cs6; clear f0 hl1 hl2 hlx hl hm g1; replace hC := hC.mono (M := N + 30) (by omega)
 case' inr.inr.inr.inl =>
  have g1 : (kd == 1) = false := beq_eq_false_iff_ne.2 (by omega); have g5 : (kd == 5) = true := beq_iff_eq.2 e1
  go_wp2_with fail
  refine (amongL [1, 10, 60, 3600] (1) 3600 (by decide) (by decide) (by decide) p A c cs hcs (N + 4) (by omega) wL (hC.later (bl0 _))).mono ?_
  rintro e w5 ⟨vl, rfl, hbvl, hS5⟩
  clear m'; clear z'; clear l'; have hg5 : wL.grownBy w5 (some p) := grown_tr (bgr bel _) hS5.2; replace hC := hS5.1; have sz5 := hg5.size; replace HG := grown_tr HG hg5; replace hM := hM.grownB hg5 (by omega); replace hZ := hZ.grownB hg5 (by omega); replace hL := hL.grownB hg5 (by omega); have m' := hM.cs8; have z' := hZ.cs6; have l' := hL.cs6; have fhL2 := hL.frozen 2; have yhM := hM.lt; have yhZ := hZ.lt
  have yhL := hL.lt
  go_upto_region 13 with fail
  clear fhL2 yhM yhZ yhL; clear m' z' l'
  refine st1 2 fun wS twS => ?_
  replace HG := stG twS HG; replace hC := stC twS hC; replace hM := twS.fa hM; replace hZ := twS.fa hZ; replace hL : Blk wS (w3.heap.size) 36 #[.int .i64 kd, .int .i64 mb, .int .i64 vl, .int .i64 ye, .int .i64 no, .int .i64 ab] := twS.own hL; have m' := hM.cs8; have z' := hZ.cs6; have l' := hL.cs6; replace hC := hC.mono (M := N + 30) (by omega); clear g1 g5 e1
 case' inr.inr.inr.inr.inl =>
  have g1 : (kd == 1) = false := beq_eq_false_iff_ne.2 (by omega); have g5 : (kd == 5) = false := beq_eq_false_iff_ne.2 (by omega); have g7 : (kd == 7) = true := beq_iff_eq.2 e1
  go_wp2_with fail
  refine (tally_is p A c cs hcs (N + 4) (by omega) _ (hC.later bel)).mono ?_
  rintro e w5 ⟨ye, no, ab, rfl, hS5⟩
  clear m'; clear z'; clear l'; have hg5 : wL.grownBy w5 (some p) := grown_tr (bgr bel _) hS5.2; replace hC := hS5.1; have sz5 := hg5.size; replace HG := grown_tr HG hg5; replace hM := hM.grownB hg5 (by omega); replace hZ := hZ.grownB hg5 (by omega); replace hL := hL.grownB hg5 (by omega); have m' := hM.cs8; have z' := hZ.cs6; have l' := hL.cs6; have fhL3 := hL.frozen 3; have fhL4 := hL.frozen 4; have fhL5 := hL.frozen 5
  have yhM := hM.lt; have yhZ := hZ.lt; have yhL := hL.lt
  go_upto_region 13 with fail
  clear fhL3 fhL4 fhL5 yhM yhZ yhL; clear m' z' l'
  refine st3 3 fun wS twS => ?_
  replace HG := stG twS HG; replace hC := stC twS hC; replace hM := twS.fa hM; replace hZ := twS.fa hZ; replace hL : Blk wS (w3.heap.size) 36 #[.int .i64 kd, .int .i64 mb, .int .i64 vl, .int .i64 ye, .int .i64 no, .int .i64 ab] := twS.own hL; have m' := hM.cs8; have z' := hZ.cs6; have l' := hL.cs6; replace hC := hC.mono (M := N + 30) (by omega); clear g1 g5 g7 e1
 case' inr.inr.inr.inr.inr =>
  have g1 : (kd == 1) = false := beq_eq_false_iff_ne.2 (by omega); have g5 : (kd == 5) = false := beq_eq_false_iff_ne.2 (by omega); have g7 : (kd == 7) = false := beq_eq_false_iff_ne.2 (by omega)
  go_upto_region 13 with fail
  replace hC := hC.mono (M := N + 30) (by omega)
  generalize wL = wS at *
  clear g1 g5 g7 e1 e5 e7
 all_goals
  go_wp2_with fail
  refine (pick_is 24 p A c cs hcs (N + 30) (by omega) (by omega) _ (hC.later bel)).mono ?_
  rintro e w9 ⟨v, rfl, ⟨hbv, _, hcv⟩, hS9⟩
  clear m'; clear z'; clear l'; have hg9 : wS.grownBy w9 (some p) := grown_tr (bgr bel _) hS9.2; replace hC := hS9.1; have sz9 := hg9.size; replace HG := grown_tr HG hg9; replace hM := hM.grownB hg9 (by omega); replace hZ := hZ.grownB hg9 (by omega); replace hL := hL.grownB hg9 (by omega); have m' := hM.cs8; have z' := hZ.cs6; have l' := hL.cs6; replace hcv := hcv (by omega)
  rcases (show v = 0 ∨ v = 1 ∨ v = 2 ∨ 2 < v by omega) with rfl | rfl | rfl | hr4
  case' inl =>
   go_wp2_with fail
   refine (amongL [0, 10] (0) 10 (by decide) (by decide) (by decide) p A c cs hcs (N + 32) (by omega) w9 (hC.later (bl0 _))).mono ?_
   rintro e w10 ⟨kd, rfl, hbkd, hS10⟩
   clear m'; clear z'; clear l'; have hg10 : w9.grownBy w10 (some p) := grown_tr (bgr bel _) hS10.2; replace hC := hS10.1; have sz10 := hg10.size; replace HG := grown_tr HG hg10; replace hM := hM.grownB hg10 (by omega); replace hZ := hZ.grownB hg10 (by omega); replace hL := hL.grownB hg10 (by omega); have m' := hM.cs8; have z' := hZ.cs6; have l' := hL.cs6; have fhL0 := hL.frozen 0; have yhM := hM.lt
   have yhZ := hZ.lt; have yhL := hL.lt
   go_upto_region 20 with fail
   clear fhL0 yhM yhZ yhL; clear m' z' l'
   refine st1 0 fun wU twU => ?_
   replace HG := stG twU HG; replace hC := stC twU hC; replace hM := twU.fa hM; replace hZ := twU.fa hZ; replace hL : Blk wU (w3.heap.size) 36 #[.int .i64 kd, .int .i64 mb, .int .i64 vl, .int .i64 ye, .int .i64 no, .int .i64 ab] := twU.own hL; have m' := hM.cs8; have z' := hZ.cs6; have l' := hL.cs6; replace hC := hC.mono (M := N + 60) (by omega)
  case' inr.inl =>
   go_wp2_with fail
   refine (amongL [0, 100] (0) 100 (by decide) (by decide) (by decide) p A c cs hcs (N + 32) (by omega) w9 (hC.later (bl0 _))).mono ?_
   rintro e w10 ⟨mb, rfl, hbmb, hS10⟩
   clear m'; clear z'; clear l'; have hg10 : w9.grownBy w10 (some p) := grown_tr (bgr bel _) hS10.2; replace hC := hS10.1; have sz10 := hg10.size; replace HG := grown_tr HG hg10; replace hM := hM.grownB hg10 (by omega); replace hZ := hZ.grownB hg10 (by omega); replace hL := hL.grownB hg10 (by omega); have m' := hM.cs8; have z' := hZ.cs6; have l' := hL.cs6; have fhL1 := hL.frozen 1; have yhM := hM.lt
   have yhZ := hZ.lt; have yhL := hL.lt
   go_upto_region 20 with fail
   clear fhL1 yhM yhZ yhL; clear m' z' l'
   refine st1 1 fun wU twU => ?_
   replace HG := stG twU HG; replace hC := stC twU hC; replace hM := twU.fa hM; replace hZ := twU.fa hZ; replace hL : Blk wU (w3.heap.size) 36 #[.int .i64 kd, .int .i64 mb, .int .i64 vl, .int .i64 ye, .int .i64 no, .int .i64 ab] := twU.own hL; have m' := hM.cs8; have z' := hZ.cs6; have l' := hL.cs6; replace hC := hC.mono (M := N + 60) (by omega)
  case' inr.inr.inl =>
   go_wp2_with fail
   refine (amongL [0, 21, 3601] (0) 3601 (by decide) (by decide) (by decide) p A c cs hcs (N + 32) (by omega) w9 (hC.later (bl0 _))).mono ?_
   rintro e w10 ⟨vl, rfl, hbvl, hS10⟩
   clear m'; clear z'; clear l'; have hg10 : w9.grownBy w10 (some p) := grown_tr (bgr bel _) hS10.2; replace hC := hS10.1; have sz10 := hg10.size; replace HG := grown_tr HG hg10; replace hM := hM.grownB hg10 (by omega); replace hZ := hZ.grownB hg10 (by omega); replace hL := hL.grownB hg10 (by omega); have m' := hM.cs8; have z' := hZ.cs6; have l' := hL.cs6; have fhL2 := hL.frozen 2; have yhM := hM.lt
   have yhZ := hZ.lt; have yhL := hL.lt
   go_upto_region 20 with fail
   clear fhL2 yhM yhZ yhL; clear m' z' l'
   refine st1 2 fun wU twU => ?_
   replace HG := stG twU HG; replace hC := stC twU hC; replace hM := twU.fa hM; replace hZ := twU.fa hZ; replace hL : Blk wU (w3.heap.size) 36 #[.int .i64 kd, .int .i64 mb, .int .i64 vl, .int .i64 ye, .int .i64 no, .int .i64 ab] := twU.own hL; have m' := hM.cs8; have z' := hZ.cs6; have l' := hL.cs6; replace hC := hC.mono (M := N + 60) (by omega)
  case' inr.inr.inr =>
   have g0 : (v == 0) = false := beq_eq_false_iff_ne.2 (by omega); have g1 : (v == 1) = false := beq_eq_false_iff_ne.2 (by omega); have g2 : (v == 2) = false := beq_eq_false_iff_ne.2 (by omega)
   go_upto_region 20 with fail
   replace hC := hC.mono (M := N + 60) (by omega)
   generalize w9 = wU at *
   clear g0 g1 g2 hr4
  all_goals
   have fhZ' := hZ.fz6; have yhM := hM.lt; have yhZ := hZ.lt; have yhL := hL.lt
   go_wp2
   clear m' z' l'
   refine st6 0 fun W9 tW9 => ?_
   replace HG := stG tW9 HG; replace hC := stC tW9 hC; replace hM := tW9.fa hM; replace hZ := tW9.all6 hZ; replace hL := tW9.fa hL; have m' := hM.cs8; have z' := hZ.cs6; have l' := hL.cs6
   exact brt ⟨kd, mb, vl, ye, no, ab, rfl, hC, HG⟩ (by simp [results, Tryz.results45, go_sem, z'])
open Go.RowKit Go.G9
theorem own_some {T : Type} {B : Nat} {e : TypeId} {sz : Nat} {f : T → List Value} {w : World} {v : Value} {xs : List T} (h : OwnV B e sz f w v xs) (hn : 0 < xs.length) : ∃ g c, v = .slice (some ⟨g, 0, none⟩) xs.length c := by
 obtain ⟨_, h⟩ := h
 rcases h with ⟨_, h0⟩ | ⟨g, cap, _, h, _⟩
 ·omega
 ·exact ⟨g, cap, h⟩
theorem rul_len' (x : Rul) : (Rul.cells x).length = 7 := rfl
theorem rul_one' (x : Rul) : ∀ u ∈ Rul.cells x, u.oneCell' = true := by
 exact zb120
theorem addRule_is (lb lo : Nat) (lc : Nat) (xs : List Rul) (hx : xs.length ≤ 1000) (hk : xs.length ≤ lc) (id : Int) (nm : ByteArray) (rk : Int) (sc db am : Bool) (nd : Int) (hok : nm.size ≤ maxLen) (w : World) (R : Rds 7 Rul.cells w (some ⟨lb, lo, none⟩) xs) :
 Calls Tryz.prog 183 #[.slice (some ⟨lb, lo, none⟩) xs.length lc, .agg #[.int .i64 id, .string nm, .int .i64 rk, .bool sc, .bool db, .bool am, .int .i64 nd]] w fun e w' => ∃ (ys : List Rul) (g y : Nat) (v : Bool), e = .returned (.tuple #[.slice (some ⟨g, 0, none⟩) ys.length y, .bool v]) ∧ ys.length ≤ xs.length + 1 ∧ (∀ t ∈ ys, t.name = nm ∨ t ∈ xs) ∧ OwnV w.heap.size 48 7 Rul.cells w' (.slice (some ⟨g, 0, none⟩) ys.length y) ys ∧ Below w.heap.size w w' := by
 obtain ⟨i0, hi, hz0, hz1, hz2⟩ := info_parts info_Rul
 have HR := lh R; clear R
 cases hg : rulesB xs
 ·have HGD := lh hg; clear hg
  go_in
  go_upto_region 1 with fail
  refine lay1 fun wX hq1 hB => ?_
  have HB := hq1
  obtain ⟨y0, y1, y2, y3, y4, y5, y6⟩ := hB.cs7
  go_wp2_with fail
  refine (l2Good_is (some ⟨lb, lo, none⟩) lc xs (by omega) _ HGD.out _ (HR.out.below (bth HB bel))).mono ?_
  rintro e w2 ⟨rfl, hb2⟩
  have hq2 := be wX hb2; replace HB := bth HB hq2; replace hB := hB.to hq2; clear y0 y1 y2 y3 y4 y5 y6
  obtain ⟨y0, y1, y2, y3, y4, y5, y6⟩ := hB.cs7
  have szh := HB.size
  go_wp2
  go_ret2
  exact ⟨[], _, 0, false, rfl, by simp, by simp, (OwnV.made w2 (Nat.le_refl _) _).base szh, bth HB (bl1 _ _)⟩
 ·have HGD := lh hg; clear hg
  go_in
  go_upto_region 1 with fail
  refine lay1 fun wX hq1 hB => ?_
  have HB := hq1
  obtain ⟨y0, y1, y2, y3, y4, y5, y6⟩ := hB.cs7
  go_wp2_with fail
  refine (l2Good_is (some ⟨lb, lo, none⟩) lc xs (by omega) _ HGD.out _ (HR.out.below (bth HB bel))).mono ?_
  rintro e w2 ⟨rfl, hb2⟩
  have hq2 := be wX hb2; replace HB := bth HB hq2; replace hB := hB.to hq2; clear y0 y1 y2 y3 y4 y5 y6
  obtain ⟨y0, y1, y2, y3, y4, y5, y6⟩ := hB.cs7
  have szh := HB.size; have HBX := lh hB; have HBO := lh HB; clear hB y0 y1 y2 y3 y4 y5 y6
  go_wp2
  go_loopw [6] (fun i wr => ∃ k : Nat, k ≤ xs.length ∧ i = .int .i64 k ∧ Below w2.heap.size w2 wr) (fun i _ => xs.length - (intOf i).toNat)
  case atStart => exact ⟨0, Nat.zero_le _, rfl, Below.refl _ _⟩
  case round =>
   obtain ⟨k, hk2, rfl, hb⟩ := hrel
   have hBr := HBX.out.below hb HBX.out.lt
   have c0 := fun K : Kin wr.heap.size wr => ((hBr.below K.below hBr.lt).cell 0).trans (show _ = some (.int .i64 id) from rfl)
   have hbl : Below w.heap.size w wr := bth HBO.out hb
   rcases (show (∃ x, xs[k]? = some x ∧ x.id < id) ∨ (∃ x, xs[k]? = some x ∧ ¬ x.id < id) ∨ k = xs.length by
    by_cases hlt : k < xs.length
    ·by_cases h : (xs[k]).id < id
     ·exact .inl ⟨_, List.getElem?_eq_getElem hlt, h⟩
     ·exact .inr (.inl ⟨_, List.getElem?_eq_getElem hlt, h⟩)
    ·exact .inr (.inr (by omega))) with ⟨x, hx3, hm⟩ | ⟨x, hx3, hm⟩ | hke
   case' inl =>
    have hlt : k < xs.length := (List.getElem?_eq_some_iff.1 hx3).1; have hlt' : decide ((k : Int) < (xs.length : Int)) = true := decide_eq_true (by omega)
    have x0 := fun K : Kin wr.heap.size wr => rds_cellz (HR.out.below (bth hbl K.below)) hx3 (i := 0) (u := .int .i64 x.id) rfl
    simp only [Nat.add_zero] at x0
    have hm' : decide (x.id < id) = true := decide_eq_true hm; clear hx3
    go_wp2
    refine wp_region_kin (by kernel_rfl) (by kernel_rfl) ?_
    repeat (go_big_quiet_step ((fail)))
    refine wpQuiet_nil ?_
    intro K
    clear c0 x0 hBr
    go_wp2
    go_roundw
    case rel => exact ⟨k + 1, by omega, by go_num, bth hb K.below⟩
    case measure => simp [intOf]; omega
   case' inr.inl =>
    have hlt : k < xs.length := (List.getElem?_eq_some_iff.1 hx3).1; have hlt' : decide ((k : Int) < (xs.length : Int)) = true := decide_eq_true (by omega)
    have x0 := fun K : Kin wr.heap.size wr => rds_cellz (HR.out.below (bth hbl K.below)) hx3 (i := 0) (u := .int .i64 x.id) rfl
    simp only [Nat.add_zero] at x0
    have hm' : decide (x.id < id) = false := decide_eq_false hm; clear hx3
    go_wp2
    refine wp_region_kin (by kernel_rfl) (by kernel_rfl) ?_
    repeat (go_big_quiet_step ((fail)))
    refine wpQuiet_nil ?_
    intro K
    clear c0 x0 hBr hm' hlt' hlt hm
    go_upto_region 6 with fail
   case' inr.inr =>
    have hlt' : decide ((k : Int) < (xs.length : Int)) = false := decide_eq_false (by omega)
    have hlt2 : ¬ k < xs.length := by omega
    clear hke
    go_wp2
    refine wp_region_kin (by kernel_rfl) (by kernel_rfl) ?_
    repeat (go_big_quiet_step ((fail)))
    refine wpQuiet_nil ?_
    intro K
    clear c0 hBr hlt' hlt2
    go_upto_region 6 with fail
   all_goals
    have HB := bth hbl K.below; have hB := HBX.out.below (bth hb K.below) HBX.out.lt; clear hbl hb HBX HBO
    generalize K.world = wv at *
    have szwv := HB.size
    have hkc : k ≤ lc := by omega
    have HTL : Hid ((xs.take k).length = k) := lh (by rw [List.length_take]; omega); have HRL : Hid ((xs.drop k).length = xs.length - k) := lh (by rw [List.length_drop]); have HRT : Hid (Rds 7 Rul.cells w (some ⟨lb, lo, none⟩) (xs.take k)) := lh (rds_takeq HR.out k)
    have HRR : Hid (Rds 7 Rul.cells w (if lc = k then (some ⟨lb, lo, none⟩ : Option Addr) else some ⟨lb, lo + k * 7, none⟩) (xs.drop k)) := lh (by
     split
     ·rw [List.drop_of_length_le (by omega)]; exact Rds.nil
     ·exact rds_dropz HR.out k)
    obtain ⟨y0, y1, y2, y3, y4, y5, y6⟩ := hB.cs7
    obtain ⟨CC3, hCC3⟩ : ∃ X : World → Prop, ∀ V, X V ↔ (Below w.heap.size w V ∧ Blk V (w.heap.size) 48 #[.int .i64 id, .string nm, .int .i64 rk, .bool sc, .bool db, .bool am, .int .i64 nd]) := ⟨_, fun _ => Iff.rfl⟩
    have HCC3 := lh hCC3; clear hCC3
    haveI : Nonempty (Hld CC3) := ⟨⟨wv, ((HCC3.out _).2 ⟨HB, hB⟩)⟩⟩
    clear y0 y1 y2 y3 y4 y5 y6
    obtain ⟨y0, y1, y2, y3, y4, y5, y6⟩ := Blk.cs7K (fun K : Hld CC3 => ((HCC3.out _).1 K.holds).2)
    refine wp_region_mky (wiT 48 7 Rul.cells 4 6 xs k #[.int .i64 id, .string nm, .int .i64 rk, .bool sc, .bool db, .bool am, .int .i64 nd]) CC3 [([], 0), ([1, 2, 3], 4), ([5], 6)] [8, 9, 10] [([], [], 7, false), ([], [], 11, true)] [] [12] (by kernel_rfl) (by kernel_rfl) ((HCC3.out _).2 ⟨HB.drew, hB⟩) (fun W W' h k => ((HCC3.out _).2 ⟨((HCC3.out _).1 h).1.trans (k.mono ((HCC3.out _).1 h).1.size), ((HCC3.out _).1 h).2.below k ((HCC3.out _).1 h).2.lt⟩)) ?_
    intro σ
    refine wpMk1_cons (some 28) rfl (.slice (σ 0).1 0 0) rfl fun K1 hK1 => ?_
    change wpQuiet _ _ _ _ ([]) _
    refine wpQuiet_nil ?_
    refine ⟨fun kq hpar => ?_, hK1 _ ?_⟩
    ·change wpList _ _ _ (_ :: []) _ _
     go_wp2
     first | exact Nrm_mk ⟨(some ⟨kq.world.heap.size, 0, none⟩, 0), rfl, bl1 _ _, by simp [wiT]; exact Blk.new _ _ _⟩ | exact Nrm_mk ⟨some ⟨kq.world.heap.size, 0, none⟩, 0, rfl, bl1 _ _, by simp [wiT]; exact Blk.new _ _ _⟩
    simp only [Act.put]
    go_simp
    refine wpMk1_cons (some 32) rfl (.slice (σ 4).1 k (σ 4).2) rfl fun K1 hK1 => ?_
    change wpQuiet _ _ _ _ (_ :: _ :: _ :: []) _
    repeat (go_big_quiet_step (fail))
    refine wpQuiet_nil ?_
    refine ⟨fun kq hpar => ?_, hK1 _ ?_⟩
    ·change wpList _ _ _ (_ :: []) _ _
     obtain ⟨U0, U, hU1, hU, hU5⟩ := hpar 0 (by simp [wiT])
     obtain ⟨hU2, hU4⟩ := hU.1 rfl
     have hU6 := hU4.to hU5; have hU7 : (σ 0).1 = some ⟨U0.heap.size, 0, none⟩ := hU2; have HUR := lh (HRT.out.below ((HCC3.out _).1 kq.holds).1); have HU6 := lh hU6; clear hU6 hU4 hU2 hU1 hU5 hU hpar
     rw [hU7]
     have HU7 := lh hU7; clear hU7
     go_wp2_with ((at_builtin; refine wpList_appOn rfl _ _ 24 rfl U0.heap.size 48 i0 _ 7 48 Tryz.underlying24 hi hz0 hz1 hz2 rfl (by decide) Rul.cells rul_len' rul_one' U0.heap.size rfl HU6.out (Nat.le_refl _) (some ⟨lb, lo, none⟩) lc (xs.take k) k HTL.out.symm rfl HUR.out (fun h => by cases h) (by have := HTL.out; unfold maxLen; omega) (by have := HTL.out; omega) ?_; intro g' c' w' hO' hb'))
     first | exact Nrm_mk ⟨(some ⟨g', 0, none⟩, c'), rfl, hb', by simp [wiT], fun _ => ⟨U0.heap.size, g', HU7.out, rfl, hO'⟩, by simp [wiT]⟩ | exact Nrm_mk ⟨some ⟨g', 0, none⟩, c', rfl, hb', by simp [wiT], fun _ => ⟨U0.heap.size, g', HU7.out, rfl, hO'⟩, by simp [wiT]⟩
    simp only [Act.put]
    go_simp
    refine wpMk1_cons (some 34) rfl (.slice (σ 6).1 1 1) rfl fun K1 hK1 => ?_
    change wpQuiet _ _ _ _ (_ :: []) _
    repeat (go_big_quiet_step (fail))
    refine wpQuiet_nil ?_
    refine ⟨fun kq hpar => ?_, hK1 _ ?_⟩
    ·change wpList _ _ _ (_ :: []) _ _
     go_wp2
     first | exact Nrm_mk ⟨(some ⟨kq.world.heap.size, 0, none⟩, 0), rfl, bl1 _ _, by simp [wiT], by simp [wiT], fun _ => ⟨kq.world.heap.size, rfl, rfl, Blk.new _ _ _⟩⟩ | exact Nrm_mk ⟨some ⟨kq.world.heap.size, 0, none⟩, 0, rfl, bl1 _ _, by simp [wiT], by simp [wiT], fun _ => ⟨kq.world.heap.size, rfl, rfl, Blk.new _ _ _⟩⟩
    simp only [Act.put]
    go_simp
    refine wpMk1_last ?_
    change wpQuiet _ _ _ _ (_ :: _ :: _ :: []) _
    repeat (go_big_quiet_step (fail))
    refine wpQuiet_nil ?_
    intro V0 V W hM hW
    have HNA : Hid ((if lc = k then (some ⟨lb, lo, none⟩ : Option Addr) else some ⟨lb, lo + k * 7, none⟩) = none → xs.drop k = [] ∧ lc - k = 0) := lh (fun h => by split at h <;> cases h)
    generalize (if lc = k then (some ⟨lb, lo, none⟩ : Option Addr) else some ⟨lb, lo + k * 7, none⟩) = RA at *
    obtain ⟨g0, g5, e0, e5, q5⟩ : ∃ g g', (σ 0).1 = some ⟨g, 0, none⟩ ∧ (σ 4).1 = some ⟨g', 0, none⟩ ∧ OwnV g 48 7 Rul.cells (V 4) (.slice (σ 4).1 (xs.take k).length (σ 4).2) (xs.take k) := (hM.post 4 (by simp)).2.1 rfl
    obtain ⟨a0, _⟩ : (σ 0).1 = some ⟨(V0 0).heap.size, 0, none⟩ ∧ Blk (V 0) (V0 0).heap.size 48 #[] := (hM.post 0 (by simp)).1 rfl
    obtain ⟨g7, e7, u7, q7⟩ : ∃ g, (σ 6).1 = some ⟨g, 0, none⟩ ∧ (V0 6).heap.size = g ∧ Blk (V 6) g 48 #[.int .i64 id, .string nm, .int .i64 rk, .bool sc, .bool db, .bool am, .int .i64 nd] := (hM.post 6 (by simp)).2.2 rfl
    have t0 : (V0 0).heap.size = g0 := by rw [a0] at e0; exact congrArg Addr.block (Option.some.inj e0)
    have O5 := (q5.later (hM.later 4 (by simp))).base (B' := wv.heap.size) (by rw [← t0]; exact (hM.from0 0 (by simp)).size); have hB7 := q7.below (hM.later 6 (by simp)) q7.lt; have hq2v : Below wv.heap.size wv W := (hM.whole 4 (by simp)).undrew; have HB9 := bth HB hq2v; have HBW9 := lh (hB.to hq2v); have hBl := hB.lt; clear hM q5 q7 a0 e0 t0 u7 hW
    generalize σ 4 = p5 at *
    generalize σ 6 = p7 at *
    obtain ⟨D5, d5⟩ := p5
    obtain ⟨D7, d7⟩ := p7
    simp only at O5 e5 e7
    subst e5
    subst e7
    rw [HTL.out] at O5
    have HR7 : Hid (Rds 7 Rul.cells W (some ⟨g7, 0, none⟩) [(⟨id, nm, rk, sc, db, am, nd, hok⟩ : Rul)]) := lh (fun _ => ⟨g7, 0, rfl, hB7.lt, fun i y hy j u hu => by
     have h0 : i = 0 := by have := (List.getElem?_eq_some_iff.1 hy).1; simp at this; omega
     subst h0; simp at hy; subst hy
     rw [Nat.zero_mul, Nat.zero_add]
     exact (hB7.cell _).trans (by simpa [Rul.cells] using hu)⟩)
    have szW := HB9.size; have szV := hq2v.size; have HO5' : Hid (OwnV wv.heap.size 48 7 Rul.cells W (.slice (some ⟨g5, 0, none⟩) k d5) (xs.take k)) := lh O5; have hdl5 := O5.lt g5 rfl; have HRW := lh (HRR.out.below HB9); have HBW := lh HB9; have HQV := lh hq2v; clear hB7 hB O5 HB HB9 hq2v y0 y1 y2 y3 y4 y5 y6
    haveI : Nonempty (Hld (fun _ => True)) := ⟨⟨w, trivial⟩⟩
    refine wpMx_cons fun K2 hK2 => ?_
    refine wpQuiet_nil ?_
    refine wpQuiet_nil ?_
    change wpList _ _ _ (_ :: []) _ _
    go_wp2_with ((at_builtin; refine wpList_app1 rfl _ _ 24 rfl wv.heap.size 48 i0 _ 7 48 Tryz.underlying24 hi hz0 hz1 hz2 rfl (by decide) Rul.cells rul_len' rul_one' _ (xs.take k) rfl HO5'.out ⟨g7, 0, none⟩ 1 (⟨id, nm, rk, sc, db, am, nd, hok⟩ : Rul) rfl HR7.out (by have := HTL.out; unfold maxLen; omega) (by have := HTL.out; omega) (by omega) ?_; intro v8 w8 hO8 hg8 ha8; clear ha8; obtain ⟨Y8, y8, rfl, q1, q2, q3⟩ := hO8.form rul_len'; clear q1 q2 q3; have hl8 : (xs.take k ++ [(⟨id, nm, rk, sc, db, am, nd, hok⟩ : Rul)]).length = k + 1 := (by rw [List.length_append, HTL.out]; rfl); rw [hl8] at hO8; clear hl8))
    have HB8 : Below w.heap.size w w8 := HBW.out.grown hg8 szW (fun q hq => by have h9 : g5 = q := Option.some.inj hq; omega); have sz8 := HB8.size; have hCk := HCC3.out w8 |>.2 ⟨HB8, HBW9.out.grownN hg8 (fun e => by have h9 : w.heap.size = g5 := Option.some.inj e; omega)⟩; have sz8v := Nat.le_trans szV hg8.size; have hdl8 := hO8.lt; have HO8 := lh hO8; have HB9 := lh HB8; have HDL8 := lh hdl8; clear hO8 HB8 hg8 hdl8
    refine Nrm_keep hCk (hK2 _ _ ?_)
    clear hCk
    refine wpMx_cons fun K3 hK3 => ?_
    refine wpQuiet_nil ?_
    refine wpQuiet_nil ?_
    change wpList _ _ _ (_ :: []) _ _
    try simp only [Act.put]
    try go_simp
    have HRX := lh (HRR.out.below HB9.out)
    go_wp2_with ((at_builtin; refine wpList_app rfl _ _ 24 rfl wv.heap.size 48 i0 _ 7 48 Tryz.underlying24 hi hz0 hz1 hz2 rfl (by decide) Rul.cells rul_len' rul_one' _ (xs.take k ++ [(⟨id, nm, rk, sc, db, am, nd, hok⟩ : Rul)]) rfl HO8.out RA (lc - k) (xs.drop k) (by rw [HRL.out]; rfl) HRX.out HNA.out (by have h1 := HRL.out; have h2 := HTL.out; rw [List.length_append, h1, h2]; simp only [List.length_cons, List.length_nil]; unfold maxLen; omega) (by have h1 := HRL.out; have h2 := HTL.out; rw [List.length_append, h1, h2]; simp only [List.length_cons, List.length_nil]; omega) sz8v ?_; intro v10 w10 hO10 hg10))
    have HB := HB9.out.grown hg10 sz8 (fun q hq => by have := (HDL8.out q hq).1; omega)
    have hln : (xs.take k ++ [(⟨id, nm, rk, sc, db, am, nd, hok⟩ : Rul)] ++ xs.drop k).length = xs.length + 1 := by have h1 := HRL.out; have h2 := HTL.out; rw [List.length_append, List.length_append, h1, h2]; simp only [List.length_cons, List.length_nil]; omega
    obtain ⟨g, yc, rfl⟩ := own_some hO10 (by rw [hln]; omega)
    have HMM : Hid (∀ t ∈ xs.take k ++ [(⟨id, nm, rk, sc, db, am, nd, hok⟩ : Rul)] ++ xs.drop k, t.name = nm ∨ t ∈ xs) := lh (fun t ht => by
     rcases List.mem_append.1 ht with h | h
     ·rcases List.mem_append.1 h with h | h
      ·exact .inr (List.mem_of_mem_take h)
      ·simp at h; subst h; exact .inl rfl
     ·exact .inr (List.mem_of_mem_drop h))
    generalize xs.take k ++ [(⟨id, nm, rk, sc, db, am, nd, hok⟩ : Rul)] ++ xs.drop k = ys at *
    have HO10 := lh hO10; have HLN := lh hln; clear hg10 hO10 hln
    refine Nrm_drop (hK3 _ _ ?_)
    refine wpMx_last ?_
    refine wpQuiet_nil ?_
    change wpQuiet _ _ _ _ (_ :: []) _
    try simp only [Act.put]
    try go_simp
    repeat (go_big_quiet_step (fail))
    refine wpQuiet_nil ?_
    have hl1 : ys.length ≤ 1048576 := by have := HLN.out; omega
    have hl2 : ys.length ≤ xs.length + 1 := by have := HLN.out; omega
    cases hr : rulesB ys
    all_goals
     have HRY := lh hr; clear hr
     go_wp2_with fail
     refine (l2Good_is (some ⟨g, 0, none⟩) yc ys hl1 _ HRY.out _ (HO10.out.rds rul_len')).mono ?_
     rintro e w11 ⟨rfl, hb11⟩
     have HB2 := bth HB hb11; have HO11 := HO10.out.later hb11; have sz11 := HB2.size; clear HO10 hb11 HB
     go_wp2
     go_ret2
    ·exact ⟨[], _, 0, false, rfl, by simp, by simp, (OwnV.made w11 (Nat.le_refl _) _).base sz11, bth HB2 (bl1 _ _)⟩
    ·exact ⟨ys, g, yc, true, rfl, hl2, HMM.out, HO11.base szwv, HB2⟩
open Go.RowKit Go.G9
theorem rds_oneU (w : World) (id : Int) (nm : ByteArray) (rk : Int) (sc db am : Bool) (nd : Int) (hm : nm.size ≤ maxLen) (e : TypeId) : Rds 7 Rul.cells (w.alloc (.cells #[.int .i64 id, .string nm, .int .i64 rk, .bool sc, .bool db, .bool am, .int .i64 nd] e)) (some ⟨w.heap.size, 0, none⟩) [(⟨id, nm, rk, sc, db, am, nd, hm⟩ : Rul)] := by
 have h := (OwnV.built (B := w.heap.size) (f := Rul.cells) w [(⟨id, nm, rk, sc, db, am, nd, hm⟩ : Rul)] e (Nat.le_refl _) (by simp [maxLen]) rul_len').rds (hf := rul_len')
 simpa [Rul.cells] using h
theorem rules_is (p : Nat) (A : Option Addr) (c : Nat) (cs : List UInt8) (hcs : cs.length ≤ 1048576) (N : Nat) (hN : N ≤ 500000) (w : World) (hC : Cur w p A c cs N) :
 Calls Tryz.prog 127 #[.pointer (some ⟨p, 0, none⟩)] w fun e w' => ∃ (xs : List Rul) (g y : Nat), e = .returned (.slice (some ⟨g, 0, none⟩) xs.length y) ∧ xs.length ≤ 12 ∧ (∀ t ∈ xs, t.name.size ≤ 12) ∧ OwnV w.heap.size 48 7 Rul.cells w' (.slice (some ⟨g, 0, none⟩) xs.length y) xs ∧ Stepped w w' p A c cs (N + 600) := by
 obtain ⟨i0, hi, hz0, hz1, hz2⟩ := info_parts info_Rul
 go_in
 have hp := hC.lt; have HG := grown_refl w (some p); have hO := OwnV.made (sz := 7) (f := Rul.cells) w (Nat.le_refl _) 48
 go_wp2_with fail
 refine (pick_is 7 p A c cs hcs N (by omega) (by omega) _ (hC.later bel)).mono ?_
 rintro e w1 ⟨r, rfl, ⟨hr0, _, hr1⟩, hS1⟩
 have hg1 : w.grownBy w1 (some p) := grown_tr (bgr bel _) hS1.2; replace hC := hS1.1; have sz1 := hg1.size; replace HG := grown_tr HG hg1; have hr2 := hr1 (by omega); replace hO := hO.kept hS1.2 (fun k hk e => by have := (hO.lt k hk).1; have := Option.some.inj e; omega); clear hr1
 obtain ⟨m0, rfl⟩ : ∃ m : Nat, r = m := ⟨r.toNat, by omega⟩
 go_wp2
 go_loopw [3, 4] (fun v i wr => ∃ (m : Nat) (xs : List Rul) (g y : Nat), v = .slice (some ⟨g, 0, none⟩) xs.length y ∧ i = .int .i64 (m : Int) ∧ xs.length + m ≤ 6 ∧ (∀ t ∈ xs, t.name.size ≤ 12) ∧ OwnV w.heap.size 48 7 Rul.cells wr (.slice (some ⟨g, 0, none⟩) xs.length y) xs ∧ Cur wr p A c cs (N + 2 + 40 * (6 - m)) ∧ w.grownBy wr (some p)) (fun _ i _ => (intOf i).toNat)
 case atStart => exact ⟨m0, [], _, 0, rfl, rfl, by simp; omega, by simp, hO, hC.mono (by omega), HG⟩
 case round =>
  clear hC hO HG
  obtain ⟨m, xs, g, y, rfl, rfl, hm, hn, hO, hC, HG⟩ := hrel
  have HN := lh hn; clear hn
  obtain ⟨_, _, he, hcap, _, _⟩ := hO.form rul_len'
  injection he with he1 he2 he3
  rw [← he3] at hcap
  clear he1 he2 he3
  by_cases hlt : 0 < m
  ·have hmm : (m : Int) - 1 = ((m - 1 : Nat) : Int) := by omega
   go_wp2_with fail
   refine (rule_is p A c cs hcs (N + 2 + 40 * (6 - m)) (by omega) _ (hC.later bel)).mono ?_
   rintro e w2 ⟨⟨id, nm, rk, sc, db, am, nd, hok⟩, rfl, hrn, hS2⟩
   have hg2 : wr.grownBy w2 (some p) := grown_tr (bgr bel _) hS2.2; replace hC := hS2.1; have sz2 := hg2.size; replace HG := grown_tr HG hg2; replace hrn : nm.size ≤ 12 := hrn; have HRN := lh hrn; clear hrn; replace hO := hO.kept hS2.2 (fun k hk e => by have := (hO.lt k hk).1; have := Option.some.inj e; omega); have szg := HG.size
   go_wp2_with fail
   refine (addRule_is g 0 y xs (by omega) hcap id nm rk sc db am nd hok _ (hO.rds rul_len')).mono ?_
   rintro e w3 ⟨ys, g2, y2, v, rfl, hyl, hym, hO2, hS3⟩
   have hb3 : Below w2.heap.size w2 w3 := bth bel hS3; have hg3 : w2.grownBy w3 (some p) := bgr hb3 _; replace hC := hC.later hb3; have sz3 := hg3.size; replace HG := grown_tr HG hg3; have HYM := lh hym; clear hym
   cases v
   ·go_wp2
    go_roundw
    case rel => exact ⟨m - 1, xs, g, y, rfl, by rw [← hmm], by omega, HN.out, hO.later hS3, hC.mono (by omega), HG⟩
    case measure => simp [intOf]; omega
   ·go_wp2
    go_roundw
    case rel => exact ⟨m - 1, ys, g2, y2, rfl, by rw [← hmm], by omega, fun t ht => by
     rcases HYM.out t ht with h | h
     ·rw [h]; exact HRN.out
     ·exact HN.out t h, hO2.base szg, hC.mono (by omega), HG⟩
    case measure => simp [intOf]; omega
  ·obtain rfl : m = 0 := by omega
   go_wp2_with fail
   refine (pick_is 24 p A c cs hcs (N + 2 + 40 * (6 - 0)) (by omega) (by omega) _ (hC.later bel)).mono ?_
   rintro e w4 ⟨q, rfl, ⟨hbq, _, hcq⟩, hS4⟩
   have hg4 : wr.grownBy w4 (some p) := grown_tr (bgr bel _) hS4.2; replace hC := hS4.1; have sz4 := hg4.size; replace HG := grown_tr HG hg4; replace hcq := hcq (by omega); replace hO := hO.kept hS4.2 (fun k hk e => by have := (hO.lt k hk).1; have := Option.some.inj e; omega)
   rcases (show q = 0 ∨ q = 1 ∨ 1 < q by omega) with rfl | rfl | hq2
   ·go_wp2_with fail
    refine (rule_is p A c cs hcs (N + 2 + 40 * (6 - 0) + 2) (by omega) _ (hC.later bel)).mono ?_
    rintro e w5 ⟨⟨id, nm, rk, sc, db, am, nd, hok⟩, rfl, hrn, hS5⟩
    have hg5 : w4.grownBy w5 (some p) := grown_tr (bgr bel _) hS5.2; replace hC := hS5.1; have sz5 := hg5.size; replace HG := grown_tr HG hg5; replace hO := hO.kept hS5.2 (fun k hk e => by have := (hO.lt k hk).1; have := Option.some.inj e; omega); replace hrn : nm.size ≤ 12 := hrn
    simp only [Rul.cells]
    go_wp2_with ((at_builtin; refine wpList_app1 rfl _ _ 24 rfl w.heap.size 48 i0 _ 7 48 Tryz.underlying24 hi hz0 hz1 hz2 rfl (by decide) Rul.cells rul_len' rul_one' _ xs rfl (hO.alloc _) ⟨w5.heap.size, 0, none⟩ 1 ⟨id, nm, rk, sc, db, am, nd, hok⟩ rfl (rds_oneU _ _ _ _ _ _ _ _ _ _) (by unfold maxLen; omega) (by omega) (by have := HG.size; simp; omega) ?_; intro va wa hOa hga haa; clear haa))
    have hC4 := (hC.later (bl1 _ _)).row hga (fun k hk => by have := (hO.lt k hk).1; omega); have HG4 := grown_row2 (grown_tr HG (bgr (bl1 _ _) _)) hga (fun k hk => (hO.lt k hk).1)
    obtain ⟨g4, y4, rfl⟩ := own_some hOa (by simp)
    go_wp2
    go_ret
    exact ⟨_, g4, y4, rfl, by simp; omega, fun t ht => by
     rcases List.mem_append.1 ht with h | h
     ·exact HN.out t h
     ·simp at h; subst h; exact hrn, hOa, hC4.mono (by omega), HG4⟩
   ·have HL6 := lh hm; clear hm
    go_wp2
    go_loopw [3, 7] (fun v i wr => ∃ (k : Nat) (xs : List Rul) (g y : Nat), v = .slice (some ⟨g, 0, none⟩) xs.length y ∧ i = .int .i64 (k : Int) ∧ k ≤ 10 ∧ xs.length ≤ 12 ∧ (∀ t ∈ xs, t.name.size ≤ 12) ∧ OwnV w.heap.size 48 7 Rul.cells wr (.slice (some ⟨g, 0, none⟩) xs.length y) xs ∧ Cur wr p A c cs (N + 250 + 8 * k) ∧ w.grownBy wr (some p)) (fun _ i _ => 10 - (intOf i).toNat)
    case atStart => exact ⟨0, xs, g, y, rfl, rfl, by omega, by have := HL6.out; omega, HN.out, hO, hC.mono (by omega), HG⟩
    case round =>
     clear hC hO HG HN HL6 hcap
     obtain ⟨k, xs, g, y, rfl, rfl, hk, hl, hn, hO, hC, HG⟩ := hrel
     have HN := lh hn; clear hn
     go_wp2_with fail
     refine (pick_is 2 p A c cs hcs (N + 250 + 8 * k) (by omega) (by omega) _ (hC.later bel)).mono ?_
     rintro e w5 ⟨r, rfl, ⟨hr0, _, hr1⟩, hS5⟩
     have hg5 : wr.grownBy w5 (some p) := grown_tr (bgr bel _) hS5.2; replace hC := hS5.1; have sz5 := hg5.size; replace HG := grown_tr HG hg5; have hr2 := hr1 (by omega); clear hr1; replace hO := hO.kept hS5.2 (fun k hk e => by have := (hO.lt k hk).1; have := Option.some.inj e; omega)
     by_cases hlt : (xs.length : Int) < 8 + r ∧ k < 10
     ·obtain ⟨hlt, hk10⟩ := hlt
      have hl1 : decide ((xs.length : Int) < 8 + r) = true := decide_eq_true hlt; have hl2 : decide ((k : Int) < 10) = true := decide_eq_true (by omega)
      have hk8 : 0 ≤ Int.tmod (k : Int) 8 ∧ Int.tmod (k : Int) 8 ≤ 8 := by rw [Int.tmod_eq_emod_of_nonneg (by omega)]; omega
      go_upto_region 15 with fail
      refine wp_region_mixh (fun _ => True) [([0, 1, 2, 3, 7, 8, 9], 4), ([], 5), ([6, 10, 11], 12), ([], 13)] [14] (by kernel_rfl) (by kernel_rfl) trivial ?_
      replace hO := hO.later (Below.refl w5.heap.size w5).drew; replace hC := hC.later (Below.refl _ _).drew; replace HG := grown_tr HG (bgr (Below.refl w5.heap.size w5).drew (some p)); have szd : w5.drew.heap.size = w5.heap.size := rfl
      generalize w5.drew = wd at *
      have szd2 : w.heap.size ≤ wd.heap.size := HG.size; clear szd
      haveI : Nonempty (Hld (fun _ => True)) := ⟨⟨w, trivial⟩⟩
      refine wpMix_cons fun K2 hK2 => ?_
      change wpQuiet _ _ _ _ (_ :: _ :: _ :: _ :: _ :: _ :: _ :: []) _
      repeat (go_big_quiet_step (fail))
      refine wpQuiet_nil ?_
      change wpList _ _ _ (_ :: []) _ _
      go_wp2
      refine Nrm_intro (trivial) (hK2 _ _ ?_)
      refine wpMix_cons fun K2 hK2 => ?_
      change wpQuiet _ _ _ _ ([]) _
      refine wpQuiet_nil ?_
      change wpList _ _ _ (_ :: []) _ _
      go_wp2_with fail
      refine (ofL [(⟨#[97]⟩ : ByteArray), (⟨#[98]⟩ : ByteArray)] 1 (by decide) (by decide) (by decide) p A c cs hcs (N + 250 + 8 * k + 2) (by omega) wd (hC.later (bl0 _))).mono ?_
      rintro e w6 ⟨s, rfl, hbs, hS6⟩
      have hg6 : wd.grownBy w6 (some p) := grown_tr (bgr bel _) hS6.2; replace hC := hS6.1; have sz6 := hg6.size; replace HG := grown_tr HG hg6
      go_wp2
      refine Nrm_intro (trivial) (hK2 _ _ ?_)
      refine wpMix_cons fun K2 hK2 => ?_
      change wpQuiet _ _ _ _ (_ :: _ :: _ :: []) _
      repeat (go_big_quiet_step (fail))
      refine wpQuiet_nil ?_
      change wpList _ _ _ (_ :: []) _ _
      have hnm : ((⟨#[120]⟩ : ByteArray) ++ s ++ (⟨#[97, 98, 99, 100, 101, 102, 103, 104]⟩ : ByteArray).extract 0 (k % 8)).size ≤ 12 := by
       rw [ByteArray.size_append, ByteArray.size_append, ByteArray.size_extract]
       have h1 : (⟨#[120]⟩ : ByteArray).size = 1 := rfl
       omega
      generalize (⟨#[120]⟩ : ByteArray) ++ s ++ (⟨#[97, 98, 99, 100, 101, 102, 103, 104]⟩ : ByteArray).extract 0 (k % 8) = nm at *
      have hnx : nm.size ≤ maxLen := by unfold maxLen; omega
      replace hO := hO.kept hg6 (fun k hk e => by have := (hO.lt k hk).1; have := Option.some.inj e; omega)
      go_wp2
      refine Nrm_intro (trivial) (hK2 _ _ ?_)
      refine wpMix_cons fun K2 hK2 => ?_
      change wpQuiet _ _ _ _ ([]) _
      refine wpQuiet_nil ?_
      change wpList _ _ _ (_ :: []) _ _
      go_wp2_with ((at_builtin; refine wpList_app1 rfl _ _ 24 rfl w.heap.size 48 i0 _ 7 48 Tryz.underlying24 hi hz0 hz1 hz2 rfl (by decide) Rul.cells rul_len' rul_one' _ xs rfl (hO.alloc _) ⟨w6.heap.size, 0, none⟩ 1 ⟨11 + (k : Int), nm, 3, false, false, false, 1, hnx⟩ rfl (rds_oneU _ _ _ _ _ _ _ _ _ _) (by unfold maxLen; omega) (by omega) (by have := HG.size; simp; omega) ?_; intro va wa hOa hga haa; clear haa))
      have hC4 := (hC.later (bl1 _ _)).row hga (fun k hk => by have := (hO.lt k hk).1; omega); have HG4 := grown_row2 (grown_tr HG (bgr (bl1 _ _) _)) hga (fun k hk => (hO.lt k hk).1)
      obtain ⟨g4, y4, rfl⟩ := own_some hOa (by simp)
      refine Nrm_intro (trivial) (hK2 _ _ ?_)
      refine wpMix_last ?_
      change wpQuiet _ _ _ _ (_ :: []) _
      repeat (go_big_quiet_step (fail))
      refine wpQuiet_nil ?_
      go_wp2
      go_roundw
      case rel => exact ⟨k + 1, _, g4, y4, rfl, by go_num, by omega, by simp; omega, fun t ht => by
       rcases List.mem_append.1 ht with h | h
       ·exact HN.out t h
       ·simp at h; subst h; exact hnm, hOa, hC4.mono (by omega), HG4⟩
      case measure => simp [intOf]; omega
     ·by_cases hlt1 : (xs.length : Int) < 8 + r
      ·have hl1 : decide ((xs.length : Int) < 8 + r) = true := decide_eq_true hlt1
       have hl2 : decide ((k : Int) < 10) = false := decide_eq_false (by omega)
       have hl3 : ¬ k < 10 := by omega
       go_wp2
       go_ret
       exact ⟨xs, g, y, rfl, by omega, HN.out, hO, hC.mono (by omega), HG⟩
      ·have hl1 : decide ((xs.length : Int) < 8 + r) = false := decide_eq_false hlt1
       go_wp2
       go_ret
       exact ⟨xs, g, y, rfl, by omega, HN.out, hO, hC.mono (by omega), HG⟩
   ·have g0 : (q == 0) = false := beq_eq_false_iff_ne.2 (by omega)
    have g1 : (q == 1) = false := beq_eq_false_iff_ne.2 (by omega)
    go_wp2
    go_ret
    exact ⟨xs, g, y, rfl, by omega, HN.out, hO, hC.mono (by omega), HG⟩
end Go.Proofs.YtjimibkgocieoaaGreat
