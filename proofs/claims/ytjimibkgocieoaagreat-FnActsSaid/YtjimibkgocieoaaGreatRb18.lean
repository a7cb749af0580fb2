/- Texts of the proof: walks of the functions, and what they compute. -/
import Derived.Test.YtjimibkgocieoaaGreatRb17
import Derived.Test.YtjimibkgocieoaaGreatRb0
import Derived.Test.YtjimibkgocieoaaGreatRb10
import Derived.Test.YtjimibkgocieoaaGreatRb15
import Derived.Test.YtjimibkgocieoaaGreatRb16
import Derived.Test.YtjimibkgocieoaaGreatRb3
import Derived.Test.YtjimibkgocieoaaGreatRb8
set_option maxHeartbeats 16000000
set_option maxRecDepth 100000
namespace Go.Proofs.YtjimibkgocieoaaGreat
open Go.RowKit Go.G9
theorem zb59 {p : Prop} (h : p := by
 clear hp
 go_in
 go_wp2_with fail
 refine (l7Good_is A0 c0 rs h0 A1 c1 qs h1 _ HP.out _ (R0.below bel) (R1.below bel)).mono ?_
 rintro e w1 ⟨rfl, hb1⟩
 have hq1 := be w hb1; have HB : Below w.heap.size w w1 := hq1
 go_wp2
 go_ret2
 exact ⟨some ⟨_, 0, none⟩, 0, rfl, OwnV.made _ (by have := HB.size; first | omega | (simp; omega)) _, (bth HB bel)⟩) : p := h
theorem zb39 {p : Prop} (h : p := by
 clear hp hm
 go_in
 go_wp2_with fail
 refine (l7Good_is A0 c0 rs h0 A1 c1 qs h1 _ HP.out _ (R0.below bel) (R1.below bel)).mono ?_
 rintro e w1 ⟨rfl, hb1⟩
 have hq1 := be w hb1; have HB : Below w.heap.size w w1 := hq1
 go_wp2_with fail
 refine (l7Member_is mem _ HM.out _).mono ?_
 rintro e w0 ⟨rfl, h0⟩
 rw [h0]
 clear h0 w0
 go_wp2
 go_ret2
 exact ⟨some ⟨_, 0, none⟩, 0, rfl, OwnV.made _ (by have := HB.size; first | omega | (simp; omega)) _, (bth HB bel)⟩) : p := h
theorem zb123 {p : Prop} (h : p := by
 go_wp2
 go_ret2
 exact ⟨some ⟨_, 0, none⟩, 0, rfl, OwnV.made _ (by have := HB.size; first | omega | (simp; omega)) _, (bth HB bel)⟩) : p := h
theorem sMoveQ_is (A0 : Option Addr) (c0 : Nat) (rs : List Rul) (h0 : rs.length ≤ 1048576) (A1 : Option Addr) (c1 : Nat) (qs : List Que) (h1 : qs.length ≤ 1048576) (hA : A1 = none → qs = [] ∧ c1 = 0) (id mem : Int) (w : World) (R0 : Rds 7 Rul.cells w A0 rs) (R1 : Rds 3 Que.cells w A1 qs) : Calls Tryz.prog 110 #[.slice A0 rs.length c0, .slice A1 qs.length c1, .int .i64 id, .int .i64 mem] w fun e w' => ∃ A c, e = .returned (.tuple #[.slice A (oL (mvQ rs qs id mem)).length c, .bool (mvQ rs qs id mem).isSome]) ∧ OwnV w.heap.size 46 3 Que.cells w' (.slice A (oL (mvQ rs qs id mem)).length c) (oL (mvQ rs qs id mem)) ∧ Below w.heap.size w w' := by
 obtain ⟨i0, hi, hz0, hz1, hz2⟩ := info_parts info_Que
 have HNA := lh hA; clear hA
 cases hp : pendB rs qs
 ·have HP := lh hp
  rw [mvQ_no1 hp]
  exact zb59
 cases hm : memB mem
 ·have HP := lh hp; have HM := lh hm
  rw [mvQ_no2 hm]
  exact zb39
 have hml : (mayL rs qs).length ≤ 1048576 := Nat.le_trans (mayL_len rs qs) h0
 cases hs : hasB (mayL rs qs) id
 ·have HP := lh hp; have HM := lh hm; have HS := lh hs
  rw [mvQ_no3 hs]
  clear hp hm hs
  go_in
  go_wp2_with fail
  refine (l7Good_is A0 c0 rs h0 A1 c1 qs h1 _ HP.out _ (R0.below bel) (R1.below bel)).mono ?_
  rintro e w1 ⟨rfl, hb1⟩
  have hq1 := be w hb1; have HB : Below w.heap.size w w1 := hq1; replace R0 := R0.below hq1; replace R1 := R1.below hq1
  go_wp2_with fail
  refine (l7Member_is mem _ HM.out _).mono ?_
  rintro e w0 ⟨rfl, h0⟩
  rw [h0]
  clear h0 w0
  go_wp2_with fail
  refine (l7May_is A0 c0 rs h0 A1 c1 qs h1 HP.out _ (R0.below bel) (R1.below bel)).mono ?_
  rintro e w2 ⟨A5, c5, rfl, O5, hb2⟩
  have hq2 := be w1 hb2; replace HB := bth HB hq2; have R5 := O5.rds (hf := intC_len); clear O5
  go_wp2_with fail
  refine (l1Has_is A5 c5 (mayL rs qs) id hml _ HS.out _ (R5.below bel)).mono ?_
  rintro e w3 ⟨rfl, hb3⟩
  have hq3 := be w2 hb3; replace HB := bth HB hq3
  exact zb123
 ·have HP := lh hp; have HM := lh hm; have HS := lh hs
  rw [mvQ_yes hp hm hs]
  clear hp hm hs
  go_in
  go_wp2_with fail
  refine (l7Good_is A0 c0 rs h0 A1 c1 qs h1 _ HP.out _ (R0.below bel) (R1.below bel)).mono ?_
  rintro e w1 ⟨rfl, hb1⟩
  have hq1 := be w hb1; have HB : Below w.heap.size w w1 := hq1; replace R0 := R0.below hq1; replace R1 := R1.below hq1
  go_wp2_with fail
  refine (l7Member_is mem _ HM.out _).mono ?_
  rintro e w0 ⟨rfl, h0⟩
  rw [h0]
  clear h0 w0
  go_wp2_with fail
  refine (l7May_is A0 c0 rs h0 A1 c1 qs h1 HP.out _ (R0.below bel) (R1.below bel)).mono ?_
  rintro e w2 ⟨A5, c5, rfl, O5, hb2⟩
  have hq2 := be w1 hb2; replace HB := bth HB hq2; replace R1 := R1.below hq2; have R5 := O5.rds (hf := intC_len); clear O5
  go_wp2_with fail
  refine (l1Has_is A5 c5 (mayL rs qs) id hml _ HS.out _ (R5.below bel)).mono ?_
  exact zb10
theorem set_same {T : Type} : ∀ {xs : List T} {j : Nat} {x : T}, xs[j]? = some x → xs.set j x = xs
 | [], j, x, h => by simp at h
 | y :: xs, 0, x, h => by simp at h; subst h; rfl
 | y :: xs, j + 1, x, h => by simp at h; rw [List.set_cons_succ, set_same h]
theorem sSecondQ_is (A0 : Option Addr) (c0 : Nat) (rs : List Rul) (h0 : rs.length ≤ 1048576) (A1 : Option Addr) (c1 : Nat) (qs : List Que) (h1 : qs.length ≤ 1048576) (hA : A1 = none → qs = [] ∧ c1 = 0) (mem : Int) (w : World) (R0 : Rds 7 Rul.cells w A0 rs) (R1 : Rds 3 Que.cells w A1 qs) : Calls Tryz.prog 111 #[.slice A0 rs.length c0, .slice A1 qs.length c1, .int .i64 mem] w fun e w' => ∃ A c, e = .returned (.tuple #[.slice A (oL (sdQ rs qs mem)).length c, .bool (sdQ rs qs mem).isSome]) ∧ OwnV w.heap.size 46 3 Que.cells w' (.slice A (oL (sdQ rs qs mem)).length c) (oL (sdQ rs qs mem)) ∧ Below w.heap.size w w' := by
 obtain ⟨i0, hi, hz0, hz1, hz2⟩ := info_parts info_Que
 have HNA := lh hA; clear hA
 cases hp : pendB rs qs
 ·have HP := lh hp
  rw [sdQ_no1 (by simp [lkB, hp])]
  exact zb59
 cases hm : memB mem
 ·have HP := lh hp; have HM := lh hm
  rw [sdQ_no2 hm]
  exact zb39
 by_cases hq0 : qs.length = 0
 ·have HP := lh hp; have HM := lh hm
  rw [sdQ_no1 (by rw [lkB, lstB_nil hq0, Bool.and_false])]
  obtain rfl := List.length_eq_zero_iff.1 hq0
  clear hp hm hq0
  go_in
  go_wp2_with fail
  refine (l7Good_is A0 c0 rs h0 A1 c1 [] h1 _ HP.out _ (R0.below bel) (R1.below bel)).mono ?_
  rintro e w1 ⟨rfl, hb1⟩
  have hq1 := be w hb1; have HB : Below w.heap.size w w1 := hq1
  go_wp2_with fail
  refine (l7Member_is mem _ HM.out _).mono ?_
  rintro e w0 ⟨rfl, h0⟩
  rw [h0]
  clear h0 w0
  exact zb123
 obtain ⟨j, hj⟩ : ∃ j, qs.length = j + 1 := ⟨qs.length - 1, by omega⟩
 obtain ⟨bq, oq, ⟨qr, qm, qe⟩, rfl, _, hq, _⟩ := R1.at_ (Below.refl _ _) (k := j) (by omega)
 obtain ⟨t, ht⟩ := pendB_found hp hq
 have HJ := lh hj; have HQ := lh hq; have HT := lh ht; have HM := lh hm
 have hjl : j ≤ 1048576 := by omega
 have hn0 : ((j : Int) + 1 == 0) = false := beq_eq_false_iff_ne.2 (by omega); have HE := lh (fun W h h' => l7Good_is A0 c0 rs h0 (some ⟨bq, oq, none⟩) c1 qs h1 _ hp W h h')
 cases hk : lackB t ⟨qr, qm, qe⟩
 case false =>
  have HK := lh hk
  rw [sdQ_no1 (by rw [lkB, lstB_last hj hq ht, hk, Bool.and_false])]
  rw [hj] at HE ⊢
  clear hk hm hj hq ht hp hq0 h1
  go_in
  go_wp2_with fail
  refine (HE.out _ (R0.below bel) (R1.below bel)).mono ?_
  rintro e w1 ⟨rfl, hb1⟩
  have hq1 := be w hb1; have HB : Below w.heap.size w w1 := hq1; replace R0 := R0.below hq1; replace R1 := R1.below hq1
  go_wp2_with fail
  refine (l7Member_is mem _ HM.out _).mono ?_
  rintro e w0 ⟨rfl, h0⟩
  rw [h0]
  clear h0 w0
  obtain ⟨_, _, y, e9, hb9, hy, hcy⟩ := R1.at_ (Below.refl _ _) (k := j) (by have := HJ.out; omega)
  cases e9
  obtain rfl : (⟨qr, qm, qe⟩ : Que) = y := Option.some.inj (HQ.out.symm.trans hy)
  clear hy; have p0 := hcy 0 _ rfl; have p1 := hcy 1 _ rfl; have p2 := hcy 2 _ rfl
  simp only [Nat.add_zero] at p0
  have g0 := p0 (Kin.self _); have g1 := p1 (Kin.self _); have g2 := p2 (Kin.self _)
  simp only [Kin.self] at g0
  simp only [Kin.self] at g1
  simp only [Kin.self] at g2
  clear hcy p0 p1 p2
  go_wp2_with fail
  refine (l7Lacks_is A0 c0 rs h0 ⟨qr, qm, qe⟩ t HT.out false HK.out _ (R0.below bel)).mono ?_
  rintro e w2 ⟨rfl, hb2⟩
  have hq2 := be w1 hb2; replace HB := bth HB hq2
  exact zb123
 cases hs : qm == mem
 case true =>
  have HK := lh hk
  rw [sdQ_no3 ((lstM_last hj hq).trans hs)]
  rw [hj] at HE ⊢
  clear hk hm hj hq ht hp hq0 h1
  go_in
  go_wp2_with fail
  refine (HE.out _ (R0.below bel) (R1.below bel)).mono ?_
  rintro e w1 ⟨rfl, hb1⟩
  have hq1 := be w hb1; have HB : Below w.heap.size w w1 := hq1; replace R0 := R0.below hq1; replace R1 := R1.below hq1
  go_wp2_with fail
  refine (l7Member_is mem _ HM.out _).mono ?_
  rintro e w0 ⟨rfl, h0⟩
  rw [h0]
  clear h0 w0
  obtain ⟨_, _, y, e9, hb9, hy, hcy⟩ := R1.at_ (Below.refl _ _) (k := j) (by have := HJ.out; omega)
  cases e9
  obtain rfl : (⟨qr, qm, qe⟩ : Que) = y := Option.some.inj (HQ.out.symm.trans hy)
  clear hy; have p0 := hcy 0 _ rfl; have p1 := hcy 1 _ rfl; have p2 := hcy 2 _ rfl
  simp only [Nat.add_zero] at p0
  have g0 := p0 (Kin.self _); have g1 := p1 (Kin.self _); have g2 := p2 (Kin.self _)
  simp only [Kin.self] at g0
  simp only [Kin.self] at g1
  simp only [Kin.self] at g2
  clear hcy p0 p1 p2; clear g0 g1 g2
  obtain ⟨_, _, y, e9, hb9, hy, hcy⟩ := R1.at_ (Below.refl _ _) (k := j) (by have := HJ.out; omega)
  cases e9
  obtain rfl : (⟨qr, qm, qe⟩ : Que) = y := Option.some.inj (HQ.out.symm.trans hy)
  clear hy; have p0 := hcy 0 _ rfl; have p1 := hcy 1 _ rfl; have p2 := hcy 2 _ rfl
  simp only [Nat.add_zero] at p0
  have g0 := p0 (Kin.self _); have g1 := p1 (Kin.self _); have g2 := p2 (Kin.self _)
  simp only [Kin.self] at g0
  simp only [Kin.self] at g1
  simp only [Kin.self] at g2
  clear hcy p0 p1 p2
  go_wp2_with fail
  refine (l7Lacks_is A0 c0 rs h0 ⟨qr, qm, qe⟩ t HT.out true HK.out _ (R0.below bel)).mono ?_
  rintro e w2 ⟨rfl, hb2⟩
  have hq2 := be w1 hb2; replace HB := bth HB hq2; replace R1 := R1.below hq2; clear g0 g1 g2
  obtain ⟨_, _, y, e9, hb9, hy, hcy⟩ := R1.at_ (Below.refl _ _) (k := j) (by have := HJ.out; omega)
  cases e9
  obtain rfl : (⟨qr, qm, qe⟩ : Que) = y := Option.some.inj (HQ.out.symm.trans hy)
  clear hy; have p0 := hcy 0 _ rfl; have p1 := hcy 1 _ rfl; have p2 := hcy 2 _ rfl
  simp only [Nat.add_zero] at p0
  have g0 := p0 (Kin.self _); have g1 := p1 (Kin.self _); have g2 := p2 (Kin.self _)
  simp only [Kin.self] at g0
  simp only [Kin.self] at g1
  simp only [Kin.self] at g2
  clear hcy p0 p1 p2
  exact zb123
 case false =>
  have HK := lh hk
  rw [sdQ_yes (show lkB rs qs = true by rw [lkB, hp, lstB_last hj hq ht, hk]; rfl) hm ((lstM_last hj hq).trans hs), secd_set hj hq]
  have hls : (qs.set j ⟨qr, qm, true⟩).length = j + 1 := by rw [List.length_set, hj]
  have HLS := lh hls
  rw [hj] at HE ⊢
  clear hk hm hj hq ht hp hq0 h1 hls
  go_in
  go_wp2_with fail
  refine (HE.out _ (R0.below bel) (R1.below bel)).mono ?_
  rintro e w1 ⟨rfl, hb1⟩
  have hq1 := be w hb1; have HB : Below w.heap.size w w1 := hq1; replace R0 := R0.below hq1; replace R1 := R1.below hq1
  go_wp2_with fail
  refine (l7Member_is mem _ HM.out _).mono ?_
  rintro e w0 ⟨rfl, h0⟩
  rw [h0]
  clear h0 w0
  obtain ⟨_, _, y, e9, hb9, hy, hcy⟩ := R1.at_ (Below.refl _ _) (k := j) (by have := HJ.out; omega)
  cases e9
  obtain rfl : (⟨qr, qm, qe⟩ : Que) = y := Option.some.inj (HQ.out.symm.trans hy)
  clear hy; have p0 := hcy 0 _ rfl; have p1 := hcy 1 _ rfl; have p2 := hcy 2 _ rfl
  simp only [Nat.add_zero] at p0
  have g0 := p0 (Kin.self _); have g1 := p1 (Kin.self _); have g2 := p2 (Kin.self _)
  simp only [Kin.self] at g0
  simp only [Kin.self] at g1
  simp only [Kin.self] at g2
  clear hcy p0 p1 p2
  go_wp2_with fail
  refine (l7Lacks_is A0 c0 rs h0 ⟨qr, qm, qe⟩ t HT.out true HK.out _ (R0.below bel)).mono ?_
  rintro e w2 ⟨rfl, hb2⟩
  have hq2 := be w1 hb2; replace HB := bth HB hq2; replace R1 := R1.below hq2; clear g0 g1 g2
  obtain ⟨_, _, y, e9, hb9, hy, hcy⟩ := R1.at_ (Below.refl _ _) (k := j) (by have := HJ.out; omega)
  cases e9
  obtain rfl : (⟨qr, qm, qe⟩ : Que) = y := Option.some.inj (HQ.out.symm.trans hy)
  clear hy; have p0 := hcy 0 _ rfl; have p1 := hcy 1 _ rfl; have p2 := hcy 2 _ rfl
  simp only [Nat.add_zero] at p0
  have g0 := p0 (Kin.self _); have g1 := p1 (Kin.self _); have g2 := p2 (Kin.self _)
  simp only [Kin.self] at g0
  simp only [Kin.self] at g1
  simp only [Kin.self] at g2
  clear hcy p0 p1 p2; have HR1 := lh (fun e u => (R1.below (bl1 w2 (.cells #[] e))) : ∀ (e : TypeId) (u : Unit), Rds 3 Que.cells (w2.alloc (.cells #[] e)) (some ⟨bq, oq, none⟩) qs); have szc := HB.size
  go_upto_region 5 with ((at_builtin; refine wpList_appOn rfl _ _ 25 rfl w2.heap.size 46 i0 _ 3 24 Tryz.underlying25 hi hz0 hz1 hz2 rfl (by decide) Que.cells que_len que_one w2.heap.size rfl (Blk.new _ _ _) (Nat.le_refl _) (some ⟨bq, oq, none⟩) c1 qs (j + 1) HJ.out.symm rfl (HR1.out _ ()) (fun h => by cases h) (by have := HJ.out; unfold maxLen; omega) (by have := HJ.out; omega) ?_; intro g' c' wA hO' hb'))
  have hbA : Below w2.heap.size w2 wA := bth (bl1 _ _) hb'; have OA : OwnV w.heap.size 46 3 Que.cells wA (.slice (some ⟨g', 0, none⟩) qs.length c') qs := hO'.base (by omega)
  rw [HJ.out] at OA
  have hg0 := (OA.lt g' rfl).1; have gl := (OA.lt g' rfl).2; replace HB := bth HB hbA; clear hO' hb' hbA g0 g1 g2 HR1; have k0 := own_cellq OA que_len HQ.out (i := 0) (u := .int .i64 qr) rfl; have k1 := own_cellq OA que_len HQ.out (i := 1) (u := .int .i64 qm) rfl; have k2 := own_cellq OA que_len HQ.out (i := 2) (u := .bool qe) rfl
  simp only [Nat.add_zero] at k0
  go_upto_region 6 with fail
  clear k0 k1 k2
  refine lay1 fun wQ hq3 hQ => ?_
  replace OA := OA.later hq3; replace HB := bth HB hq3; have q' := hQ.cs3; have fhQ2 := hQ.frozen 2
  have neOA : ∀ k, (Value.slice (some ⟨g', 0, none⟩) (j + 1) c').ownBlock = some k → ¬ k = wA.heap.size := fun k hk e => by have h9 : g' = k := Option.some.inj hk; omega
  go_upto_region 7 with fail
  clear q'
  refine st1 2 fun W6 tW6 => ?_
  replace HB := tW6.hc HB; replace hQ : Blk W6 (wA.heap.size) 46 #[.int .i64 qr, .int .i64 qm, .bool true] := tW6.own hQ; replace OA := OA.keptS tW6 neOA; have q' := hQ.cs3; clear neOA fhQ2; have z0 := own_free OA que_len (j := j) (i := 0) (by have := HJ.out; omega) (by decide); have z1 := own_free OA que_len (j := j) (i := 1) (by have := HJ.out; omega) (by decide); have z2 := own_free OA que_len (j := j) (i := 2) (by have := HJ.out; omega) (by decide)
  have k0 := own_cellq OA que_len HQ.out (i := 0) (u := .int .i64 qr) rfl; have k1 := own_cellq OA que_len HQ.out (i := 1) (u := .int .i64 qm) rfl; have k2 := own_cellq OA que_len HQ.out (i := 2) (u := .bool qe) rfl
  simp only [Nat.add_zero] at z0 k0
  have s1 := own_set OA que_len (y := ⟨qr, qm, qe⟩) (u := .int .i64 qr) (i := 0) HQ.out (by decide) rfl
  rw [set_same HQ.out] at s1
  have s2 := own_set s1 que_len (y := ⟨qr, qm, qe⟩) (u := .int .i64 qm) (i := 1) HQ.out (by decide) rfl
  rw [set_same HQ.out] at s2
  have s3 := own_set s2 que_len (y := ⟨qr, qm, true⟩) (u := .bool true) (i := 2) HQ.out (by decide) rfl
  simp only [Nat.add_zero] at s3
  have hBs : Below w.heap.size w (((W6.setCell ⟨g', j * 3, none⟩ (.int .i64 qr)).setCell ⟨g', j * 3 + 1, none⟩ (.int .i64 qm)).setCell ⟨g', j * 3 + 2, none⟩ (.bool true)) := ((HB.setCell (by exact hg0) _).setCell (by exact hg0) _).setCell (by exact hg0) _; have HS3 := lh s3; have HBS := lh hBs; clear s1 s2 s3 hBs
  go_wp2
  go_ret2
  refine ⟨some ⟨g', 0, none⟩, c', by simp only [oL, Option.getD_some, HLS.out]; rfl, ?_, HBS.out⟩
  simp only [oL, Option.getD_some]
  rw [HLS.out]
  exact HS3.out
open Go.RowKit Go.G9
theorem dsQ_none {rs : List Rul} {qs : List Que} (h : dsQ rs qs = none) : pendB rs qs = false ∨ qs.length = 0 ∨ lstB rs qs = true := by
 by_cases h0 : qs.length = 0
 ·exact .inr (.inl h0)
 ·have hq : qs[qs.length - 1]? = some qs[qs.length - 1] := List.getElem?_eq_getElem (by omega)
  unfold dsQ at h
  rw [hq] at h
  dsimp only at h
  split at h
  ·cases h
  ·rename_i hc
   cases hp : pendB rs qs with
   | false => exact .inl rfl
   | true =>
    refine .inr (.inr ?_)
    cases hl : lstB rs qs with
    | true => rfl
    | false => exact absurd (by rw [hp, hl]; rfl) hc
theorem dsQ_some {rs : List Rul} {qs ps : List Que} {q : Que} (h : dsQ rs qs = some (ps, q)) : ∃ j, qs.length = j + 1 ∧ qs[j]? = some q ∧ ps = qs.take j ∧ pendB rs qs = true ∧ lstB rs qs = false := by
 obtain ⟨_, h2, j, h3, h4, h5⟩ := dsQ_pend h
 refine ⟨j, h3, h4, h5, h2, ?_⟩
 unfold dsQ at h
 rw [show qs.length - 1 = j by omega, h4] at h
 dsimp only at h
 split at h
 ·rename_i hc
  simp only [Bool.and_eq_true, Bool.not_eq_true'] at hc
  exact hc.2
 ·cases h
def dpSp (j : Nat) (ap : Nat) (xs : List Que) : MkSpec (Option Addr × Nat) where
 par := fun n => if n = ap then [0] else []
 val := fun n p => if n = ap then .slice p.1 j p.2 else match n with
  | 0 => .slice p.1 0 0
  | _ => undef
 post := fun n σ p V0 V => if n = ap then ∃ g g', (σ 0).1 = some ⟨g, 0, none⟩ ∧ p.1 = some ⟨g', 0, none⟩ ∧ OwnV g 46 3 Que.cells V (.slice p.1 xs.length p.2) xs else match n with
  | 0 => p.1 = some ⟨V0.heap.size, 0, none⟩ ∧ Blk V V0.heap.size 46 #[]
  | _ => True
theorem zb61 {p : Prop} (h : p := by
 rintro e w2 ⟨rfl, hb2⟩
 have hq2 := be wX hb2; replace HB := bth HB hq2; replace hZ := hZ.to hq2; clear z'; have z' := hZ.cs3; have fhZ' := hZ.fz3
 go_wp2
 clear z'
 refine st3 0 fun W9 tW9 => ?_
 replace HB := tW9.hc HB; replace hZ := tW9.all3 hZ; have z' := hZ.cs3
 exact brt ⟨rfl, HB⟩ (by simp [results, Tryz.results195, go_sem, z'])) : p := h
theorem zb150 {p : Prop} (h : p := by
 rcases dsQ_none hn with h | h | h
 ·rw [hp] at h; cases h
 ·exact absurd h hq0
 ·exact h) : p := h
theorem iDispF_is (A0 : Option Addr) (c0 : Nat) (rs : List Rul) (h0 : rs.length ≤ 1048576) (kc : rs.length ≤ c0) (A1 : Option Addr) (c1 : Nat) (qs : List Que) (h1 : qs.length ≤ 1048576) (kq : qs.length ≤ c1) (hn : dsQ rs qs = none) (w : World) (R0 : Rds 7 Rul.cells w A0 rs) (R1 : Rds 3 Que.cells w A1 qs) : Calls Tryz.prog 195 #[.slice A0 rs.length c0, .slice A1 qs.length c1] w fun e w' => e = .returned (.tuple #[.slice none 0 0, .agg #[.int .i64 0, .int .i64 0, .bool false], .bool false]) ∧ Below w.heap.size w w' := by
 have HR0 := lh R0; have HR1 := lh R1; clear R0 R1
 cases hp : pendB rs qs
 ·have HP := lh hp
  clear hp hn
  go_in
  go_upto_region 1 with fail
  refine lay1 fun wX hq1 hZ => ?_
  have HB := hq1; have z' := hZ.cs3
  go_wp2_with fail
  refine (arePending_is A0 c0 rs h0 kc A1 c1 qs h1 _ HP.out _ (HR0.out.below (bth HB bel)) (HR1.out.below (bth HB bel))).mono ?_
  exact zb61
 by_cases hq0 : qs.length = 0
 ·obtain rfl := List.length_eq_zero_iff.1 hq0
  have HP := lh hp; clear hp hn hq0
  go_in
  go_upto_region 1 with fail
  refine lay1 fun wX hq1 hZ => ?_
  have HB := hq1; have z' := hZ.cs3
  go_wp2_with fail
  refine (arePending_is A0 c0 rs h0 kc A1 c1 [] h1 _ HP.out _ (HR0.out.below (bth HB bel)) (HR1.out.below (bth HB bel))).mono ?_
  exact zb61
 have hl : lstB rs qs = true := by
  exact zb150
 obtain ⟨j, ⟨qr, qm, qe⟩, hj, hq⟩ := lstB_some hl
 obtain ⟨bq, oq, _, rfl, _, _, _⟩ := HR1.out.at_ (Below.refl _ _) (k := j) (by omega)
 have HKB : Hid (lkB rs qs = true) := lh (by rw [lkB, hp, hl]; rfl); have hne : ((j : Int) + 1 == 0) = false := beq_eq_false_iff_ne.2 (by omega); have HE := lh (fun W h h' => arePending_is A0 c0 rs h0 kc (some ⟨bq, oq, none⟩) c1 qs h1 _ hp W h h'); have HF := lh (fun W h h' => lacks_is A0 c0 rs h0 kc (some ⟨bq, oq, none⟩) c1 qs h1 _ HKB.out W h h')
 rw [hj] at HE HF ⊢
 clear hp hn hl hq hj hq0 h1 kq
 go_in
 go_upto_region 1 with fail
 refine lay1 fun wX hq1 hZ => ?_
 have HB := hq1; have z' := hZ.cs3
 go_wp2_with fail
 refine (HE.out _ (HR0.out.below (bth HB bel)) (HR1.out.below (bth HB bel))).mono ?_
 rintro e w2 ⟨rfl, hb2⟩
 have hq2 := be wX hb2; replace HB := bth HB hq2; replace hZ := hZ.to hq2; clear z'; have z' := hZ.cs3
 go_wp2_with fail
 refine (HF.out _ (HR0.out.below (bth HB bel)) (HR1.out.below (bth HB bel))).mono ?_
 rintro e w3 ⟨rfl, hb3⟩
 have hq3 := be w2 hb3; replace HB := bth HB hq3; replace hZ := hZ.to hq3; clear z'; have z' := hZ.cs3; have fhZ' := hZ.fz3
 go_wp2
 clear z'
 refine st3 0 fun W9 tW9 => ?_
 replace HB := tW9.hc HB; replace hZ := tW9.all3 hZ; have z' := hZ.cs3
 exact brt ⟨rfl, HB⟩ (by simp [results, Tryz.results195, go_sem, z'])
theorem zb80 {p : Prop} (h : p := by
 change wpList _ _ _ (_ :: []) _ _
 go_wp2
 first | exact Nrm_mk ⟨(some ⟨k.world.heap.size, 0, none⟩, 0), rfl, bl1 _ _, rfl, Blk.new _ _ _⟩ | exact Nrm_mk ⟨some ⟨k.world.heap.size, 0, none⟩, 0, rfl, bl1 _ _, rfl, Blk.new _ _ _⟩) : p := h
theorem zb20 {p : Prop} (h : p := by
 change wpList _ _ _ (_ :: []) _ _
 obtain ⟨U0, U, hU1, ⟨hU2, hU4⟩, hU5⟩ := hpar 0 (by simp [dpSp])
 have hU6 := hU4.to hU5; have hU7 : (σ 0).1 = some ⟨U0.heap.size, 0, none⟩ := hU2; have HUR := lh (HRT.out.below ((HCC4.out _).1 k.holds)); have HU6 := lh hU6; clear hU6 hU4 hU2 hU1 hU5 hpar
 rw [hU7]
 have HU7 := lh hU7; clear hU7
 go_wp2_with ((at_builtin; refine wpList_appOn rfl _ _ 25 rfl U0.heap.size 46 i0 _ 3 24 Tryz.underlying25 hi hz0 hz1 hz2 rfl (by decide) Que.cells que_len que_one U0.heap.size rfl HU6.out (Nat.le_refl _) (some ⟨bq, oq, none⟩) c1 (qs.take j) j HLT.out.symm rfl HUR.out (fun h => by cases h) (by have := HLT.out; unfold maxLen; omega) (by have := HLT.out; omega) ?_; intro g' c' w' hO' hb'))
 first | exact Nrm_mk ⟨(some ⟨g', 0, none⟩, c'), rfl, hb', U0.heap.size, g', HU7.out, rfl, hO'⟩ | exact Nrm_mk ⟨some ⟨g', 0, none⟩, c', rfl, hb', U0.heap.size, g', HU7.out, rfl, hO'⟩) : p := h
theorem iDispT_is (A0 : Option Addr) (c0 : Nat) (rs : List Rul) (h0 : rs.length ≤ 1048576) (kc : rs.length ≤ c0) (A1 : Option Addr) (c1 : Nat) (qs : List Que) (h1 : qs.length ≤ 1048576) (kq : qs.length ≤ c1) (j : Nat) (hj : qs.length = j + 1) (qr qm : Int) (qe : Bool) (hq : qs[j]? = some ⟨qr, qm, qe⟩) (hp : pendB rs qs = true) (hl : lstB rs qs = false) (w : World) (R0 : Rds 7 Rul.cells w A0 rs) (R1 : Rds 3 Que.cells w A1 qs) : Calls Tryz.prog 195 #[.slice A0 rs.length c0, .slice A1 qs.length c1] w fun e w' =>
  ∃ g c, e = .returned (.tuple #[.slice (some ⟨g, 0, none⟩) (qs.take j).length c, .agg #[.int .i64 qr, .int .i64 qm, .bool qe], .bool true]) ∧ OwnV w.heap.size 46 3 Que.cells w' (.slice (some ⟨g, 0, none⟩) (qs.take j).length c) (qs.take j) ∧ Below w.heap.size w w' := by
 obtain ⟨i0, hi, hz0, hz1, hz2⟩ := info_parts info_Que
 have HR0 := lh R0; have HR1 := lh R1; clear R0 R1
 obtain ⟨t, ht⟩ := pendB_found hp hq
 obtain ⟨bq, oq, _, rfl, _, _, _⟩ := HR1.out.at_ (Below.refl _ _) (k := j) (by omega)
 have hk : lackB t ⟨qr, qm, qe⟩ = false := (lstB_last hj hq ht).symm.trans hl; have HJ := lh hj; have HQ := lh hq; have HKB : Hid (lkB rs qs = false) := lh (by rw [lkB, hp, hl]; rfl)
 have hjl : j ≤ 1048576 := by omega
 have hjc : j ≤ c1 := by omega
 have hne : ((j : Int) + 1 == 0) = false := beq_eq_false_iff_ne.2 (by omega)
 have hlt : (qs.take j).length = j := by rw [List.length_take]; omega
 have HLT := lh hlt; have HRT := lh (rds_takeq HR1.out j)
 rw [hlt]
 have HE := lh (fun W h h' => arePending_is A0 c0 rs h0 kc (some ⟨bq, oq, none⟩) c1 qs h1 _ hp W h h'); have HF := lh (fun W h h' => lacks_is A0 c0 rs h0 kc (some ⟨bq, oq, none⟩) c1 qs h1 _ HKB.out W h h')
 rw [hj] at HE HF ⊢
 clear hp hl hk ht hq hj h1 kq hlt
 go_in
 go_upto_region 1 with fail
 refine lay1 fun wX hq1 hZ => ?_
 have HB := hq1; have z' := hZ.cs3
 go_wp2_with fail
 refine (HE.out _ (HR0.out.below (bth HB bel)) (HR1.out.below (bth HB bel))).mono ?_
 rintro e w2 ⟨rfl, hb2⟩
 have hq2 := be wX hb2; replace HB := bth HB hq2; replace hZ := hZ.to hq2; clear z'; have z' := hZ.cs3
 go_wp2_with fail
 refine (HF.out _ (HR0.out.below (bth HB bel)) (HR1.out.below (bth HB bel))).mono ?_
 rintro e w3 ⟨rfl, hb3⟩
 have hq3 := be w2 hb3; replace HB := bth HB hq3; replace hZ := hZ.to hq3; clear z'; have z' := hZ.cs3
 go_upto_region 4 with fail
 have szc := HB.size; have hzc := hZ.lt
 obtain ⟨CC4, hCC4⟩ : ∃ X : World → Prop, ∀ V, X V ↔ (Below w.heap.size w V) := ⟨_, fun _ => Iff.rfl⟩
 have HCC4 := lh hCC4; clear hCC4
 haveI : Nonempty (Hld CC4) := ⟨⟨w3, ((HCC4.out _).2 (HB))⟩⟩
 clear z'
 obtain ⟨_, _, y, e9, hb9, hy, hcy⟩ := HR1.out.at_ (Below.refl _ _) (k := j) (by have := HJ.out; omega)
 cases e9
 obtain rfl : (⟨qr, qm, qe⟩ : Que) = y := Option.some.inj (HQ.out.symm.trans hy)
 clear hy; have hcz := hcy; have p0 := hcz 0 _ rfl; have p1 := hcz 1 _ rfl; have p2 := hcz 2 _ rfl
 simp only [Nat.add_zero] at p0
 have g0 := fun K : Hld CC4 => p0 ⟨K.world, ((HCC4.out _).1 K.holds)⟩
 have g1 := fun K : Hld CC4 => p1 ⟨K.world, ((HCC4.out _).1 K.holds)⟩
 have g2 := fun K : Hld CC4 => p2 ⟨K.world, ((HCC4.out _).1 K.holds)⟩
 clear hcy hcz p0 p1 p2
 refine wp_region_mk (dpSp j 4 (qs.take j)) CC4 [([], 0), ([1, 2, 3], 4)] [5, 6, 7, 8] [([9], 10)] [11] (by kernel_rfl) (by kernel_rfl) ((HCC4.out _).2 (HB.drew)) (fun W W' h k => ((HCC4.out _).2 (((HCC4.out _).1 h).trans (k.mono ((HCC4.out _).1 h).size)))) ?_
 intro σ
 refine wpMk1_cons (some 26) rfl (.slice (σ 0).1 0 0) rfl fun K1 hK1 => ?_
 change wpQuiet _ _ _ _ ([]) _
 refine wpQuiet_nil ?_
 refine ⟨fun k hpar => ?_, hK1 _ ?_⟩
 ·exact zb80
 simp only [Act.put]
 go_simp
 refine wpMk1_cons (some 30) rfl (.slice (σ 4).1 j (σ 4).2) rfl fun K1 hK1 => ?_
 change wpQuiet _ _ _ _ (_ :: _ :: _ :: []) _
 repeat (go_big_quiet_step (fail))
 refine wpQuiet_nil ?_
 refine ⟨fun k hpar => ?_, hK1 _ ?_⟩
 ·exact zb20
 simp only [Act.put]
 go_simp
 refine wpMk1_last ?_
 change wpQuiet _ _ _ _ (_ :: _ :: _ :: _ :: []) _
 repeat (go_big_quiet_step (fail))
 refine wpQuiet_nil ?_
 intro V0 V W hM hW
 clear g0 g1 g2
 obtain ⟨g, g', e0, e4, q4⟩ : ∃ g g', (σ 0).1 = some ⟨g, 0, none⟩ ∧ (σ 4).1 = some ⟨g', 0, none⟩ ∧ OwnV g 46 3 Que.cells (V 4) (.slice (σ 4).1 (qs.take j).length (σ 4).2) (qs.take j) := hM.post 4 (by simp)
 obtain ⟨a0, _⟩ : (σ 0).1 = some ⟨(V0 0).heap.size, 0, none⟩ ∧ Blk (V 0) (V0 0).heap.size 46 #[] := hM.post 0 (by simp)
 have s0 : (V0 0).heap.size = g := by rw [a0] at e0; exact congrArg Addr.block (Option.some.inj e0)
 have O1 := (q4.later (hM.later 4 (by simp))).base (B' := w3.heap.size) (by rw [← s0]; exact (hM.from0 0 (by simp)).size); have hq5 : Below w3.heap.size w3 W := bth bel (hM.whole 4 (by simp)).undrew; replace HB := bth HB hq5; replace hZ := hZ.to hq5; have z' := hZ.cs3; clear hM q4 a0 e0 s0 hW
 generalize σ 4 = p4 at *
 obtain ⟨D, d⟩ := p4
 simp only at O1 e4
 subst e4
 rw [HLT.out] at O1
 refine wpMix_cons fun K2 hK2 => ?_
 change wpQuiet _ _ _ _ (_ :: []) _
 repeat (go_big_quiet_step (fail))
 refine wpQuiet_nil ?_
 change wpList _ _ _ (_ :: []) _ _
 have fhZ' := hZ.fz3
 have neO1 : ∀ k, (Value.slice (some ⟨g', 0, none⟩) j d).ownBlock = some k → ¬ k = w.heap.size := fun k hk e => by have := (O1.lt k hk).1; omega
 go_wp2
 clear z'
 refine st3 0 fun W9 tW9 => ?_
 replace HB := tW9.hc HB; replace hZ := tW9.all3 hZ; replace O1 := O1.keptS tW9 neO1; have z' := hZ.cs3
 refine Nrm_intro ((HCC4.out _).2 HB) (hK2 _ _ ?_)
 refine wpMix_last ?_
 change wpQuiet _ _ _ _ (_ :: []) _
 repeat (go_big_quiet_step (fail))
 refine wpQuiet_nil ?_
 go_wp2
 refine bodyPost_ret (v := .tuple #[.slice (some ⟨g', 0, none⟩) j d, .agg #[.int .i64 qr, .int .i64 qm, .bool qe], .bool true]) (by simp [results, Tryz.results195, go_sem, z']) rfl ?_
 exact ⟨g', d, rfl, O1.base (by omega), HB⟩
theorem zb14 {p : Prop} (h : p := by
 rintro e w2 ⟨rfl, hb2⟩
 have hq2 := be wX hb2; replace HB := bth HB hq2; replace hZ := hZ.to hq2; clear z0 z1 z2
 obtain ⟨z0, z1, z2⟩ := hZ.cs3
 have fhZ' := hZ.fz3; have yhZ := hZ.lt; have HHB := lh HB; have HZ9 := lh hZ; have fq0 := (hZ.alloc (.cells #[] 46)).frozen 0
 go_wp2
 have hZ5 := (((HZ9.out.set_ 0 (.int .i64 0)).set_ 1 (.int .i64 0)).set_ 2 (.bool false)).alloc (.cells #[] 46); have z0' := (hZ5.cell 0).trans (show _ = some (.int .i64 0) from rfl); have z1' := (hZ5.cell 1).trans (show _ = some (.int .i64 0) from rfl); have z2' := (hZ5.cell 2).trans (show _ = some (.bool false) from rfl); have hB5 : Below w.heap.size w (((w2.setCell ⟨w.heap.size, 0, none⟩ (.int .i64 0)).setCell ⟨w.heap.size, 1, none⟩ (.int .i64 0)).setCell ⟨w.heap.size, 2, none⟩ (.bool false)) := ((HHB.out.setCell (Nat.le_refl w.heap.size) _).setCell (Nat.le_refl w.heap.size) _).setCell (Nat.le_refl w.heap.size) _
 refine bodyPost_ret (v := .tuple #[.slice (some ⟨w2.heap.size, 0, none⟩) 0 0, .agg #[.int .i64 0, .int .i64 0, .bool false], .bool false]) (by simp [results, Tryz.results177, go_sem, z0', z1', z2']) rfl ?_
 exact ⟨_, _, rfl, hB5.alloc hB5.size _⟩) : p := h
theorem sDispF_is (A0 : Option Addr) (c0 : Nat) (rs : List Rul) (h0 : rs.length ≤ 1048576) (kc : rs.length ≤ c0) (A1 : Option Addr) (c1 : Nat) (qs : List Que) (h1 : qs.length ≤ 1048576) (kq : qs.length ≤ c1) (hn : dsQ rs qs = none) (w : World) (R0 : Rds 7 Rul.cells w A0 rs) (R1 : Rds 3 Que.cells w A1 qs) : Calls Tryz.prog 177 #[.slice A0 rs.length c0, .slice A1 qs.length c1] w fun e w' => ∃ A c, e = .returned (.tuple #[.slice A 0 c, .agg #[.int .i64 0, .int .i64 0, .bool false], .bool false]) ∧ Below w.heap.size w w' := by
 have HR0 := lh R0; have HR1 := lh R1; clear R0 R1
 cases hp : pendB rs qs
 ·have HP := lh hp
  clear hp hn
  go_in
  go_upto_region 1 with fail
  refine lay1 fun wX hq1 hZ => ?_
  have HB := hq1
  obtain ⟨z0, z1, z2⟩ := hZ.cs3
  go_wp2_with fail
  refine (l7Good_is A0 c0 rs h0 A1 c1 qs h1 _ HP.out _ (HR0.out.below (bth HB bel)) (HR1.out.below (bth HB bel))).mono ?_
  exact zb14
 by_cases hq0 : qs.length = 0
 ·obtain rfl := List.length_eq_zero_iff.1 hq0
  have HP := lh hp; clear hp hn hq0
  go_in
  go_upto_region 1 with fail
  refine lay1 fun wX hq1 hZ => ?_
  have HB := hq1
  obtain ⟨z0, z1, z2⟩ := hZ.cs3
  go_wp2_with fail
  refine (l7Good_is A0 c0 rs h0 A1 c1 [] h1 _ HP.out _ (HR0.out.below (bth HB bel)) (HR1.out.below (bth HB bel))).mono ?_
  exact zb14
 have hl : lstB rs qs = true := by
  exact zb150
 obtain ⟨j, ⟨qr, qm, qe⟩, hj, hq⟩ := lstB_some hl
 obtain ⟨t, ht⟩ := pendB_found hp hq
 obtain ⟨bq, oq, _, rfl, _, _, _⟩ := HR1.out.at_ (Below.refl _ _) (k := j) (by omega)
 have hk : lackB t ⟨qr, qm, qe⟩ = true := (lstB_last hj hq ht).symm.trans hl; have HJ := lh hj; have HQ := lh hq; have HT := lh ht; have HK := lh hk
 have hjl : j ≤ 1048576 := by omega
 have hne : ((j : Int) + 1 == 0) = false := beq_eq_false_iff_ne.2 (by omega); have HE := lh (fun W h h' => l7Good_is A0 c0 rs h0 (some ⟨bq, oq, none⟩) c1 qs h1 _ hp W h h')
 rw [hj] at HE ⊢
 clear hp hn hl hk ht hq hj hq0 h1 kq
 go_in
 go_upto_region 1 with fail
 refine lay1 fun wX hq1 hZ => ?_
 have HB := hq1
 obtain ⟨z0, z1, z2⟩ := hZ.cs3
 go_wp2_with fail
 refine (HE.out _ (HR0.out.below (bth HB bel)) (HR1.out.below (bth HB bel))).mono ?_
 rintro e w2 ⟨rfl, hb2⟩
 have hq2 := be wX hb2; replace HB := bth HB hq2; replace hZ := hZ.to hq2; clear z0 z1 z2
 obtain ⟨z0, z1, z2⟩ := hZ.cs3
 obtain ⟨_, _, y, e9, hb9, hy, hcy⟩ := HR1.out.at_ HB (k := j) (by have := HJ.out; omega)
 cases e9
 obtain rfl : (⟨qr, qm, qe⟩ : Que) = y := Option.some.inj (HQ.out.symm.trans hy)
 clear hy; have p0 := hcy 0 _ rfl; have p1 := hcy 1 _ rfl; have p2 := hcy 2 _ rfl
 simp only [Nat.add_zero] at p0
 have g0 := p0 (Kin.self _); have g1 := p1 (Kin.self _); have g2 := p2 (Kin.self _)
 simp only [Kin.self] at g0
 simp only [Kin.self] at g1
 simp only [Kin.self] at g2
 clear hcy p0 p1 p2
 go_wp2_with fail
 refine (l7Lacks_is A0 c0 rs h0 ⟨qr, qm, qe⟩ t HT.out true HK.out _ (HR0.out.below (bth HB bel))).mono ?_
 rintro e w3 ⟨rfl, hb3⟩
 have hq3 := be w2 hb3; replace HB := bth HB hq3; replace hZ := hZ.to hq3; clear z0 z1 z2
 obtain ⟨z0, z1, z2⟩ := hZ.cs3
 clear g0 g1 g2; have fhZ' := hZ.fz3; have yhZ := hZ.lt; have HHB := lh HB; have HZ9 := lh hZ; have fq0 := (hZ.alloc (.cells #[] 46)).frozen 0
 go_wp2
 have hZ5 := (((HZ9.out.set_ 0 (.int .i64 0)).set_ 1 (.int .i64 0)).set_ 2 (.bool false)).alloc (.cells #[] 46); have z0' := (hZ5.cell 0).trans (show _ = some (.int .i64 0) from rfl); have z1' := (hZ5.cell 1).trans (show _ = some (.int .i64 0) from rfl); have z2' := (hZ5.cell 2).trans (show _ = some (.bool false) from rfl); have hB5 : Below w.heap.size w (((w3.setCell ⟨w.heap.size, 0, none⟩ (.int .i64 0)).setCell ⟨w.heap.size, 1, none⟩ (.int .i64 0)).setCell ⟨w.heap.size, 2, none⟩ (.bool false)) := ((HHB.out.setCell (Nat.le_refl w.heap.size) _).setCell (Nat.le_refl w.heap.size) _).setCell (Nat.le_refl w.heap.size) _
 refine bodyPost_ret (v := .tuple #[.slice (some ⟨w3.heap.size, 0, none⟩) 0 0, .agg #[.int .i64 0, .int .i64 0, .bool false], .bool false]) (by simp [results, Tryz.results177, go_sem, z0', z1', z2']) rfl ?_
 exact ⟨_, _, rfl, hB5.alloc hB5.size _⟩
theorem sDispT_is (A0 : Option Addr) (c0 : Nat) (rs : List Rul) (h0 : rs.length ≤ 1048576) (kc : rs.length ≤ c0) (A1 : Option Addr) (c1 : Nat) (qs : List Que) (h1 : qs.length ≤ 1048576) (kq : qs.length ≤ c1) (j : Nat) (hj : qs.length = j + 1) (qr qm : Int) (qe : Bool) (hq : qs[j]? = some ⟨qr, qm, qe⟩) (hp : pendB rs qs = true) (hl : lstB rs qs = false) (w : World) (R0 : Rds 7 Rul.cells w A0 rs) (R1 : Rds 3 Que.cells w A1 qs) : Calls Tryz.prog 177 #[.slice A0 rs.length c0, .slice A1 qs.length c1] w fun e w' =>
  ∃ g c, e = .returned (.tuple #[.slice (some ⟨g, 0, none⟩) (qs.take j).length c, .agg #[.int .i64 qr, .int .i64 qm, .bool qe], .bool true]) ∧ OwnV w.heap.size 46 3 Que.cells w' (.slice (some ⟨g, 0, none⟩) (qs.take j).length c) (qs.take j) ∧ Below w.heap.size w w' := by
 obtain ⟨i0, hi, hz0, hz1, hz2⟩ := info_parts info_Que
 have HR0 := lh R0; have HR1 := lh R1; clear R0 R1
 obtain ⟨t, ht⟩ := pendB_found hp hq
 obtain ⟨bq, oq, _, rfl, _, _, _⟩ := HR1.out.at_ (Below.refl _ _) (k := j) (by omega)
 have hk : lackB t ⟨qr, qm, qe⟩ = false := (lstB_last hj hq ht).symm.trans hl; have HJ := lh hj; have HQ := lh hq; have HT := lh ht; have HK := lh hk
 have hjl : j ≤ 1048576 := by omega
 have hjc : j ≤ c1 := by omega
 have hne : ((j : Int) + 1 == 0) = false := beq_eq_false_iff_ne.2 (by omega)
 have hlt : (qs.take j).length = j := by rw [List.length_take]; omega
 have HLT := lh hlt; have HRT := lh (rds_takeq HR1.out j)
 rw [hlt]
 have HE := lh (fun W h h' => l7Good_is A0 c0 rs h0 (some ⟨bq, oq, none⟩) c1 qs h1 _ hp W h h')
 rw [hj] at HE ⊢
 clear hp hl hk ht hq hj h1 kq hlt
 go_in
 go_upto_region 1 with fail
 refine lay1 fun wX hq1 hZ => ?_
 have HB := hq1; have z' := hZ.cs3
 go_wp2_with fail
 refine (HE.out _ (HR0.out.below (bth HB bel)) (HR1.out.below (bth HB bel))).mono ?_
 rintro e w2 ⟨rfl, hb2⟩
 have hq2 := be wX hb2; replace HB := bth HB hq2; replace hZ := hZ.to hq2; clear z'; have z' := hZ.cs3
 obtain ⟨_, _, y, e9, hb9, hy, hcy⟩ := HR1.out.at_ HB (k := j) (by have := HJ.out; omega)
 cases e9
 obtain rfl : (⟨qr, qm, qe⟩ : Que) = y := Option.some.inj (HQ.out.symm.trans hy)
 clear hy; have p0 := hcy 0 _ rfl; have p1 := hcy 1 _ rfl; have p2 := hcy 2 _ rfl
 simp only [Nat.add_zero] at p0
 have g0 := p0 (Kin.self _); have g1 := p1 (Kin.self _); have g2 := p2 (Kin.self _)
 simp only [Kin.self] at g0
 simp only [Kin.self] at g1
 simp only [Kin.self] at g2
 clear hcy p0 p1 p2
 go_wp2_with fail
 refine (l7Lacks_is A0 c0 rs h0 ⟨qr, qm, qe⟩ t HT.out false HK.out _ (HR0.out.below (bth HB bel))).mono ?_
 rintro e w3 ⟨rfl, hb3⟩
 have hq3 := be w2 hb3; replace HB := bth HB hq3; replace hZ := hZ.to hq3; clear z'; have z' := hZ.cs3; clear g0 g1 g2
 go_upto_region 4 with fail
 have szc := HB.size; have hzc := hZ.lt
 obtain ⟨CC4, hCC4⟩ : ∃ X : World → Prop, ∀ V, X V ↔ (Below w.heap.size w V) := ⟨_, fun _ => Iff.rfl⟩
 have HCC4 := lh hCC4; clear hCC4
 haveI : Nonempty (Hld CC4) := ⟨⟨w3, ((HCC4.out _).2 (HB))⟩⟩
 clear z'
 obtain ⟨_, _, y, e9, hb9, hy, hcy⟩ := HR1.out.at_ (Below.refl _ _) (k := j) (by have := HJ.out; omega)
 cases e9
 obtain rfl : (⟨qr, qm, qe⟩ : Que) = y := Option.some.inj (HQ.out.symm.trans hy)
 clear hy; have hcz := hcy; have p0 := hcz 0 _ rfl; have p1 := hcz 1 _ rfl; have p2 := hcz 2 _ rfl
 simp only [Nat.add_zero] at p0
 have g0 := fun K : Hld CC4 => p0 ⟨K.world, ((HCC4.out _).1 K.holds)⟩
 have g1 := fun K : Hld CC4 => p1 ⟨K.world, ((HCC4.out _).1 K.holds)⟩
 have g2 := fun K : Hld CC4 => p2 ⟨K.world, ((HCC4.out _).1 K.holds)⟩
 clear hcy hcz p0 p1 p2
 refine wp_region_mk (dpSp j 5 (qs.take j)) CC4 [([], 0), ([1, 2, 3, 4], 5)] [6, 7, 8, 9, 10] [([11], 12)] [13] (by kernel_rfl) (by kernel_rfl) ((HCC4.out _).2 (HB.drew)) (fun W W' h k => ((HCC4.out _).2 (((HCC4.out _).1 h).trans (k.mono ((HCC4.out _).1 h).size)))) ?_
 intro σ
 refine wpMk1_cons (some 29) rfl (.slice (σ 0).1 0 0) rfl fun K1 hK1 => ?_
 change wpQuiet _ _ _ _ ([]) _
 refine wpQuiet_nil ?_
 refine ⟨fun k hpar => ?_, hK1 _ ?_⟩
 ·exact zb80
 simp only [Act.put]
 go_simp
 refine wpMk1_cons (some 34) rfl (.slice (σ 5).1 j (σ 5).2) rfl fun K1 hK1 => ?_
 change wpQuiet _ _ _ _ (_ :: _ :: _ :: _ :: []) _
 repeat (go_big_quiet_step (fail))
 refine wpQuiet_nil ?_
 refine ⟨fun k hpar => ?_, hK1 _ ?_⟩
 ·exact zb20
 simp only [Act.put]
 go_simp
 refine wpMk1_last ?_
 change wpQuiet _ _ _ _ (_ :: _ :: _ :: _ :: _ :: []) _
 repeat (go_big_quiet_step (fail))
 refine wpQuiet_nil ?_
 intro V0 V W hM hW
 clear g0 g1 g2
 obtain ⟨g, g', e0, e4, q4⟩ : ∃ g g', (σ 0).1 = some ⟨g, 0, none⟩ ∧ (σ 5).1 = some ⟨g', 0, none⟩ ∧ OwnV g 46 3 Que.cells (V 5) (.slice (σ 5).1 (qs.take j).length (σ 5).2) (qs.take j) := hM.post 5 (by simp)
 obtain ⟨a0, _⟩ : (σ 0).1 = some ⟨(V0 0).heap.size, 0, none⟩ ∧ Blk (V 0) (V0 0).heap.size 46 #[] := hM.post 0 (by simp)
 have s0 : (V0 0).heap.size = g := by rw [a0] at e0; exact congrArg Addr.block (Option.some.inj e0)
 have O1 := (q4.later (hM.later 5 (by simp))).base (B' := w3.heap.size) (by rw [← s0]; exact (hM.from0 0 (by simp)).size); have hq5 : Below w3.heap.size w3 W := bth bel (hM.whole 5 (by simp)).undrew; replace HB := bth HB hq5; replace hZ := hZ.to hq5; have z' := hZ.cs3; clear hM q4 a0 e0 s0 hW
 generalize σ 5 = p4 at *
 obtain ⟨D, d⟩ := p4
 simp only at O1 e4
 subst e4
 rw [HLT.out] at O1
 refine wpMix_cons fun K2 hK2 => ?_
 change wpQuiet _ _ _ _ (_ :: []) _
 repeat (go_big_quiet_step (fail))
 refine wpQuiet_nil ?_
 change wpList _ _ _ (_ :: []) _ _
 have fhZ' := hZ.fz3
 have neO1 : ∀ k, (Value.slice (some ⟨g', 0, none⟩) j d).ownBlock = some k → ¬ k = w.heap.size := fun k hk e => by have := (O1.lt k hk).1; omega
 go_wp2
 clear z'
 refine st3 0 fun W9 tW9 => ?_
 replace HB := tW9.hc HB; replace hZ := tW9.all3 hZ; replace O1 := O1.keptS tW9 neO1; have z' := hZ.cs3
 refine Nrm_intro ((HCC4.out _).2 HB) (hK2 _ _ ?_)
 refine wpMix_last ?_
 change wpQuiet _ _ _ _ (_ :: []) _
 repeat (go_big_quiet_step (fail))
 refine wpQuiet_nil ?_
 go_wp2
 refine bodyPost_ret (v := .tuple #[.slice (some ⟨g', 0, none⟩) j d, .agg #[.int .i64 qr, .int .i64 qm, .bool qe], .bool true]) (by simp [results, Tryz.results177, go_sem, z']) rfl ?_
 exact ⟨g', d, rfl, O1.base (by omega), HB⟩
open Go.RowKit Go.G9
theorem l11AdoZ_is (nd y n a : Int) (h : 0 ≤ y ∧ y ≤ 1000 ∧ 0 ≤ n ∧ n ≤ 1000) (v : Bool) (hv : adoB nd y n = v) (w : World) :
 Calls Tryz.prog 179 #[.int .i64 nd, .agg #[.int .i64 y, .int .i64 n, .int .i64 a]] w fun e w' => e = .returned (.bool v) ∧ Below w.heap.size w w' := by
 go_in
 go_wp2_with (go_at_call 202; refine (l11Enough_is _ _ _ (by omega) (by omega) (by omega) (by omega) _ hv _).mono ?_; rintro e w' ⟨rfl, rfl⟩)
 go_ret
 exact ⟨rfl, bl1 _ _⟩
theorem tallyB_bd {y n a : Int} (h : tallyB y n a = true) : (0 ≤ y ∧ y ≤ 1000) ∧ (0 ≤ n ∧ n ≤ 1000) := by
 simp only [tallyB, Bool.and_eq_true, inB_iff] at h
 exact ⟨h.1, h.2.1⟩
theorem meoOf {B : Nat} {w : World} {D0 D1 D4 : Option Addr} {d0 d1 d4 : Nat} {rs : List Rul} {qs : List Que} {os : List Out} (h0 : OwnV B 48 7 Rul.cells w (.slice D0 rs.length d0) rs) (h1 : OwnV B 46 3 Que.cells w (.slice D1 qs.length d1) qs) (h4 : OwnV B 44 3 Out.cells w (.slice D4 os.length d4) os) :
 MeO B w D0 d0 D1 d1 none 0 none 0 D4 d4 rs qs [] [] os := ⟨h0, h1, OwnV.nil, OwnV.nil, h4⟩
theorem zb87 {p : Prop} (h : p := by
 have z' := hZ.cs8; have fhZ' := hZ.fz8
 go_wp2
 clear z'
 refine st8 0 fun W9 tW9 => ?_
 replace HB := tW9.hc HB; replace hZ := tW9.all8 hZ; have z' := hZ.cs8
 exact brt ⟨rfl, HB⟩ (by simp [results, Tryz.results163, go_sem, z'])) : p := h
theorem iVoteF_is (A0 A1 A2 A3 A4 : Option Addr) (c0 c1 c2 c3 c4 : Nat) (rs : List Rul) (qs : List Que) (tu se sp : Int) (ws : List Int) (sh : List Sha) (os : List Out) (Z : MeeIn A0 A1 A2 A3 A4 c0 c1 c2 c3 c4 rs qs ws sh os) (mem val yes no abst : Int) (hv : votA ⟨rs, qs, tu, se, sp, ws, sh, os⟩ ⟨7, mem, val, yes, no, abst⟩ = none) (w : World) (R : MeR w A0 A1 A2 A3 A4 rs qs ws sh os) :
 Calls Tryz.prog 163 #[.agg #[.slice A0 rs.length c0, .slice A1 qs.length c1, .int .i64 tu, .int .i64 se, .int .i64 sp, .slice A2 ws.length c2, .slice A3 sh.length c3, .slice A4 os.length c4], .agg #[.int .i64 yes, .int .i64 no, .int .i64 abst]] w fun e w' => e = .returned (.tuple #[.agg #[.slice none 0 0, .slice none 0 0, .int .i64 0, .int .i64 0, .int .i64 0, .slice none 0 0, .slice none 0 0, .slice none 0 0], .bool false]) ∧ Below w.heap.size w w' := by
 have HR := lh R; have HZ := lh Z; clear R Z
 cases hd : dsQ rs qs with
 | none =>
  have HD := lh hd; clear hd hv
  go_in
  go_upto_region 1 with fail
  refine lay3 fun wX hq1 hF hT hZ => ?_
  have HB := hq1; have f' := hF.cs8; have z' := hZ.cs8
  go_wp2_with fail
  refine (iDispF_is A0 c0 rs HZ.out.h0 HZ.out.k0 A1 c1 qs HZ.out.h1 HZ.out.k1 HD.out _ (HR.out.r0.below (bth HB bel)) (HR.out.r1.below (bth HB bel))).mono ?_
  rintro e w2 ⟨rfl, hb2⟩
  have hq2 := be wX hb2; replace HB := bth HB hq2; clear f'; replace hZ := hZ.to hq2; clear z'; have z' := hZ.cs8
  go_upto_region 2 with fail
  refine lay1 fun wQ hq3 hQ => ?_
  replace HB := bth HB hq3; clear z'; replace hZ := hZ.to hq3
  exact zb87
 | some pq =>
  obtain ⟨ps, ⟨qr, qm, qe⟩⟩ := pq
  obtain ⟨j, hj, hq, hps, hp, hl⟩ := dsQ_some hd
  subst hps
  have HJ := lh hj; have HQ := lh hq; have HP := lh hp; have HL := lh hl
  cases ht : tallyB yes no abst
  case false =>
   have HT := lh ht; clear hd hv hj hq hp hl ht
   go_in
   go_upto_region 1 with fail
   refine lay3 fun wX hq1 hF hT hZ => ?_
   have HB := hq1; have f' := hF.cs8; have t' := hT.cs3; have z' := hZ.cs8
   go_wp2_with fail
   refine (iDispT_is A0 c0 rs HZ.out.h0 HZ.out.k0 A1 c1 qs HZ.out.h1 HZ.out.k1 j HJ.out qr qm qe HQ.out HP.out HL.out _ (HR.out.r0.below (bth HB bel)) (HR.out.r1.below (bth HB bel))).mono ?_
   rintro e w2 ⟨g1, d1, rfl, O1, hb2⟩
   have hq2 := be wX hb2; replace HB := bth HB hq2; clear f'; replace hT := hT.to hq2; clear t'; have t' := hT.cs3; replace hZ := hZ.to hq2; clear z'; have z' := hZ.cs8; clear O1
   go_upto_region 2 with fail
   refine lay1 fun wQ hq3 hQ => ?_
   replace HB := bth HB hq3; clear t'; replace hT := hT.to hq3; have t' := hT.cs3; clear z'; replace hZ := hZ.to hq3; have z' := hZ.cs8
   go_wp2_with fail
   refine (isValidTally_is yes no abst _ HT.out _).mono ?_
   rintro e w4 ⟨rfl, hb4⟩
   have hq4 := be wQ hb4; replace HB := bth HB hq4; clear t'; replace hZ := hZ.to hq4; clear z'
   exact zb87
  case true =>
   have ho : os.length = 12 := by
    by_cases h : os.length = 12
    ·exact h
    ·simp [votA, hd, ht, h] at hv
   have ho' : ((os.length : Int) == 12) = true := by rw [ho]; rfl
   have HT := lh ht; clear hd hv hj hq hp hl ht ho
   go_in
   go_upto_region 1 with fail
   refine lay3 fun wX hq1 hF hT hZ => ?_
   have HB := hq1; have f' := hF.cs8; have t' := hT.cs3; have z' := hZ.cs8
   go_wp2_with fail
   refine (iDispT_is A0 c0 rs HZ.out.h0 HZ.out.k0 A1 c1 qs HZ.out.h1 HZ.out.k1 j HJ.out qr qm qe HQ.out HP.out HL.out _ (HR.out.r0.below (bth HB bel)) (HR.out.r1.below (bth HB bel))).mono ?_
   rintro e w2 ⟨g1, d1, rfl, O1, hb2⟩
   have hq2 := be wX hb2; replace HB := bth HB hq2; replace hF := hF.to hq2; clear f'; have f' := hF.cs8; replace hT := hT.to hq2; clear t'; have t' := hT.cs3; replace hZ := hZ.to hq2; clear z'; have z' := hZ.cs8; clear O1
   go_upto_region 2 with fail
   refine lay1 fun wQ hq3 hQ => ?_
   replace HB := bth HB hq3; clear f'; replace hF := hF.to hq3; have f' := hF.cs8; clear t'; replace hT := hT.to hq3; have t' := hT.cs3; clear z'; replace hZ := hZ.to hq3; have z' := hZ.cs8
   go_wp2_with fail
   refine (isValidTally_is yes no abst _ HT.out _).mono ?_
   rintro e w4 ⟨rfl, hb4⟩
   have hq4 := be wQ hb4; replace HB := bth HB hq4; replace hF := hF.to hq4; clear f'; have f' := hF.cs8; clear t'; replace hZ := hZ.to hq4; clear z'; have z' := hZ.cs8; have fhZ' := hZ.fz8
   go_wp2
   clear f' z'
   refine st8 0 fun W9 tW9 => ?_
   replace HB := tW9.hc HB; replace hZ := tW9.all8 hZ; have z' := hZ.cs8
   exact brt ⟨rfl, HB⟩ (by simp [results, Tryz.results163, go_sem, z'])
theorem zb88 {p : Prop} (h : p := by
 have z' := hZ.cs8; have fhZ' := hZ.fz8
 go_wp2
 clear z'
 refine st8 0 fun W9 tW9 => ?_
 replace HB := tW9.hc HB; replace hZ := tW9.all8 hZ; have z' := hZ.cs8
 exact brt ⟨rfl, HB⟩ (by simp [results, Tryz.results112, go_sem, z'])) : p := h
theorem zb86 {p : Prop} (h : p := by
 have z' := hZ.cs8; have fhZ' := hZ.fz8
 go_wp2
 clear f' z'
 refine st8 0 fun W9 tW9 => ?_
 replace HB := tW9.hc HB; replace hZ := tW9.all8 hZ; have z' := hZ.cs8
 exact brt ⟨rfl, HB⟩ (by simp [results, Tryz.results112, go_sem, z'])) : p := h
theorem sVoteF_is (A0 A1 A2 A3 A4 : Option Addr) (c0 c1 c2 c3 c4 : Nat) (rs : List Rul) (qs : List Que) (tu se sp : Int) (ws : List Int) (sh : List Sha) (os : List Out) (Z : MeeIn A0 A1 A2 A3 A4 c0 c1 c2 c3 c4 rs qs ws sh os) (mem val yes no abst : Int) (hv : sp ≠ 0 ∨ votA ⟨rs, qs, tu, se, sp, ws, sh, os⟩ ⟨7, mem, val, yes, no, abst⟩ = none) (w : World) (R : MeR w A0 A1 A2 A3 A4 rs qs ws sh os) :
 Calls Tryz.prog 112 #[.agg #[.slice A0 rs.length c0, .slice A1 qs.length c1, .int .i64 tu, .int .i64 se, .int .i64 sp, .slice A2 ws.length c2, .slice A3 sh.length c3, .slice A4 os.length c4], .agg #[.int .i64 yes, .int .i64 no, .int .i64 abst]] w fun e w' => e = .returned (.tuple #[.agg #[.slice none 0 0, .slice none 0 0, .int .i64 0, .int .i64 0, .int .i64 0, .slice none 0 0, .slice none 0 0, .slice none 0 0], .bool false]) ∧ Below w.heap.size w w' := by
 have HR := lh R; have HZ := lh Z; clear R Z
 cases hd : dsQ rs qs with
 | none =>
  have HD := lh hd; clear hd hv
  go_in
  go_upto_region 1 with fail
  refine lay3 fun wX hq1 hF hT hZ => ?_
  have HB := hq1; have f' := hF.cs8; have z' := hZ.cs8
  go_wp2_with fail
  refine (sDispF_is A0 c0 rs HZ.out.h0 HZ.out.k0 A1 c1 qs HZ.out.h1 HZ.out.k1 HD.out _ (HR.out.r0.below (bth HB bel)) (HR.out.r1.below (bth HB bel))).mono ?_
  rintro e w2 ⟨A9, c9, rfl, hb2⟩
  have hq2 := be wX hb2; replace HB := bth HB hq2; clear f'; replace hZ := hZ.to hq2; clear z'; have z' := hZ.cs8
  go_upto_region 2 with fail
  refine lay1 fun wQ hq3 hQ => ?_
  replace HB := bth HB hq3; clear z'; replace hZ := hZ.to hq3
  exact zb88
 | some pq =>
  obtain ⟨ps, ⟨qr, qm, qe⟩⟩ := pq
  obtain ⟨j, hj, hq, hps, hp, hl⟩ := dsQ_some hd
  subst hps
  have HJ := lh hj; have HQ := lh hq; have HP := lh hp; have HL := lh hl
  by_cases hs0 : sp = 0
  case neg =>
   have hs : (sp != 0) = true := by simpa using hs0
   clear hd hv hj hq hp hl hs0
   go_in
   go_upto_region 1 with fail
   refine lay3 fun wX hq1 hF hT hZ => ?_
   have HB := hq1; have f' := hF.cs8; have z' := hZ.cs8
   go_wp2_with fail
   refine (sDispT_is A0 c0 rs HZ.out.h0 HZ.out.k0 A1 c1 qs HZ.out.h1 HZ.out.k1 j HJ.out qr qm qe HQ.out HP.out HL.out _ (HR.out.r0.below (bth HB bel)) (HR.out.r1.below (bth HB bel))).mono ?_
   rintro e w2 ⟨g1, d1, rfl, O1, hb2⟩
   have hq2 := be wX hb2; replace HB := bth HB hq2; replace hF := hF.to hq2; clear f'; have f' := hF.cs8; replace hZ := hZ.to hq2; clear z'; have z' := hZ.cs8; clear O1
   go_upto_region 2 with fail
   refine lay1 fun wQ hq3 hQ => ?_
   replace HB := bth HB hq3; clear f'; replace hF := hF.to hq3; have f' := hF.cs8; clear z'; replace hZ := hZ.to hq3
   exact zb86
  case pos =>
  have hs : (sp != 0) = false := by simpa using hs0
  have hv : votA ⟨rs, qs, tu, se, sp, ws, sh, os⟩ ⟨7, mem, val, yes, no, abst⟩ = none := hv.resolve_left (fun h => h hs0); clear hs0
  cases ht : tallyB yes no abst
  case false =>
   have HT := lh ht; clear hd hv hj hq hp hl ht
   go_in
   go_upto_region 1 with fail
   refine lay3 fun wX hq1 hF hT hZ => ?_
   have HB := hq1; have f' := hF.cs8; have t' := hT.cs3; have z' := hZ.cs8
   go_wp2_with fail
   refine (sDispT_is A0 c0 rs HZ.out.h0 HZ.out.k0 A1 c1 qs HZ.out.h1 HZ.out.k1 j HJ.out qr qm qe HQ.out HP.out HL.out _ (HR.out.r0.below (bth HB bel)) (HR.out.r1.below (bth HB bel))).mono ?_
   rintro e w2 ⟨g1, d1, rfl, O1, hb2⟩
   have hq2 := be wX hb2; replace HB := bth HB hq2; replace hF := hF.to hq2; clear f'; have f' := hF.cs8; replace hT := hT.to hq2; clear t'; have t' := hT.cs3; replace hZ := hZ.to hq2; clear z'; have z' := hZ.cs8; clear O1
   go_upto_region 2 with fail
   refine lay1 fun wQ hq3 hQ => ?_
   replace HB := bth HB hq3; clear f'; replace hF := hF.to hq3; have f' := hF.cs8; clear t'; replace hT := hT.to hq3; have t' := hT.cs3; clear z'; replace hZ := hZ.to hq3; have z' := hZ.cs8
   go_wp2_with fail
   refine (l11Good_is yes no abst _ HT.out _).mono ?_
   rintro e w4 ⟨rfl, hb4⟩
   have hq4 := be wQ hb4; replace HB := bth HB hq4; clear f'; clear t'; replace hZ := hZ.to hq4; clear z'
   exact zb88
  case true =>
   have ho : os.length = 12 := by
    by_cases h : os.length = 12
    ·exact h
    ·simp [votA, hd, ht, h] at hv
   have ho' : ((os.length : Int) == 12) = true := by rw [ho]; rfl
   have HT := lh ht; clear hd hv hj hq hp hl ht ho
   go_in
   go_upto_region 1 with fail
   refine lay3 fun wX hq1 hF hT hZ => ?_
   have HB := hq1; have f' := hF.cs8; have t' := hT.cs3; have z' := hZ.cs8
   go_wp2_with fail
   refine (sDispT_is A0 c0 rs HZ.out.h0 HZ.out.k0 A1 c1 qs HZ.out.h1 HZ.out.k1 j HJ.out qr qm qe HQ.out HP.out HL.out _ (HR.out.r0.below (bth HB bel)) (HR.out.r1.below (bth HB bel))).mono ?_
   rintro e w2 ⟨g1, d1, rfl, O1, hb2⟩
   have hq2 := be wX hb2; replace HB := bth HB hq2; replace hF := hF.to hq2; clear f'; have f' := hF.cs8; replace hT := hT.to hq2; clear t'; have t' := hT.cs3; replace hZ := hZ.to hq2; clear z'; have z' := hZ.cs8; clear O1
   go_upto_region 2 with fail
   refine lay1 fun wQ hq3 hQ => ?_
   replace HB := bth HB hq3; clear f'; replace hF := hF.to hq3; have f' := hF.cs8; clear t'; replace hT := hT.to hq3; have t' := hT.cs3; clear z'; replace hZ := hZ.to hq3; have z' := hZ.cs8
   go_wp2_with fail
   refine (l11Good_is yes no abst _ HT.out _).mono ?_
   rintro e w4 ⟨rfl, hb4⟩
   have hq4 := be wQ hb4; replace HB := bth HB hq4; replace hF := hF.to hq4; clear f'; have f' := hF.cs8; clear t'; replace hZ := hZ.to hq4; clear z'
   exact zb86
end Go.Proofs.YtjimibkgocieoaaGreat
