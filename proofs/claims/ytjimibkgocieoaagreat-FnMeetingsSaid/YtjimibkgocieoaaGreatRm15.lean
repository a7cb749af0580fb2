/- Texts of the proof: walks of the functions, and what they compute. -/
import Derived.Test.YtjimibkgocieoaaGreatRm14
import Derived.Test.YtjimibkgocieoaaGreatRm0
import Derived.Test.YtjimibkgocieoaaGreatRm7
import Derived.Test.YtjimibkgocieoaaGreatRm13
set_option maxHeartbeats 16000000
set_option maxRecDepth 100000
namespace Go.Proofs.YtjimibkgocieoaaGreat
open Go.RowKit Go.G9
theorem nxI_step {f : Fl} {k : Nat} {x y : Int} (hx : f.ws[k]? = some x) (hy : f.ws[nxI f k]? = some y) : nxI f (k + 1) = if (shareF f.sh x).turns < (shareF f.sh y).turns then k else nxI f k := by
 simp only [nxI, hx, hy]
theorem nxI_one {f : Fl} : nxI f 1 = 0 := by have := nxI_lt f 1 (by omega); omega
theorem l8Next_is (tu se sp : Int) (A2 : Option Addr) (c2 : Nat) (ws : List Int) (A3 : Option Addr) (c3 : Nat) (sh : List Sha) (h2 : ws.length ≤ 1048576) (h3 : sh.length ≤ 1048576) (n2 : A2 = none → ws = [] ∧ c2 = 0) (n3 : A3 = none → sh = [] ∧ c3 = 0) (k2 : ws.length ≤ c2) (k3 : sh.length ≤ c3) (h0 : 0 < ws.length) (w : World) (R2 : Rds 1 intC w A2 ws) (R3 : Rds 3 Sha.cells w A3 sh) :
 Calls Tryz.prog 191 #[.agg #[.int .i64 tu, .int .i64 se, .int .i64 sp, .slice A2 ws.length c2, .slice A3 sh.length c3]] w fun e w' => e = .returned (.int .i64 (nxI ⟨tu, se, sp, ws, sh⟩ ws.length)) ∧ Below w.heap.size w w' := by
 have HR2 := lh R2; have HR3 := lh R3; have HN2 := lh n2; have HN3 := lh n3; have HK3 := lh k3; clear R2 R3 n2 n3 k3
 obtain ⟨b2, o2, m0, hA2, hbl2, _, _⟩ := HR2.out.at_ (Below.refl _ _) (k := 0) h0
 subst hA2
 clear HN2
 go_in
 go_upto_region 1 with fail
 refine lay1 fun wX hq1 hF => ?_
 have HB := hq1; have f' := hF.cs5; have hf0 := hF.lt; have HF := lh hF; have HBO := lh HB; clear hF f'
 go_wp2
 go_loopw [3, 4] (fun v i wr => ∃ k : Nat, 1 ≤ k ∧ k ≤ ws.length ∧ i = .int .i64 k ∧ v = .int .i64 (nxI ⟨tu, se, sp, ws, sh⟩ k) ∧ Below wX.heap.size wX wr) (fun _ i _ => ws.length - (intOf i).toNat)
 case atStart => exact ⟨1, Nat.le_refl _, h0, rfl, by rw [nxI_one]; rfl, Below.refl _ _⟩
 case round =>
  obtain ⟨k, hk1, hk, rfl, rfl, hb⟩ := hrel
  have hFr := HF.out.below hb HF.out.lt; have f' := Blk.cs5K (fun K : Kin wr.heap.size wr => (hFr.below K.below hFr.lt)); have g3 := (hFr.cell 3).trans (show _ = some (.slice (some ⟨b2, o2, none⟩) ws.length c2) from rfl); have hxl := nxI_lt ⟨tu, se, sp, ws, sh⟩ k (by omega)
  by_cases hlt : k < ws.length
  ·have hx : ws[k]? = some ws[k] := List.getElem?_eq_getElem hlt
   have hy : ws[nxI ⟨tu, se, sp, ws, sh⟩ k]? = some ws[nxI ⟨tu, se, sp, ws, sh⟩ k] := List.getElem?_eq_getElem (by omega); have hst := nxI_step (f := ⟨tu, se, sp, ws, sh⟩) hx hy
   simp only at hst
   generalize ws[k] = x at *
   generalize ws[nxI ⟨tu, se, sp, ws, sh⟩ k] = y at *
   generalize nxI ⟨tu, se, sp, ws, sh⟩ k = j at *
   obtain ⟨⟨xm, xt, xs⟩, hsx⟩ : ∃ s, shareF sh x = s := ⟨_, rfl⟩
   obtain ⟨⟨ym, yt, ys⟩, hsy⟩ : ∃ s, shareF sh y = s := ⟨_, rfl⟩
   rw [hsx, hsy] at hst
   simp only at hst
   have HSX := lh hsx; have HSY := lh hsy; have HST := lh hst
   have cx := fun K : Kin wr.heap.size wr => (rds_cellz (HR2.out.below (bth (bth HBO.out hb) K.below)) hx (i := 0) (u := .int .i64 x) rfl)
   have cy := fun K : Kin wr.heap.size wr => (rds_cellz (HR2.out.below (bth (bth HBO.out hb) K.below)) hy (i := 0) (u := .int .i64 y) rfl)
   simp only [Nat.mul_one, Nat.add_zero] at cx cy
   have e1 := fun W => (show (Instr.field 144 (.agg #[.int .i64 xm, .int .i64 xt, .int .i64 xs]) 1).run Tryz.prog W = .ok (.int .i64 xt) W by kernel_rfl)
   have e2 := fun W => (show (Instr.field 144 (.agg #[.int .i64 ym, .int .i64 yt, .int .i64 ys]) 1).run Tryz.prog W = .ok (.int .i64 yt) W by kernel_rfl)
   have hlt' : decide ((k : Int) < (ws.length : Int)) = true := decide_eq_true (by omega); clear hsx hsy hst hx hy
   by_cases ht : xt < yt
   ·have ht' : decide (xt < yt) = true := decide_eq_true ht
    go_wp2
    clear g3
    refine wp_region_kin (by kernel_rfl) (by kernel_rfl) ?_
    repeat (go_big_quiet_step (fail))
    go_big_quiet_step ((go_at_call 176; exact Kin.call _ (by first | exact Nat.le_refl _ | omega) (l8Share_is tu se sp (some ⟨b2, o2, none⟩) ws.length c2 A3 c3 sh h3 x ⟨xm, xt, xs⟩ HSX.out _ (HR3.out.below (bth (bth HBO.out hb) (Kin.below _))))))
    repeat (go_big_quiet_step (fail))
    go_big_quiet_step ((go_at_call 176; exact Kin.call _ (by first | exact Nat.le_refl _ | omega) (l8Share_is tu se sp (some ⟨b2, o2, none⟩) ws.length c2 A3 c3 sh h3 y ⟨ym, yt, ys⟩ HSY.out _ (HR3.out.below (bth (bth HBO.out hb) (Kin.below _))))))
    repeat (go_big_quiet_step (fail))
    refine wpQuiet_nil ?_
    intro K
    clear f' cx cy e1 e2 ht' hFr
    go_wp2
    go_roundw
    case rel => exact ⟨k + 1, by omega, by omega, by go_num, by rw [HST.out, if_pos ht], bth hb K.below⟩
    case measure => simp [intOf]; omega
   ·have ht' : decide (xt < yt) = false := decide_eq_false ht
    go_wp2
    clear g3
    refine wp_region_kin (by kernel_rfl) (by kernel_rfl) ?_
    repeat (go_big_quiet_step (fail))
    go_big_quiet_step ((go_at_call 176; exact Kin.call _ (by first | exact Nat.le_refl _ | omega) (l8Share_is tu se sp (some ⟨b2, o2, none⟩) ws.length c2 A3 c3 sh h3 x ⟨xm, xt, xs⟩ HSX.out _ (HR3.out.below (bth (bth HBO.out hb) (Kin.below _))))))
    repeat (go_big_quiet_step (fail))
    go_big_quiet_step ((go_at_call 176; exact Kin.call _ (by first | exact Nat.le_refl _ | omega) (l8Share_is tu se sp (some ⟨b2, o2, none⟩) ws.length c2 A3 c3 sh h3 y ⟨ym, yt, ys⟩ HSY.out _ (HR3.out.below (bth (bth HBO.out hb) (Kin.below _))))))
    repeat (go_big_quiet_step (fail))
    refine wpQuiet_nil ?_
    intro K
    clear f' cx cy e1 e2 ht' hFr
    go_wp2
    go_roundw
    case rel => exact ⟨k + 1, by omega, by omega, by go_num, by rw [HST.out, if_neg (by omega)], bth hb K.below⟩
    case measure => simp [intOf]; omega
  ·obtain rfl : k = ws.length := by omega
   have hlt' : decide ((ws.length : Int) < (ws.length : Int)) = false := decide_eq_false (by omega); clear f'
   go_wp2
   go_ret
   exact ⟨rfl, bth HBO.out hb⟩
def wiW (xs : List Int) (k : Nat) : MkSpec (Option Addr × Nat) where
 par := fun n => match n with
  | 4 => [0]
  | _ => []
 val := fun n p => match n with
  | 0 => .slice p.1 0 0
  | 4 => .slice p.1 k p.2
  | _ => undef
 post := fun n σ p V0 V => match n with
  | 0 => p.1 = some ⟨V0.heap.size, 0, none⟩ ∧ Blk V V0.heap.size 3 #[]
  | 4 => ∃ g g', (σ 0).1 = some ⟨g, 0, none⟩ ∧ p.1 = some ⟨g', 0, none⟩ ∧ OwnV g 3 1 intC V (.slice p.1 (xs.take k).length p.2) (xs.take k)
  | _ => True
theorem zb81 {p : Prop} (h : p := by
 change wpList _ _ _ (_ :: []) _ _
 go_wp2
 first | exact Nrm_mk ⟨(some ⟨kq.world.heap.size, 0, none⟩, 0), rfl, bl1 _ _, rfl, Blk.new _ _ _⟩ | exact Nrm_mk ⟨some ⟨kq.world.heap.size, 0, none⟩, 0, rfl, bl1 _ _, rfl, Blk.new _ _ _⟩) : p := h
theorem zb102 {p : Prop} (h : p := by
 first | exact Nrm_mk ⟨(some ⟨g', 0, none⟩, c'), rfl, hb', U0.heap.size, g', HU7.out, rfl, hO'⟩ | exact Nrm_mk ⟨some ⟨g', 0, none⟩, c', rfl, hb', U0.heap.size, g', HU7.out, rfl, hO'⟩) : p := h
theorem zb48 {p : Prop} (h : p := by
 have hB10 : Below w.heap.size w w10 := HB9.out.grown hg10 szV (fun q hq => by have h9 : g5 = q := Option.some.inj hq; omega)
 refine Nrm_keep ((HCC1.out _).2 hB10) (hK2 _ _ ?_)
 refine wpMx_last ?_
 refine wpQuiet_nil ?_
 change wpQuiet _ _ _ _ (_ :: []) _
 try simp only [Act.put]
 try go_simp
 repeat (go_big_quiet_step (fail))
 refine wpQuiet_nil ?_
 go_wp2
 go_ret
 exact ⟨Y, yc, rfl, hO10, hB10⟩) : p := h
theorem l8Without_is (A : Option Addr) (c : Nat) (xs : List Int) (hn : xs.length ≤ 1048576) (hc : xs.length ≤ c) (k : Nat) (hk : k < xs.length) (w : World) (R : Rds 1 intC w A xs) :
 Calls Tryz.prog 192 #[.slice A xs.length c, .int .i64 k] w fun e w' => ∃ g' c', e = .returned (.slice g' (xs.length - 1) c') ∧ OwnV w.heap.size 3 1 intC w' (.slice g' (xs.length - 1) c') (xs.take k ++ xs.drop (k + 1)) ∧ Below w.heap.size w w' := by
 obtain ⟨i0, hi, hz0, hz1, hz2⟩ := info_parts info_int
 obtain ⟨b, o, m0, hA, hbl, _, _⟩ := R.at_ (Below.refl _ _) (k := 0) (by omega)
 subst hA
 have HR := lh R; clear R; have HTL : Hid ((xs.take k).length = k) := lh (by rw [List.length_take]; omega); have HRL : Hid ((xs.drop (k + 1)).length = xs.length - (k + 1)) := lh (by rw [List.length_drop]); have HRT : Hid (Rds 1 intC w (some ⟨b, o, none⟩) (xs.take k)) := lh (rds_takeq HR.out k); have HLL : Hid ((xs.take k ++ xs.drop (k + 1)).length = xs.length - 1) := lh (by rw [List.length_append, List.length_take, List.length_drop]; omega)
 by_cases hc1 : k + 1 = c
 ·subst hc1
  replace HRL : Hid ((xs.drop (k + 1)).length = 0) := lh (by have := HRL.out; omega); have HRR : Hid (Rds 1 intC w (some ⟨b, o, none⟩) (xs.drop (k + 1))) := lh (by rw [List.drop_of_length_le (by omega)]; exact Rds.nil)
  go_in
  obtain ⟨CC1, hCC1⟩ : ∃ X : World → Prop, ∀ V, X V ↔ (Below w.heap.size w V) := ⟨_, fun _ => Iff.rfl⟩
  have HCC1 := lh hCC1; clear hCC1
  haveI : Nonempty (Hld CC1) := ⟨⟨w, ((HCC1.out _).2 ((Below.refl _ _)))⟩⟩
  go_upto_region 1 with fail
  refine wp_region_mky (wiW xs k) CC1 [([], 0), ([1, 2, 3], 4)] [5, 6, 7, 8] [([], [], 9, false)] [] [10] (by kernel_rfl) (by kernel_rfl) ((HCC1.out _).2 ((Below.refl _ _).drew)) (fun W W' h k => ((HCC1.out _).2 (((HCC1.out _).1 h).trans (k.mono ((HCC1.out _).1 h).size)))) ?_
  intro σ
  refine wpMk1_cons (some 5) rfl (.slice (σ 0).1 0 0) rfl fun K1 hK1 => ?_
  change wpQuiet _ _ _ _ ([]) _
  refine wpQuiet_nil ?_
  refine ⟨fun kq hpar => ?_, hK1 _ ?_⟩
  ·exact zb81
  simp only [Act.put]
  go_simp
  refine wpMk1_cons (some 9) rfl (.slice (σ 4).1 k (σ 4).2) rfl fun K1 hK1 => ?_
  change wpQuiet _ _ _ _ (_ :: _ :: _ :: []) _
  repeat (go_big_quiet_step (fail))
  refine wpQuiet_nil ?_
  refine ⟨fun kq hpar => ?_, hK1 _ ?_⟩
  ·change wpList _ _ _ (_ :: []) _ _
   obtain ⟨U0, U, hU1, ⟨hU2, hU4⟩, hU5⟩ := hpar 0 (by simp [wiW])
   have hU6 := hU4.to hU5; have hU7 : (σ 0).1 = some ⟨U0.heap.size, 0, none⟩ := hU2; have HUR := lh (HRT.out.below ((HCC1.out _).1 kq.holds)); have HU6 := lh hU6; clear hU6 hU4 hU2 hU1 hU5 hpar
   rw [hU7]
   have HU7 := lh hU7; clear hU7
   go_wp2_with ((at_builtin; refine wpList_appOn rfl _ _ 26 rfl U0.heap.size 3 i0 _ 1 8 Tryz.underlying26 hi hz0 hz1 hz2 rfl (by decide) intC intC_len intC_one U0.heap.size rfl HU6.out (Nat.le_refl _) (some ⟨b, o, none⟩) (k + 1) (xs.take k) k HTL.out.symm rfl HUR.out (fun h => by cases h) (by have := HTL.out; unfold maxLen; omega) (by have := HTL.out; omega) ?_; intro g' c' w' hO' hb'))
   exact zb102
  simp only [Act.put]
  go_simp
  refine wpMk1_last ?_
  change wpQuiet _ _ _ _ (_ :: _ :: _ :: _ :: []) _
  repeat (go_big_quiet_step (fail))
  refine wpQuiet_nil ?_
  intro V0 V W hM hW
  obtain ⟨g0, g5, e0, e5, q5⟩ : ∃ g g', (σ 0).1 = some ⟨g, 0, none⟩ ∧ (σ 4).1 = some ⟨g', 0, none⟩ ∧ OwnV g 3 1 intC (V 4) (.slice (σ 4).1 (xs.take k).length (σ 4).2) (xs.take k) := hM.post 4 (by simp)
  obtain ⟨a0, _⟩ : (σ 0).1 = some ⟨(V0 0).heap.size, 0, none⟩ ∧ Blk (V 0) (V0 0).heap.size 3 #[] := hM.post 0 (by simp)
  have t0 : (V0 0).heap.size = g0 := by rw [a0] at e0; exact congrArg Addr.block (Option.some.inj e0)
  have O5 := (q5.later (hM.later 4 (by simp))).base (B' := w.heap.size) (by rw [← t0]; exact (hM.from0 0 (by simp)).size); have hq2v : Below w.heap.size w W := (hM.whole 4 (by simp)).undrew; have hq2 : Below w.heap.size w W := bth bel (hM.whole 4 (by simp)).undrew; have HB : Below w.heap.size w W := hq2; clear hM q5 a0 e0 t0 hW
  generalize σ 4 = p5 at *
  obtain ⟨D5, d5⟩ := p5
  simp only at O5 e5
  subst e5
  rw [HTL.out] at O5
  have szV := hq2v.size; have hdl5 := O5.lt g5 rfl; have HO5 : Hid (OwnV w.heap.size 3 1 intC W (.slice (some ⟨g5, 0, none⟩) k d5) (xs.take k)) := lh O5; have HB9 := lh hq2v; clear O5
  refine wpMx_cons fun K2 hK2 => ?_
  refine wpQuiet_nil ?_
  refine wpQuiet_nil ?_
  change wpList _ _ _ (_ :: []) _ _
  have HRW := lh (HRR.out.below HB9.out)
  go_wp2_with ((at_builtin; refine wpList_app rfl _ _ 26 rfl w.heap.size 3 i0 _ 1 8 Tryz.underlying26 hi hz0 hz1 hz2 rfl (by decide) intC intC_len intC_one _ (xs.take k) rfl HO5.out (some ⟨b, o, none⟩) (0) (xs.drop (k + 1)) (by rw [HRL.out]; rfl) HRW.out (fun h => by cases h) (by have h1 := HRL.out; have h2 := HTL.out; rw [h1, h2]; unfold maxLen; omega) (by have h1 := HRL.out; have h2 := HTL.out; rw [h1, h2]; omega) szV ?_; intro v10 w10 hO10 hg10; obtain ⟨Y, yc, hv, q1, q2, q3⟩ := hO10.form intC_len; clear q1 q2 q3; rw [HLL.out] at hv; subst hv))
  exact zb48
 ·skip
  have HRR : Hid (Rds 1 intC w (some ⟨b, o + (k + 1), none⟩) (xs.drop (k + 1))) := lh (by have h := rds_dropz HR.out (k + 1); rw [Nat.mul_one] at h; exact h)
  go_in
  obtain ⟨CC1, hCC1⟩ : ∃ X : World → Prop, ∀ V, X V ↔ (Below w.heap.size w V) := ⟨_, fun _ => Iff.rfl⟩
  have HCC1 := lh hCC1; clear hCC1
  haveI : Nonempty (Hld CC1) := ⟨⟨w, ((HCC1.out _).2 ((Below.refl _ _)))⟩⟩
  go_upto_region 1 with fail
  refine wp_region_mky (wiW xs k) CC1 [([], 0), ([1, 2, 3], 4)] [5, 6, 7, 8] [([], [], 9, false)] [] [10] (by kernel_rfl) (by kernel_rfl) ((HCC1.out _).2 ((Below.refl _ _).drew)) (fun W W' h k => ((HCC1.out _).2 (((HCC1.out _).1 h).trans (k.mono ((HCC1.out _).1 h).size)))) ?_
  intro σ
  refine wpMk1_cons (some 5) rfl (.slice (σ 0).1 0 0) rfl fun K1 hK1 => ?_
  change wpQuiet _ _ _ _ ([]) _
  refine wpQuiet_nil ?_
  refine ⟨fun kq hpar => ?_, hK1 _ ?_⟩
  ·exact zb81
  simp only [Act.put]
  go_simp
  refine wpMk1_cons (some 9) rfl (.slice (σ 4).1 k (σ 4).2) rfl fun K1 hK1 => ?_
  change wpQuiet _ _ _ _ (_ :: _ :: _ :: []) _
  repeat (go_big_quiet_step (fail))
  refine wpQuiet_nil ?_
  refine ⟨fun kq hpar => ?_, hK1 _ ?_⟩
  ·change wpList _ _ _ (_ :: []) _ _
   obtain ⟨U0, U, hU1, ⟨hU2, hU4⟩, hU5⟩ := hpar 0 (by simp [wiW])
   have hU6 := hU4.to hU5; have hU7 : (σ 0).1 = some ⟨U0.heap.size, 0, none⟩ := hU2; have HUR := lh (HRT.out.below ((HCC1.out _).1 kq.holds)); have HU6 := lh hU6; clear hU6 hU4 hU2 hU1 hU5 hpar
   rw [hU7]
   have HU7 := lh hU7; clear hU7
   go_wp2_with ((at_builtin; refine wpList_appOn rfl _ _ 26 rfl U0.heap.size 3 i0 _ 1 8 Tryz.underlying26 hi hz0 hz1 hz2 rfl (by decide) intC intC_len intC_one U0.heap.size rfl HU6.out (Nat.le_refl _) (some ⟨b, o, none⟩) c (xs.take k) k HTL.out.symm rfl HUR.out (fun h => by cases h) (by have := HTL.out; unfold maxLen; omega) (by have := HTL.out; omega) ?_; intro g' c' w' hO' hb'))
   exact zb102
  simp only [Act.put]
  go_simp
  refine wpMk1_last ?_
  change wpQuiet _ _ _ _ (_ :: _ :: _ :: _ :: []) _
  repeat (go_big_quiet_step (fail))
  refine wpQuiet_nil ?_
  intro V0 V W hM hW
  obtain ⟨g0, g5, e0, e5, q5⟩ : ∃ g g', (σ 0).1 = some ⟨g, 0, none⟩ ∧ (σ 4).1 = some ⟨g', 0, none⟩ ∧ OwnV g 3 1 intC (V 4) (.slice (σ 4).1 (xs.take k).length (σ 4).2) (xs.take k) := hM.post 4 (by simp)
  obtain ⟨a0, _⟩ : (σ 0).1 = some ⟨(V0 0).heap.size, 0, none⟩ ∧ Blk (V 0) (V0 0).heap.size 3 #[] := hM.post 0 (by simp)
  have t0 : (V0 0).heap.size = g0 := by rw [a0] at e0; exact congrArg Addr.block (Option.some.inj e0)
  have O5 := (q5.later (hM.later 4 (by simp))).base (B' := w.heap.size) (by rw [← t0]; exact (hM.from0 0 (by simp)).size); have hq2v : Below w.heap.size w W := (hM.whole 4 (by simp)).undrew; have hq2 : Below w.heap.size w W := bth bel (hM.whole 4 (by simp)).undrew; have HB : Below w.heap.size w W := hq2; clear hM q5 a0 e0 t0 hW
  generalize σ 4 = p5 at *
  obtain ⟨D5, d5⟩ := p5
  simp only at O5 e5
  subst e5
  rw [HTL.out] at O5
  have szV := hq2v.size; have hdl5 := O5.lt g5 rfl; have HO5 : Hid (OwnV w.heap.size 3 1 intC W (.slice (some ⟨g5, 0, none⟩) k d5) (xs.take k)) := lh O5; have HB9 := lh hq2v; clear O5
  refine wpMx_cons fun K2 hK2 => ?_
  refine wpQuiet_nil ?_
  refine wpQuiet_nil ?_
  change wpList _ _ _ (_ :: []) _ _
  have HRW := lh (HRR.out.below HB9.out)
  go_wp2_with ((at_builtin; refine wpList_app rfl _ _ 26 rfl w.heap.size 3 i0 _ 1 8 Tryz.underlying26 hi hz0 hz1 hz2 rfl (by decide) intC intC_len intC_one _ (xs.take k) rfl HO5.out (some ⟨b, o + (k + 1), none⟩) (c - (k + 1)) (xs.drop (k + 1)) (by rw [HRL.out]; rfl) HRW.out (fun h => by cases h) (by have h1 := HRL.out; have h2 := HTL.out; rw [h1, h2]; unfold maxLen; omega) (by have h1 := HRL.out; have h2 := HTL.out; rw [h1, h2]; omega) szV ?_; intro v10 w10 hO10 hg10; obtain ⟨Y, yc, hv, q1, q2, q3⟩ := hO10.form intC_len; clear q1 q2 q3; rw [HLL.out] at hv; subst hv))
  exact zb48
theorem zb18 {p : Prop} (h : p := by
 go_in
 go_upto_region 1 with fail
 refine lay2 fun wX hq1 hF hZ => ?_
 have HB := hq1; have f' := hF.cs5; have z' := hZ.cs5; have hf0 := hF.lt; have hz0' := hZ.lt
 go_wp2_with fail
 refine (l8Good_is tu se sp A2 ws c2 A3 c3 sh h2 h3 k2 _ HV.out _ (HR2.out.below (bth HB bel)) (HR3.out.below (bth HB bel))).mono ?_
 rintro e w2 ⟨rfl, hb2⟩
 have hq2 := be wX hb2; replace HB := bth HB hq2; replace hF := hF.to hq2; clear f'; have f' := hF.cs5; replace hZ := hZ.to hq2; clear z'; have z' := hZ.cs5; have fhZ' := hZ.fz5; have yhF := hF.lt; have yhZ := hZ.lt
 go_wp2
 clear f' z'
 refine st5 0 fun W9 tW9 => ?_
 replace HB := tW9.hc HB; replace hF := tW9.fa hF; replace hZ := tW9.all5 hZ; have szW9 := tW9.sz; have f' := hF.cs5; have z' := hZ.cs5
 exact brt ⟨rfl, HB⟩ (by simp [results, Tryz.results157, go_sem, z'])) : p := h
theorem sNextF_is (tu se sp : Int) (A2 : Option Addr) (c2 : Nat) (ws : List Int) (A3 : Option Addr) (c3 : Nat) (sh : List Sha) (h2 : ws.length ≤ 1048576) (h3 : sh.length ≤ 1048576) (n2 : A2 = none → ws = [] ∧ c2 = 0) (n3 : A3 = none → sh = [] ∧ c3 = 0) (k2 : ws.length ≤ c2) (k3 : sh.length ≤ c3) (hv : nxB ⟨tu, se, sp, ws, sh⟩ = false) (w : World) (R2 : Rds 1 intC w A2 ws) (R3 : Rds 3 Sha.cells w A3 sh) :
 Calls Tryz.prog 157 #[.agg #[.int .i64 tu, .int .i64 se, .int .i64 sp, .slice A2 ws.length c2, .slice A3 sh.length c3]] w fun e w' => e = .returned (.tuple #[.agg #[.int .i64 0, .int .i64 0, .int .i64 0, .slice none 0 0, .slice none 0 0], .int .i64 0, .bool false]) ∧ Below w.heap.size w w' := by
 have HR2 := lh R2; have HR3 := lh R3; have HN2 := lh n2; have HN3 := lh n3; have HK3 := lh k3; clear R2 R3 n2 n3 k3
 cases hf : floB tu se sp ws sh
 ·have HV := lh hf
  clear hf hv
  exact zb18
 ·cases hs : (sp == 0)
  case false =>
   have hs' : (sp != 0) = true := by rw [bne, hs]; rfl
   have HV := lh hf; clear hf hv hs
   exact zb18
  case true =>
   have hw0 : ws.length = 0 := by
    exact zb147
   have hs' : (sp != 0) = false := by rw [bne, hs]; rfl
   obtain rfl := List.length_eq_zero_iff.1 hw0
   have HV := lh hf; clear hf hv hs hw0
   go_in
   go_upto_region 1 with fail
   refine lay2 fun wX hq1 hF hZ => ?_
   have HB := hq1; have f' := hF.cs5; have z' := hZ.cs5; have hf0 := hF.lt; have hz0' := hZ.lt
   go_wp2_with fail
   refine (l8Good_is tu se sp A2 [] c2 A3 c3 sh h2 h3 k2 _ HV.out _ (HR2.out.below (bth HB bel)) (HR3.out.below (bth HB bel))).mono ?_
   rintro e w2 ⟨rfl, hb2⟩
   have hq2 := be wX hb2; replace HB := bth HB hq2; replace hF := hF.to hq2; clear f'; have f' := hF.cs5; replace hZ := hZ.to hq2; clear z'; have z' := hZ.cs5; have fhZ' := hZ.fz5; have yhF := hF.lt; have yhZ := hZ.lt
   go_wp2
   clear f' z'
   refine st5 0 fun W9 tW9 => ?_
   replace HB := tW9.hc HB; replace hF := tW9.fa hF; replace hZ := tW9.all5 hZ; have szW9 := tW9.sz; have f' := hF.cs5; have z' := hZ.cs5
   exact brt ⟨rfl, HB⟩ (by simp [results, Tryz.results157, go_sem, z'])
open Go.RowKit Go.G9
theorem l8NextK_is (tu se sp : Int) (A2 : Option Addr) (c2 : Nat) (ws : List Int) (A3 : Option Addr) (c3 : Nat) (sh : List Sha) (h2 : ws.length ≤ 1048576) (h3 : sh.length ≤ 1048576) (n2 : A2 = none → ws = [] ∧ c2 = 0) (n3 : A3 = none → sh = [] ∧ c3 = 0) (k2 : ws.length ≤ c2) (k3 : sh.length ≤ c3) (h0 : 0 < ws.length) (k : Nat) (hk : nxI ⟨tu, se, sp, ws, sh⟩ ws.length = k) (w : World) (R2 : Rds 1 intC w A2 ws) (R3 : Rds 3 Sha.cells w A3 sh) :
 Calls Tryz.prog 191 #[.agg #[.int .i64 tu, .int .i64 se, .int .i64 sp, .slice A2 ws.length c2, .slice A3 sh.length c3]] w fun e w' => e = .returned (.int .i64 k) ∧ Below w.heap.size w w' := by
 subst hk
 exact l8Next_is tu se sp A2 c2 ws A3 c3 sh h2 h3 n2 n3 k2 k3 h0 w R2 R3
theorem sNextT_is (tu se sp : Int) (A2 : Option Addr) (c2 : Nat) (ws : List Int) (A3 : Option Addr) (c3 : Nat) (sh : List Sha) (h2 : ws.length ≤ 1048576) (h3 : sh.length ≤ 1048576) (n2 : A2 = none → ws = [] ∧ c2 = 0) (n3 : A3 = none → sh = [] ∧ c3 = 0) (k2 : ws.length ≤ c2) (k3 : sh.length ≤ c3) (hv : nxB ⟨tu, se, sp, ws, sh⟩ = true) (m : Int) (hm : nxM ⟨tu, se, sp, ws, sh⟩ = some m) (w : World) (R2 : Rds 1 intC w A2 ws) (R3 : Rds 3 Sha.cells w A3 sh) :
 Calls Tryz.prog 157 #[.agg #[.int .i64 tu, .int .i64 se, .int .i64 sp, .slice A2 ws.length c2, .slice A3 sh.length c3]] w fun e w' => ∃ D2 d2 D3 d3, e = .returned (.tuple #[.agg #[.int .i64 tu, .int .i64 se, .int .i64 m, .slice D2 (ws.filter fun x => !(x == m)).length d2, .slice D3 sh.length d3], .int .i64 m, .bool true]) ∧ FlO w.heap.size w' D2 d2 D3 d3 (ws.filter fun x => !(x == m)) sh ∧ Below w.heap.size w w' := by
 have HR2 := lh R2; have HR3 := lh R3; have HN2 := lh n2; have HN3 := lh n3; have HK3 := lh k3; clear R2 R3 n2 n3 k3
 obtain ⟨hc0, hs, hw0⟩ : floB tu se sp ws sh = true ∧ (sp == 0) = true ∧ 0 < ws.length := by
  simpa [nxB, Fl.ok] using hv
 have hs' : (sp != 0) = false := by rw [bne, hs]; rfl
 have ht : ((ws.length : Int) == 0) = false := beq_eq_false_iff_ne.2 (by omega); have hkl := nxI_lt ⟨tu, se, sp, ws, sh⟩ ws.length hw0
 obtain ⟨k, hk⟩ : ∃ k, nxI ⟨tu, se, sp, ws, sh⟩ ws.length = k := ⟨_, rfl⟩
 have hx : ws[k]? = some m := by rw [← hk]; exact hm
 rw [hk] at hkl
 rw [filter_cut (fl_ok.1 (show (⟨tu, se, sp, ws, sh⟩ : Fl).ok = true from hc0)).nd hx]
 have hcl : (ws.take k ++ ws.drop (k + 1)).length = ws.length - 1 := by rw [List.length_append, List.length_take, List.length_drop]; omega
 rw [hcl]
 obtain ⟨b2, o2, m0, hA2, hbl2, hx', hcx⟩ := HR2.out.at_ (Below.refl _ _) (k := 0) hw0
 subst hA2
 have HV := lh hc0; have HK := lh hk; have HX := lh hx; have HCL := lh hcl; clear hc0 hk hx hv hm hs hcl HN2 hx' hcx; have HN2 : Hid ((some ⟨b2, o2, none⟩ : Option Addr) = none → ws = [] ∧ c2 = 0) := lh (fun h => by cases h)
 go_in
 go_upto_region 1 with fail
 refine lay2 fun wX hq1 hF hZ => ?_
 have HB := hq1; have f' := hF.cs5; have z' := hZ.cs5; have hz0' := hZ.lt
 go_wp2_with fail
 refine (l8Good_is tu se sp (some ⟨b2, o2, none⟩) ws c2 A3 c3 sh h2 h3 k2 _ HV.out _ (HR2.out.below (bth HB bel)) (HR3.out.below (bth HB bel))).mono ?_
 rintro e w2 ⟨rfl, hb2⟩
 have hq2 := be wX hb2; replace HB := bth HB hq2; replace hF := hF.to hq2; clear f'; have f' := hF.cs5; replace hZ := hZ.to hq2; clear z'; have z' := hZ.cs5
 go_wp2_with fail
 refine (l8NextK_is tu se sp (some ⟨b2, o2, none⟩) c2 ws A3 c3 sh h2 h3 HN2.out HN3.out k2 HK3.out hw0 k HK.out _ (HR2.out.below (bth HB bel)) (HR3.out.below (bth HB bel))).mono ?_
 rintro e w3 ⟨rfl, hb3⟩
 have hq3 := be w2 hb3; replace HB := bth HB hq3; replace hF := hF.to hq3; clear f'; have f' := hF.cs5; replace hZ := hZ.to hq3; clear z'; have z' := hZ.cs5
 go_wp2_with fail
 refine (l8Own_is tu se sp (some ⟨b2, o2, none⟩) c2 ws A3 c3 sh h2 h3 HN2.out HN3.out _ (HR2.out.below (bth HB bel)) (HR3.out.below (bth HB bel))).mono ?_
 rintro e w4 ⟨D2, d2, D3, d3, rfl, OO, hb4⟩
 have hq4 := be w3 hb4; replace HB := bth HB hq4; replace hF := hF.to hq4; clear f'; have f' := hF.cs5; replace hZ := hZ.to hq4; clear z'; have z' := hZ.cs5; have szh := HB.size; have szq2 := hq2.size; have szq3 := hq3.size; have szq4 := hq4.size
 go_upto_region 5 with fail
 have O3 := OO.o3.later (bl1 w4 (.cells #[.int .i64 tu, .int .i64 se, .int .i64 sp, .slice D2 ws.length d2, .slice D3 sh.length d3] 29)); clear OO; have hq5 : Below w4.heap.size w4 (World.alloc w4 (.cells #[.int .i64 tu, .int .i64 se, .int .i64 sp, .slice D2 ws.length d2, .slice D3 sh.length d3] 29)) := bl1 w4 _
 have hX : Blk (World.alloc w4 (.cells #[.int .i64 tu, .int .i64 se, .int .i64 sp, .slice D2 ws.length d2, .slice D3 sh.length d3] 29)) (w4.heap.size) 29 #[.int .i64 tu, .int .i64 se, .int .i64 sp, .slice D2 ws.length d2, .slice D3 sh.length d3] := by repeat (first | exact Blk.new _ _ _ | exact Blk.new2 _ _ _ _ | exact Blk.new3 _ _ _ _ _ | exact Blk.new4 _ _ _ _ _ _ | refine Blk.alloc ?_ _)
 generalize World.alloc w4 (.cells #[.int .i64 tu, .int .i64 se, .int .i64 sp, .slice D2 ws.length d2, .slice D3 sh.length d3] 29) = w8 at *
 replace HB := bth HB hq5; have x' := hX.cs5; clear f'; replace hF := hF.to hq5; have f' := hF.cs5; clear z'; replace hZ := hZ.to hq5; have z' := hZ.cs5; have cm := rds_cellz (HR2.out.below HB) HX.out (i := 0) (u := .int .i64 m) rfl
 simp only [Nat.mul_one, Nat.add_zero] at cm
 have fhX2 := hX.frozen 2; have neO3 := O3.nb hX
 go_upto_region 6 with fail
 clear cm; clear f' z' x'
 refine st1 2 fun W4 tW4 => ?_
 replace HB := tW4.hc HB; replace hF := tW4.fa hF; replace hZ := tW4.fa hZ; replace hX : Blk W4 (w4.heap.size) 29 #[.int .i64 tu, .int .i64 se, .int .i64 m, .slice D2 ws.length d2, .slice D3 sh.length d3] := tW4.own hX; replace O3 := O3.keptS tW4 neO3; have f' := hF.cs5; have z' := hZ.cs5; have x' := hX.cs5; clear neO3 fhX2; have szx4 := hX.lt
 go_wp2_with fail
 refine (l8Without_is (some ⟨b2, o2, none⟩) c2 ws h2 k2 k hkl _ (HR2.out.below (bth HB bel))).mono ?_
 rintro e w6 ⟨Y, yc, rfl, O7, hb6⟩
 have hq6 := be W4 hb6; replace HB := bth HB hq6; replace O3 := O3.later hq6; replace hF := hF.to hq6; clear f'; have f' := hF.cs5; replace hZ := hZ.to hq6; clear z'; have z' := hZ.cs5; replace hX := hX.to hq6; clear x'; have x' := hX.cs5; have fhX3 := hX.frozen 3
 go_upto_region 7 with fail
 have neO3 := O3.nb hX; have neO7 := O7.nb hX; clear f' z' x'
 refine st1 3 fun W6 tW6 => ?_
 replace HB := tW6.hc HB; replace hF := tW6.fa hF; replace hZ := tW6.fa hZ; replace hX : Blk W6 (w4.heap.size) 29 #[.int .i64 tu, .int .i64 se, .int .i64 m, .slice Y (ws.length - 1) yc, .slice D3 sh.length d3] := tW6.own hX; replace O3 := O3.keptS tW6 neO3; replace O7 := O7.keptS tW6 neO7; have f' := hF.cs5; have z' := hZ.cs5; have x' := hX.cs5; clear neO3 neO7 fhX3
 obtain ⟨CC7, hCC7⟩ : ∃ X : World → Prop, ∀ V, X V ↔ (Below w.heap.size w V ∧ Blk V (w.heap.size) 29 #[.int .i64 tu, .int .i64 se, .int .i64 sp, .slice (some ⟨b2, o2, none⟩) ws.length c2, .slice A3 sh.length c3] ∧ Blk V (w4.heap.size) 29 #[.int .i64 tu, .int .i64 se, .int .i64 m, .slice Y (ws.length - 1) yc, .slice D3 sh.length d3]) := ⟨_, fun _ => Iff.rfl⟩
 have HCC7 := lh hCC7; clear hCC7
 haveI : Nonempty (Hld CC7) := ⟨⟨W6, ((HCC7.out _).2 ⟨HB, hF, hX⟩)⟩⟩
 clear f'; clear z'; clear x'; have f' := Blk.cs5K (fun K : Hld CC7 => ((HCC7.out _).1 K.holds).2.1); have x' := Blk.cs5K (fun K : Hld CC7 => ((HCC7.out _).1 K.holds).2.2)
 have cm := fun K : Hld CC7 => rds_cellz (HR2.out.below ((HCC7.out _).1 K.holds).1) HX.out (i := 0) (u := .int .i64 m) rfl
 simp only [Nat.mul_one, Nat.add_zero] at cm
 refine wp_region_mx CC7 [([0, 1, 2, 3, 4, 5], [], 6, false)] [] [7, 8] (by kernel_rfl) (by kernel_rfl) ((HCC7.out _).2 ⟨HB.drew, hF, hX⟩) ?_
 refine wpMx_cons fun K hK => ?_
 change wpQuiet _ _ _ _ (_ :: _ :: _ :: _ :: _ :: _ :: []) _
 repeat (go_big_quiet_step (fail))
 refine wpQuiet_nil ?_
 refine wpQuiet_nil ?_
 change wpList _ _ _ (_ :: []) _ _
 have hb9 := (Below.refl W6.heap.size W6).drew; replace HB : Below w.heap.size w W6.drew := HB.drew; have hZ9 := hZ.to hb9; have hX9 := hX.to hb9; have hF9 := hF.to hb9; replace O3 := O3.later hb9; replace O7 := O7.later hb9; clear hZ hX hF x' f' hb9 cm
 generalize W6.drew = W7 at *
 have z' := hZ9.cs5; have fhZ90 := hZ9.frozen 0; have fhZ91 := hZ9.frozen 1; have fhZ92 := hZ9.frozen 2; have fhZ93 := hZ9.frozen 3; have fhZ94 := hZ9.frozen 4; have neO3 := O3.nb hZ9; have neO7 := O7.nb hZ9
 go_wp2
 clear z'
 refine st5 0 fun W8 tW8 => ?_
 replace HB := tW8.hc HB; replace hZ9 := tW8.all5 hZ9; replace hF9 := tW8.fa hF9; replace hX9 := tW8.fa hX9; replace O3 := O3.keptS tW8 neO3; replace O7 := O7.keptS tW8 neO7; have z' := hZ9.cs5
 refine Nrm_keep ((HCC7.out _).2 ⟨HB, hF9, hX9⟩) (hK _ _ ?_)
 refine wpMx_last ?_
 refine wpQuiet_nil ?_
 change wpQuiet _ _ _ _ (_ :: _ :: []) _
 repeat (go_big_quiet_step (fail))
 refine wpQuiet_nil ?_
 go_wp2
 refine bodyPost_ret (v := .tuple #[.agg #[.int .i64 tu, .int .i64 se, .int .i64 m, .slice Y (ws.length - 1) yc, .slice D3 sh.length d3], .int .i64 m, .bool true]) (by simp [results, Tryz.results157, go_sem, z']) rfl ?_
 exact ⟨Y, yc, D3, d3, rfl, ⟨by rw [HCL.out]; exact O7.base (by omega), O3.base (by omega), by rw [HCL.out]; exact O7.apart O3 (by decide)⟩, HB⟩
end Go.Proofs.YtjimibkgocieoaaGreat
