/- Texts of the proof: walks of the functions, and what they compute. -/
import Derived.Test.YtjimibkgocieoaaGreatRb14
import Derived.Test.YtjimibkgocieoaaGreatRb0
import Derived.Test.YtjimibkgocieoaaGreatRb6
import Derived.Test.YtjimibkgocieoaaGreatRb13
import Derived.Test.YtjimibkgocieoaaGreatRb8
set_option maxHeartbeats 16000000
set_option maxRecDepth 100000
namespace Go.Proofs.YtjimibkgocieoaaGreat
open Go.RowKit Go.G9
theorem nxI_step {f : Fl} {k : Nat} {x y : Int} (hx : f.ws[k]? = some x) (hy : f.ws[nxI f k]? = some y) : nxI f (k + 1) = if (shareF f.sh x).turns < (shareF f.sh y).turns then k else nxI f k := by
 simp only [nxI, hx, hy]
theorem nxI_one {f : Fl} : nxI f 1 = 0 := by have := nxI_lt f 1 (by omega); omega
theorem l8Next_is (tu se sp : Int) (A2 : Option Addr) (c2 : Nat) (ws : List Int) (A3 : Option Addr) (c3 : Nat) (sh : List Sha) (h2 : ws.length ≤ 1048576) (h3 : sh.length ≤ 1048576) (n2 : A2 = none → ws = [] ∧ c2 = 0) (n3 : A3 = none → sh = [] ∧ c3 = 0) (k2 : ws.length ≤ c2) (k3 : sh.length ≤ c3) (h0 : 0 < ws.length) (w : World) (R2 : Rds 1 intC w A2 ws) (R3 : Rds 3 Sha.cells w A3 sh) :
 Calls Tryz.prog 191 #[.agg #[.int .i64 tu, .int .i64 se, .int .i64 sp, .slice A2 ws.length c2, .slice A3 sh.length c3]] w fun e w' => e = .returned (.int .i64 (nxI ⟨tu, se, sp, ws, sh⟩ ws.length)) ∧ Below w.heap.size w w' := by
 have HR2 := lh R2; have HR3 := lh R3; have HN2 := lh n2; have HN3 := lh n3; have HK3 := lh k3; clear R2 R3 n2 n3 k3
 obtain ⟨b2, o2, m0, hA2, hbl2, _, _⟩ := HR2.out.at_ (Below.refl _ _) (k := 0) h0
 subst hA2
 clear HN2
 go_in
 go_upto_region 1 with fail
 refine lay1 fun wX hq1 hF => ?_
 have HB := hq1; have f' := hF.cs5; have hf0 := hF.lt; have HF := lh hF; have HBO := lh HB; clear hF f'
 go_wp2
 go_loopw [3, 4] (fun v i wr => ∃ k : Nat, 1 ≤ k ∧ k ≤ ws.length ∧ i = .int .i64 k ∧ v = .int .i64 (nxI ⟨tu, se, sp, ws, sh⟩ k) ∧ Below wX.heap.size wX wr) (fun _ i _ => ws.length - (intOf i).toNat)
 case atStart => exact ⟨1, Nat.le_refl _, h0, rfl, by rw [nxI_one]; rfl, Below.refl _ _⟩
 case round =>
  obtain ⟨k, hk1, hk, rfl, rfl, hb⟩ := hrel
  have hFr := HF.out.below hb HF.out.lt; have f' := Blk.cs5K (fun K : Kin wr.heap.size wr => (hFr.below K.below hFr.lt)); have g3 := (hFr.cell 3).trans (show _ = some (.slice (some ⟨b2, o2, none⟩) ws.length c2) from rfl); have hxl := nxI_lt ⟨tu, se, sp, ws, sh⟩ k (by omega)
  by_cases hlt : k < ws.length
  ·have hx : ws[k]? = some ws[k] := List.getElem?_eq_getElem hlt
   have hy : ws[nxI ⟨tu, se, sp, ws, sh⟩ k]? = some ws[nxI ⟨tu, se, sp, ws, sh⟩ k] := List.getElem?_eq_getElem (by omega); have hst := nxI_step (f := ⟨tu, se, sp, ws, sh⟩) hx hy
   simp only at hst
   generalize ws[k] = x at *
   generalize ws[nxI ⟨tu, se, sp, ws, sh⟩ k] = y at *
   generalize nxI ⟨tu, se, sp, ws, sh⟩ k = j at *
   obtain ⟨⟨xm, xt, xs⟩, hsx⟩ : ∃ s, shareF sh x = s := ⟨_, rfl⟩
   obtain ⟨⟨ym, yt, ys⟩, hsy⟩ : ∃ s, shareF sh y = s := ⟨_, rfl⟩
   rw [hsx, hsy] at hst
   simp only at hst
   have HSX := lh hsx; have HSY := lh hsy; have HST := lh hst
   have cx := fun K : Kin wr.heap.size wr => (rds_cellz (HR2.out.below (bth (bth HBO.out hb) K.below)) hx (i := 0) (u := .int .i64 x) rfl)
   have cy := fun K : Kin wr.heap.size wr => (rds_cellz (HR2.out.below (bth (bth HBO.out hb) K.below)) hy (i := 0) (u := .int .i64 y) rfl)
   simp only [Nat.mul_one, Nat.add_zero] at cx cy
   have e1 := fun W => (show (Instr.field 144 (.agg #[.int .i64 xm, .int .i64 xt, .int .i64 xs]) 1).run Tryz.prog W = .ok (.int .i64 xt) W by kernel_rfl)
   have e2 := fun W => (show (Instr.field 144 (.agg #[.int .i64 ym, .int .i64 yt, .int .i64 ys]) 1).run Tryz.prog W = .ok (.int .i64 yt) W by kernel_rfl)
   have hlt' : decide ((k : Int) < (ws.length : Int)) = true := decide_eq_true (by omega); clear hsx hsy hst hx hy
   by_cases ht : xt < yt
   ·have ht' : decide (xt < yt) = true := decide_eq_true ht
    go_wp2
    clear g3
    refine wp_region_kin (by kernel_rfl) (by kernel_rfl) ?_
    repeat (go_big_quiet_step (fail))
    go_big_quiet_step ((go_at_call 176; exact Kin.call _ (by first | exact Nat.le_refl _ | omega) (l8Share_is tu se sp (some ⟨b2, o2, none⟩) ws.length c2 A3 c3 sh h3 x ⟨xm, xt, xs⟩ HSX.out _ (HR3.out.below (bth (bth HBO.out hb) (Kin.below _))))))
    repeat (go_big_quiet_step (fail))
    go_big_quiet_step ((go_at_call 176; exact Kin.call _ (by first | exact Nat.le_refl _ | omega) (l8Share_is tu se sp (some ⟨b2, o2, none⟩) ws.length c2 A3 c3 sh h3 y ⟨ym, yt, ys⟩ HSY.out _ (HR3.out.below (bth (bth HBO.out hb) (Kin.below _))))))
    repeat (go_big_quiet_step (fail))
    refine wpQuiet_nil ?_
    intro K
    clear f' cx cy e1 e2 ht' hFr
    go_wp2
    go_roundw
    case rel => exact ⟨k + 1, by omega, by omega, by go_num, by rw [HST.out, if_pos ht], bth hb K.below⟩
    case measure => simp [intOf]; omega
   ·have ht' : decide (xt < yt) = false := decide_eq_false ht
    go_wp2
    clear g3
    refine wp_region_kin (by kernel_rfl) (by kernel_rfl) ?_
    repeat (go_big_quiet_step (fail))
    go_big_quiet_step ((go_at_call 176; exact Kin.call _ (by first | exact Nat.le_refl _ | omega) (l8Share_is tu se sp (some ⟨b2, o2, none⟩) ws.length c2 A3 c3 sh h3 x ⟨xm, xt, xs⟩ HSX.out _ (HR3.out.below (bth (bth HBO.out hb) (Kin.below _))))))
    repeat (go_big_quiet_step (fail))
    go_big_quiet_step ((go_at_call 176; exact Kin.call _ (by first | exact Nat.le_refl _ | omega) (l8Share_is tu se sp (some ⟨b2, o2, none⟩) ws.length c2 A3 c3 sh h3 y ⟨ym, yt, ys⟩ HSY.out _ (HR3.out.below (bth (bth HBO.out hb) (Kin.below _))))))
    repeat (go_big_quiet_step (fail))
    refine wpQuiet_nil ?_
    intro K
    clear f' cx cy e1 e2 ht' hFr
    go_wp2
    go_roundw
    case rel => exact ⟨k + 1, by omega, by omega, by go_num, by rw [HST.out, if_neg (by omega)], bth hb K.below⟩
    case measure => simp [intOf]; omega
  ·obtain rfl : k = ws.length := by omega
   have hlt' : decide ((ws.length : Int) < (ws.length : Int)) = false := decide_eq_false (by omega); clear f'
   go_wp2
   go_ret
   exact ⟨rfl, bth HBO.out hb⟩
def wiW (xs : List Int) (k : Nat) : MkSpec (Option Addr × Nat) where
 par := fun n => match n with
  | 4 => [0]
  | _ => []
 val := fun n p => match n with
  | 0 => .slice p.1 0 0
  | 4 => .slice p.1 k p.2
  | _ => undef
 post := fun n σ p V0 V => match n with
  | 0 => p.1 = some ⟨V0.heap.size, 0, none⟩ ∧ Blk V V0.heap.size 3 #[]
  | 4 => ∃ g g', (σ 0).1 = some ⟨g, 0, none⟩ ∧ p.1 = some ⟨g', 0, none⟩ ∧ OwnV g 3 1 intC V (.slice p.1 (xs.take k).length p.2) (xs.take k)
  | _ => True
theorem zb79 {p : Prop} (h : p := by
 change wpList _ _ _ (_ :: []) _ _
 go_wp2
 first | exact Nrm_mk ⟨(some ⟨kq.world.heap.size, 0, none⟩, 0), rfl, bl1 _ _, rfl, Blk.new _ _ _⟩ | exact Nrm_mk ⟨some ⟨kq.world.heap.size, 0, none⟩, 0, rfl, bl1 _ _, rfl, Blk.new _ _ _⟩) : p := h
theorem zb100 {p : Prop} (h : p := by
 first | exact Nrm_mk ⟨(some ⟨g', 0, none⟩, c'), rfl, hb', U0.heap.size, g', HU7.out, rfl, hO'⟩ | exact Nrm_mk ⟨some ⟨g', 0, none⟩, c', rfl, hb', U0.heap.size, g', HU7.out, rfl, hO'⟩) : p := h
theorem zb49 {p : Prop} (h : p := by
 have hB10 : Below w.heap.size w w10 := HB9.out.grown hg10 szV (fun q hq => by have h9 : g5 = q := Option.some.inj hq; omega)
 refine Nrm_keep ((HCC1.out _).2 hB10) (hK2 _ _ ?_)
 refine wpMx_last ?_
 refine wpQuiet_nil ?_
 change wpQuiet _ _ _ _ (_ :: []) _
 try simp only [Act.put]
 try go_simp
 repeat (go_big_quiet_step (fail))
 refine wpQuiet_nil ?_
 go_wp2
 go_ret
 exact ⟨Y, yc, rfl, hO10, hB10⟩) : p := h
theorem l8Without_is (A : Option Addr) (c : Nat) (xs : List Int) (hn : xs.length ≤ 1048576) (hc : xs.length ≤ c) (k : Nat) (hk : k < xs.length) (w : World) (R : Rds 1 intC w A xs) :
 Calls Tryz.prog 192 #[.slice A xs.length c, .int .i64 k] w fun e w' => ∃ g' c', e = .returned (.slice g' (xs.length - 1) c') ∧ OwnV w.heap.size 3 1 intC w' (.slice g' (xs.length - 1) c') (xs.take k ++ xs.drop (k + 1)) ∧ Below w.heap.size w w' := by
 obtain ⟨i0, hi, hz0, hz1, hz2⟩ := info_parts info_int
 obtain ⟨b, o, m0, hA, hbl, _, _⟩ := R.at_ (Below.refl _ _) (k := 0) (by omega)
 subst hA
 have HR := lh R; clear R; have HTL : Hid ((xs.take k).length = k) := lh (by rw [List.length_take]; omega); have HRL : Hid ((xs.drop (k + 1)).length = xs.length - (k + 1)) := lh (by rw [List.length_drop]); have HRT : Hid (Rds 1 intC w (some ⟨b, o, none⟩) (xs.take k)) := lh (rds_takeq HR.out k); have HLL : Hid ((xs.take k ++ xs.drop (k + 1)).length = xs.length - 1) := lh (by rw [List.length_append, List.length_take, List.length_drop]; omega)
 by_cases hc1 : k + 1 = c
 ·subst hc1
  replace HRL : Hid ((xs.drop (k + 1)).length = 0) := lh (by have := HRL.out; omega); have HRR : Hid (Rds 1 intC w (some ⟨b, o, none⟩) (xs.drop (k + 1))) := lh (by rw [List.drop_of_length_le (by omega)]; exact Rds.nil)
  go_in
  obtain ⟨CC1, hCC1⟩ : ∃ X : World → Prop, ∀ V, X V ↔ (Below w.heap.size w V) := ⟨_, fun _ => Iff.rfl⟩
  have HCC1 := lh hCC1; clear hCC1
  haveI : Nonempty (Hld CC1) := ⟨⟨w, ((HCC1.out _).2 ((Below.refl _ _)))⟩⟩
  go_upto_region 1 with fail
  refine wp_region_mky (wiW xs k) CC1 [([], 0), ([1, 2, 3], 4)] [5, 6, 7, 8] [([], [], 9, false)] [] [10] (by kernel_rfl) (by kernel_rfl) ((HCC1.out _).2 ((Below.refl _ _).drew)) (fun W W' h k => ((HCC1.out _).2 (((HCC1.out _).1 h).trans (k.mono ((HCC1.out _).1 h).size)))) ?_
  intro σ
  refine wpMk1_cons (some 5) rfl (.slice (σ 0).1 0 0) rfl fun K1 hK1 => ?_
  change wpQuiet _ _ _ _ ([]) _
  refine wpQuiet_nil ?_
  refine ⟨fun kq hpar => ?_, hK1 _ ?_⟩
  ·exact zb79
  simp only [Act.put]
  go_simp
  refine wpMk1_cons (some 9) rfl (.slice (σ 4).1 k (σ 4).2) rfl fun K1 hK1 => ?_
  change wpQuiet _ _ _ _ (_ :: _ :: _ :: []) _
  repeat (go_big_quiet_step (fail))
  refine wpQuiet_nil ?_
  refine ⟨fun kq hpar => ?_, hK1 _ ?_⟩
  ·change wpList _ _ _ (_ :: []) _ _
   obtain ⟨U0, U, hU1, ⟨hU2, hU4⟩, hU5⟩ := hpar 0 (by simp [wiW])
   have hU6 := hU4.to hU5; have hU7 : (σ 0).1 = some ⟨U0.heap.size, 0, none⟩ := hU2; have HUR := lh (HRT.out.below ((HCC1.out _).1 kq.holds)); have HU6 := lh hU6; clear hU6 hU4 hU2 hU1 hU5 hpar
   rw [hU7]
   have HU7 := lh hU7; clear hU7
   go_wp2_with ((at_builtin; refine wpList_appOn rfl _ _ 26 rfl U0.heap.size 3 i0 _ 1 8 Tryz.underlying26 hi hz0 hz1 hz2 rfl (by decide) intC intC_len intC_one U0.heap.size rfl HU6.out (Nat.le_refl _) (some ⟨b, o, none⟩) (k + 1) (xs.take k) k HTL.out.symm rfl HUR.out (fun h => by cases h) (by have := HTL.out; unfold maxLen; omega) (by have := HTL.out; omega) ?_; intro g' c' w' hO' hb'))
   exact zb100
  simp only [Act.put]
  go_simp
  refine wpMk1_last ?_
  change wpQuiet _ _ _ _ (_ :: _ :: _ :: _ :: []) _
  repeat (go_big_quiet_step (fail))
  refine wpQuiet_nil ?_
  intro V0 V W hM hW
  obtain ⟨g0, g5, e0, e5, q5⟩ : ∃ g g', (σ 0).1 = some ⟨g, 0, none⟩ ∧ (σ 4).1 = some ⟨g', 0, none⟩ ∧ OwnV g 3 1 intC (V 4) (.slice (σ 4).1 (xs.take k).length (σ 4).2) (xs.take k) := hM.post 4 (by simp)
  obtain ⟨a0, _⟩ : (σ 0).1 = some ⟨(V0 0).heap.size, 0, none⟩ ∧ Blk (V 0) (V0 0).heap.size 3 #[] := hM.post 0 (by simp)
  have t0 : (V0 0).heap.size = g0 := by rw [a0] at e0; exact congrArg Addr.block (Option.some.inj e0)
  have O5 := (q5.later (hM.later 4 (by simp))).base (B' := w.heap.size) (by rw [← t0]; exact (hM.from0 0 (by simp)).size); have hq2v : Below w.heap.size w W := (hM.whole 4 (by simp)).undrew; have hq2 : Below w.heap.size w W := bth bel (hM.whole 4 (by simp)).undrew; have HB : Below w.heap.size w W := hq2; clear hM q5 a0 e0 t0 hW
  generalize σ 4 = p5 at *
  obtain ⟨D5, d5⟩ := p5
  simp only at O5 e5
  subst e5
  rw [HTL.out] at O5
  have szV := hq2v.size; have hdl5 := O5.lt g5 rfl; have HO5 : Hid (OwnV w.heap.size 3 1 intC W (.slice (some ⟨g5, 0, none⟩) k d5) (xs.take k)) := lh O5; have HB9 := lh hq2v; clear O5
  refine wpMx_cons fun K2 hK2 => ?_
  refine wpQuiet_nil ?_
  refine wpQuiet_nil ?_
  change wpList _ _ _ (_ :: []) _ _
  have HRW := lh (HRR.out.below HB9.out)
  go_wp2_with ((at_builtin; refine wpList_app rfl _ _ 26 rfl w.heap.size 3 i0 _ 1 8 Tryz.underlying26 hi hz0 hz1 hz2 rfl (by decide) intC intC_len intC_one _ (xs.take k) rfl HO5.out (some ⟨b, o, none⟩) (0) (xs.drop (k + 1)) (by rw [HRL.out]; rfl) HRW.out (fun h => by cases h) (by have h1 := HRL.out; have h2 := HTL.out; rw [h1, h2]; unfold maxLen; omega) (by have h1 := HRL.out; have h2 := HTL.out; rw [h1, h2]; omega) szV ?_; intro v10 w10 hO10 hg10; obtain ⟨Y, yc, hv, q1, q2, q3⟩ := hO10.form intC_len; clear q1 q2 q3; rw [HLL.out] at hv; subst hv))
  exact zb49
 ·skip
  have HRR : Hid (Rds 1 intC w (some ⟨b, o + (k + 1), none⟩) (xs.drop (k + 1))) := lh (by have h := rds_dropz HR.out (k + 1); rw [Nat.mul_one] at h; exact h)
  go_in
  obtain ⟨CC1, hCC1⟩ : ∃ X : World → Prop, ∀ V, X V ↔ (Below w.heap.size w V) := ⟨_, fun _ => Iff.rfl⟩
  have HCC1 := lh hCC1; clear hCC1
  haveI : Nonempty (Hld CC1) := ⟨⟨w, ((HCC1.out _).2 ((Below.refl _ _)))⟩⟩
  go_upto_region 1 with fail
  refine wp_region_mky (wiW xs k) CC1 [([], 0), ([1, 2, 3], 4)] [5, 6, 7, 8] [([], [], 9, false)] [] [10] (by kernel_rfl) (by kernel_rfl) ((HCC1.out _).2 ((Below.refl _ _).drew)) (fun W W' h k => ((HCC1.out _).2 (((HCC1.out _).1 h).trans (k.mono ((HCC1.out _).1 h).size)))) ?_
  intro σ
  refine wpMk1_cons (some 5) rfl (.slice (σ 0).1 0 0) rfl fun K1 hK1 => ?_
  change wpQuiet _ _ _ _ ([]) _
  refine wpQuiet_nil ?_
  refine ⟨fun kq hpar => ?_, hK1 _ ?_⟩
  ·exact zb79
  simp only [Act.put]
  go_simp
  refine wpMk1_cons (some 9) rfl (.slice (σ 4).1 k (σ 4).2) rfl fun K1 hK1 => ?_
  change wpQuiet _ _ _ _ (_ :: _ :: _ :: []) _
  repeat (go_big_quiet_step (fail))
  refine wpQuiet_nil ?_
  refine ⟨fun kq hpar => ?_, hK1 _ ?_⟩
  ·change wpList _ _ _ (_ :: []) _ _
   obtain ⟨U0, U, hU1, ⟨hU2, hU4⟩, hU5⟩ := hpar 0 (by simp [wiW])
   have hU6 := hU4.to hU5; have hU7 : (σ 0).1 = some ⟨U0.heap.size, 0, none⟩ := hU2; have HUR := lh (HRT.out.below ((HCC1.out _).1 kq.holds)); have HU6 := lh hU6; clear hU6 hU4 hU2 hU1 hU5 hpar
   rw [hU7]
   have HU7 := lh hU7; clear hU7
   go_wp2_with ((at_builtin; refine wpList_appOn rfl _ _ 26 rfl U0.heap.size 3 i0 _ 1 8 Tryz.underlying26 hi hz0 hz1 hz2 rfl (by decide) intC intC_len intC_one U0.heap.size rfl HU6.out (Nat.le_refl _) (some ⟨b, o, none⟩) c (xs.take k) k HTL.out.symm rfl HUR.out (fun h => by cases h) (by have := HTL.out; unfold maxLen; omega) (by have := HTL.out; omega) ?_; intro g' c' w' hO' hb'))
   exact zb100
  simp only [Act.put]
  go_simp
  refine wpMk1_last ?_
  change wpQuiet _ _ _ _ (_ :: _ :: _ :: _ :: []) _
  repeat (go_big_quiet_step (fail))
  refine wpQuiet_nil ?_
  intro V0 V W hM hW
  obtain ⟨g0, g5, e0, e5, q5⟩ : ∃ g g', (σ 0).1 = some ⟨g, 0, none⟩ ∧ (σ 4).1 = some ⟨g', 0, none⟩ ∧ OwnV g 3 1 intC (V 4) (.slice (σ 4).1 (xs.take k).length (σ 4).2) (xs.take k) := hM.post 4 (by simp)
  obtain ⟨a0, _⟩ : (σ 0).1 = some ⟨(V0 0).heap.size, 0, none⟩ ∧ Blk (V 0) (V0 0).heap.size 3 #[] := hM.post 0 (by simp)
  have t0 : (V0 0).heap.size = g0 := by rw [a0] at e0; exact congrArg Addr.block (Option.some.inj e0)
  have O5 := (q5.later (hM.later 4 (by simp))).base (B' := w.heap.size) (by rw [← t0]; exact (hM.from0 0 (by simp)).size); have hq2v : Below w.heap.size w W := (hM.whole 4 (by simp)).undrew; have hq2 : Below w.heap.size w W := bth bel (hM.whole 4 (by simp)).undrew; have HB : Below w.heap.size w W := hq2; clear hM q5 a0 e0 t0 hW
  generalize σ 4 = p5 at *
  obtain ⟨D5, d5⟩ := p5
  simp only at O5 e5
  subst e5
  rw [HTL.out] at O5
  have szV := hq2v.size; have hdl5 := O5.lt g5 rfl; have HO5 : Hid (OwnV w.heap.size 3 1 intC W (.slice (some ⟨g5, 0, none⟩) k d5) (xs.take k)) := lh O5; have HB9 := lh hq2v; clear O5
  refine wpMx_cons fun K2 hK2 => ?_
  refine wpQuiet_nil ?_
  refine wpQuiet_nil ?_
  change wpList _ _ _ (_ :: []) _ _
  have HRW := lh (HRR.out.below HB9.out)
  go_wp2_with ((at_builtin; refine wpList_app rfl _ _ 26 rfl w.heap.size 3 i0 _ 1 8 Tryz.underlying26 hi hz0 hz1 hz2 rfl (by decide) intC intC_len intC_one _ (xs.take k) rfl HO5.out (some ⟨b, o + (k + 1), none⟩) (c - (k + 1)) (xs.drop (k + 1)) (by rw [HRL.out]; rfl) HRW.out (fun h => by cases h) (by have h1 := HRL.out; have h2 := HTL.out; rw [h1, h2]; unfold maxLen; omega) (by have h1 := HRL.out; have h2 := HTL.out; rw [h1, h2]; omega) szV ?_; intro v10 w10 hO10 hg10; obtain ⟨Y, yc, hv, q1, q2, q3⟩ := hO10.form intC_len; clear q1 q2 q3; rw [HLL.out] at hv; subst hv))
  exact zb49
theorem zb22 {p : Prop} (h : p := by
 go_in
 go_upto_region 1 with fail
 refine lay2 fun wX hq1 hF hZ => ?_
 have HB := hq1; have f' := hF.cs5; have z' := hZ.cs5; have hf0 := hF.lt; have hz0' := hZ.lt
 go_wp2_with fail
 refine (l8Good_is tu se sp A2 ws c2 A3 c3 sh h2 h3 k2 _ HV.out _ (HR2.out.below (bth HB bel)) (HR3.out.below (bth HB bel))).mono ?_
 rintro e w2 ⟨rfl, hb2⟩
 have hq2 := be wX hb2; replace HB := bth HB hq2; replace hF := hF.to hq2; clear f'; have f' := hF.cs5; replace hZ := hZ.to hq2; clear z'; have z' := hZ.cs5; have fhZ' := hZ.fz5; have yhF := hF.lt; have yhZ := hZ.lt
 go_wp2
 clear f' z'
 refine st5 0 fun W9 tW9 => ?_
 replace HB := tW9.hc HB; replace hF := tW9.fa hF; replace hZ := tW9.all5 hZ; have szW9 := tW9.sz; have f' := hF.cs5; have z' := hZ.cs5
 exact brt ⟨rfl, HB⟩ (by simp [results, Tryz.results157, go_sem, z'])) : p := h
theorem sNextF_is (tu se sp : Int) (A2 : Option Addr) (c2 : Nat) (ws : List Int) (A3 : Option Addr) (c3 : Nat) (sh : List Sha) (h2 : ws.length ≤ 1048576) (h3 : sh.length ≤ 1048576) (n2 : A2 = none → ws = [] ∧ c2 = 0) (n3 : A3 = none → sh = [] ∧ c3 = 0) (k2 : ws.length ≤ c2) (k3 : sh.length ≤ c3) (hv : nxB ⟨tu, se, sp, ws, sh⟩ = false) (w : World) (R2 : Rds 1 intC w A2 ws) (R3 : Rds 3 Sha.cells w A3 sh) :
 Calls Tryz.prog 157 #[.agg #[.int .i64 tu, .int .i64 se, .int .i64 sp, .slice A2 ws.length c2, .slice A3 sh.length c3]] w fun e w' => e = .returned (.tuple #[.agg #[.int .i64 0, .int .i64 0, .int .i64 0, .slice none 0 0, .slice none 0 0], .int .i64 0, .bool false]) ∧ Below w.heap.size w w' := by
 have HR2 := lh R2; have HR3 := lh R3; have HN2 := lh n2; have HN3 := lh n3; have HK3 := lh k3; clear R2 R3 n2 n3 k3
 cases hf : floB tu se sp ws sh
 ·have HV := lh hf
  clear hf hv
  exact zb22
 ·cases hs : (sp == 0)
  case false =>
   have hs' : (sp != 0) = true := by rw [bne, hs]; rfl
   have HV := lh hf; clear hf hv hs
   exact zb22
  case true =>
   have hw0 : ws.length = 0 := by
    exact zb147
   have hs' : (sp != 0) = false := by rw [bne, hs]; rfl
   obtain rfl := List.length_eq_zero_iff.1 hw0
   have HV := lh hf; clear hf hv hs hw0
   go_in
   go_upto_region 1 with fail
   refine lay2 fun wX hq1 hF hZ => ?_
   have HB := hq1; have f' := hF.cs5; have z' := hZ.cs5; have hf0 := hF.lt; have hz0' := hZ.lt
   go_wp2_with fail
   refine (l8Good_is tu se sp A2 [] c2 A3 c3 sh h2 h3 k2 _ HV.out _ (HR2.out.below (bth HB bel)) (HR3.out.below (bth HB bel))).mono ?_
   rintro e w2 ⟨rfl, hb2⟩
   have hq2 := be wX hb2; replace HB := bth HB hq2; replace hF := hF.to hq2; clear f'; have f' := hF.cs5; replace hZ := hZ.to hq2; clear z'; have z' := hZ.cs5; have fhZ' := hZ.fz5; have yhF := hF.lt; have yhZ := hZ.lt
   go_wp2
   clear f' z'
   refine st5 0 fun W9 tW9 => ?_
   replace HB := tW9.hc HB; replace hF := tW9.fa hF; replace hZ := tW9.all5 hZ; have szW9 := tW9.sz; have f' := hF.cs5; have z' := hZ.cs5
   exact brt ⟨rfl, HB⟩ (by simp [results, Tryz.results157, go_sem, z'])
open Go.RowKit Go.G9
theorem l8NextK_is (tu se sp : Int) (A2 : Option Addr) (c2 : Nat) (ws : List Int) (A3 : Option Addr) (c3 : Nat) (sh : List Sha) (h2 : ws.length ≤ 1048576) (h3 : sh.length ≤ 1048576) (n2 : A2 = none → ws = [] ∧ c2 = 0) (n3 : A3 = none → sh = [] ∧ c3 = 0) (k2 : ws.length ≤ c2) (k3 : sh.length ≤ c3) (h0 : 0 < ws.length) (k : Nat) (hk : nxI ⟨tu, se, sp, ws, sh⟩ ws.length = k) (w : World) (R2 : Rds 1 intC w A2 ws) (R3 : Rds 3 Sha.cells w A3 sh) :
 Calls Tryz.prog 191 #[.agg #[.int .i64 tu, .int .i64 se, .int .i64 sp, .slice A2 ws.length c2, .slice A3 sh.length c3]] w fun e w' => e = .returned (.int .i64 k) ∧ Below w.heap.size w w' := by
 subst hk
 exact l8Next_is tu se sp A2 c2 ws A3 c3 sh h2 h3 n2 n3 k2 k3 h0 w R2 R3
theorem sNextT_is (tu se sp : Int) (A2 : Option Addr) (c2 : Nat) (ws : List Int) (A3 : Option Addr) (c3 : Nat) (sh : List Sha) (h2 : ws.length ≤ 1048576) (h3 : sh.length ≤ 1048576) (n2 : A2 = none → ws = [] ∧ c2 = 0) (n3 : A3 = none → sh = [] ∧ c3 = 0) (k2 : ws.length ≤ c2) (k3 : sh.length ≤ c3) (hv : nxB ⟨tu, se, sp, ws, sh⟩ = true) (m : Int) (hm : nxM ⟨tu, se, sp, ws, sh⟩ = some m) (w : World) (R2 : Rds 1 intC w A2 ws) (R3 : Rds 3 Sha.cells w A3 sh) :
 Calls Tryz.prog 157 #[.agg #[.int .i64 tu, .int .i64 se, .int .i64 sp, .slice A2 ws.length c2, .slice A3 sh.length c3]] w fun e w' => ∃ D2 d2 D3 d3, e = .returned (.tuple #[.agg #[.int .i64 tu, .int .i64 se, .int .i64 m, .slice D2 (ws.filter fun x => !(x == m)).length d2, .slice D3 sh.length d3], .int .i64 m, .bool true]) ∧ FlO w.heap.size w' D2 d2 D3 d3 (ws.filter fun x => !(x == m)) sh ∧ Below w.heap.size w w' := by
 have HR2 := lh R2; have HR3 := lh R3; have HN2 := lh n2; have HN3 := lh n3; have HK3 := lh k3; clear R2 R3 n2 n3 k3
 obtain ⟨hc0, hs, hw0⟩ : floB tu se sp ws sh = true ∧ (sp == 0) = true ∧ 0 < ws.length := by
  simpa [nxB, Fl.ok] using hv
 have hs' : (sp != 0) = false := by rw [bne, hs]; rfl
 have ht : ((ws.length : Int) == 0) = false := beq_eq_false_iff_ne.2 (by omega); have hkl := nxI_lt ⟨tu, se, sp, ws, sh⟩ ws.length hw0
 obtain ⟨k, hk⟩ : ∃ k, nxI ⟨tu, se, sp, ws, sh⟩ ws.length = k := ⟨_, rfl⟩
 have hx : ws[k]? = some m := by rw [← hk]; exact hm
 rw [hk] at hkl
 rw [filter_cut (fl_ok.1 (show (⟨tu, se, sp, ws, sh⟩ : Fl).ok = true from hc0)).nd hx]
 have hcl : (ws.take k ++ ws.drop (k + 1)).length = ws.length - 1 := by rw [List.length_append, List.length_take, List.length_drop]; omega
 rw [hcl]
 obtain ⟨b2, o2, m0, hA2, hbl2, hx', hcx⟩ := HR2.out.at_ (Below.refl _ _) (k := 0) hw0
 subst hA2
 have HV := lh hc0; have HK := lh hk; have HX := lh hx; have HCL := lh hcl; clear hc0 hk hx hv hm hs hcl HN2 hx' hcx; have HN2 : Hid ((some ⟨b2, o2, none⟩ : Option Addr) = none → ws = [] ∧ c2 = 0) := lh (fun h => by cases h)
 go_in
 go_upto_region 1 with fail
 refine lay2 fun wX hq1 hF hZ => ?_
 have HB := hq1; have f' := hF.cs5; have z' := hZ.cs5; have hz0' := hZ.lt
 go_wp2_with fail
 refine (l8Good_is tu se sp (some ⟨b2, o2, none⟩) ws c2 A3 c3 sh h2 h3 k2 _ HV.out _ (HR2.out.below (bth HB bel)) (HR3.out.below (bth HB bel))).mono ?_
 rintro e w2 ⟨rfl, hb2⟩
 have hq2 := be wX hb2; replace HB := bth HB hq2; replace hF := hF.to hq2; clear f'; have f' := hF.cs5; replace hZ := hZ.to hq2; clear z'; have z' := hZ.cs5
 go_wp2_with fail
 refine (l8NextK_is tu se sp (some ⟨b2, o2, none⟩) c2 ws A3 c3 sh h2 h3 HN2.out HN3.out k2 HK3.out hw0 k HK.out _ (HR2.out.below (bth HB bel)) (HR3.out.below (bth HB bel))).mono ?_
 rintro e w3 ⟨rfl, hb3⟩
 have hq3 := be w2 hb3; replace HB := bth HB hq3; replace hF := hF.to hq3; clear f'; have f' := hF.cs5; replace hZ := hZ.to hq3; clear z'; have z' := hZ.cs5
 go_wp2_with fail
 refine (l8Own_is tu se sp (some ⟨b2, o2, none⟩) c2 ws A3 c3 sh h2 h3 HN2.out HN3.out _ (HR2.out.below (bth HB bel)) (HR3.out.below (bth HB bel))).mono ?_
 rintro e w4 ⟨D2, d2, D3, d3, rfl, OO, hb4⟩
 have hq4 := be w3 hb4; replace HB := bth HB hq4; replace hF := hF.to hq4; clear f'; have f' := hF.cs5; replace hZ := hZ.to hq4; clear z'; have z' := hZ.cs5; have szh := HB.size; have szq2 := hq2.size; have szq3 := hq3.size; have szq4 := hq4.size
 go_upto_region 5 with fail
 have O3 := OO.o3.later (bl1 w4 (.cells #[.int .i64 tu, .int .i64 se, .int .i64 sp, .slice D2 ws.length d2, .slice D3 sh.length d3] 29)); clear OO; have hq5 : Below w4.heap.size w4 (World.alloc w4 (.cells #[.int .i64 tu, .int .i64 se, .int .i64 sp, .slice D2 ws.length d2, .slice D3 sh.length d3] 29)) := bl1 w4 _
 have hX : Blk (World.alloc w4 (.cells #[.int .i64 tu, .int .i64 se, .int .i64 sp, .slice D2 ws.length d2, .slice D3 sh.length d3] 29)) (w4.heap.size) 29 #[.int .i64 tu, .int .i64 se, .int .i64 sp, .slice D2 ws.length d2, .slice D3 sh.length d3] := by repeat (first | exact Blk.new _ _ _ | exact Blk.new2 _ _ _ _ | exact Blk.new3 _ _ _ _ _ | exact Blk.new4 _ _ _ _ _ _ | refine Blk.alloc ?_ _)
 generalize World.alloc w4 (.cells #[.int .i64 tu, .int .i64 se, .int .i64 sp, .slice D2 ws.length d2, .slice D3 sh.length d3] 29) = w8 at *
 replace HB := bth HB hq5; have x' := hX.cs5; clear f'; replace hF := hF.to hq5; have f' := hF.cs5; clear z'; replace hZ := hZ.to hq5; have z' := hZ.cs5; have cm := rds_cellz (HR2.out.below HB) HX.out (i := 0) (u := .int .i64 m) rfl
 simp only [Nat.mul_one, Nat.add_zero] at cm
 have fhX2 := hX.frozen 2; have neO3 := O3.nb hX
 go_upto_region 6 with fail
 clear cm; clear f' z' x'
 refine st1 2 fun W4 tW4 => ?_
 replace HB := tW4.hc HB; replace hF := tW4.fa hF; replace hZ := tW4.fa hZ; replace hX : Blk W4 (w4.heap.size) 29 #[.int .i64 tu, .int .i64 se, .int .i64 m, .slice D2 ws.length d2, .slice D3 sh.length d3] := tW4.own hX; replace O3 := O3.keptS tW4 neO3; have f' := hF.cs5; have z' := hZ.cs5; have x' := hX.cs5; clear neO3 fhX2; have szx4 := hX.lt
 go_wp2_with fail
 refine (l8Without_is (some ⟨b2, o2, none⟩) c2 ws h2 k2 k hkl _ (HR2.out.below (bth HB bel))).mono ?_
 rintro e w6 ⟨Y, yc, rfl, O7, hb6⟩
 have hq6 := be W4 hb6; replace HB := bth HB hq6; replace O3 := O3.later hq6; replace hF := hF.to hq6; clear f'; have f' := hF.cs5; replace hZ := hZ.to hq6; clear z'; have z' := hZ.cs5; replace hX := hX.to hq6; clear x'; have x' := hX.cs5; have fhX3 := hX.frozen 3
 go_upto_region 7 with fail
 have neO3 := O3.nb hX; have neO7 := O7.nb hX; clear f' z' x'
 refine st1 3 fun W6 tW6 => ?_
 replace HB := tW6.hc HB; replace hF := tW6.fa hF; replace hZ := tW6.fa hZ; replace hX : Blk W6 (w4.heap.size) 29 #[.int .i64 tu, .int .i64 se, .int .i64 m, .slice Y (ws.length - 1) yc, .slice D3 sh.length d3] := tW6.own hX; replace O3 := O3.keptS tW6 neO3; replace O7 := O7.keptS tW6 neO7; have f' := hF.cs5; have z' := hZ.cs5; have x' := hX.cs5; clear neO3 neO7 fhX3
 obtain ⟨CC7, hCC7⟩ : ∃ X : World → Prop, ∀ V, X V ↔ (Below w.heap.size w V ∧ Blk V (w.heap.size) 29 #[.int .i64 tu, .int .i64 se, .int .i64 sp, .slice (some ⟨b2, o2, none⟩) ws.length c2, .slice A3 sh.length c3] ∧ Blk V (w4.heap.size) 29 #[.int .i64 tu, .int .i64 se, .int .i64 m, .slice Y (ws.length - 1) yc, .slice D3 sh.length d3]) := ⟨_, fun _ => Iff.rfl⟩
 have HCC7 := lh hCC7; clear hCC7
 haveI : Nonempty (Hld CC7) := ⟨⟨W6, ((HCC7.out _).2 ⟨HB, hF, hX⟩)⟩⟩
 clear f'; clear z'; clear x'; have f' := Blk.cs5K (fun K : Hld CC7 => ((HCC7.out _).1 K.holds).2.1); have x' := Blk.cs5K (fun K : Hld CC7 => ((HCC7.out _).1 K.holds).2.2)
 have cm := fun K : Hld CC7 => rds_cellz (HR2.out.below ((HCC7.out _).1 K.holds).1) HX.out (i := 0) (u := .int .i64 m) rfl
 simp only [Nat.mul_one, Nat.add_zero] at cm
 refine wp_region_mx CC7 [([0, 1, 2, 3, 4, 5], [], 6, false)] [] [7, 8] (by kernel_rfl) (by kernel_rfl) ((HCC7.out _).2 ⟨HB.drew, hF, hX⟩) ?_
 refine wpMx_cons fun K hK => ?_
 change wpQuiet _ _ _ _ (_ :: _ :: _ :: _ :: _ :: _ :: []) _
 repeat (go_big_quiet_step (fail))
 refine wpQuiet_nil ?_
 refine wpQuiet_nil ?_
 change wpList _ _ _ (_ :: []) _ _
 have hb9 := (Below.refl W6.heap.size W6).drew; replace HB : Below w.heap.size w W6.drew := HB.drew; have hZ9 := hZ.to hb9; have hX9 := hX.to hb9; have hF9 := hF.to hb9; replace O3 := O3.later hb9; replace O7 := O7.later hb9; clear hZ hX hF x' f' hb9 cm
 generalize W6.drew = W7 at *
 have z' := hZ9.cs5; have fhZ90 := hZ9.frozen 0; have fhZ91 := hZ9.frozen 1; have fhZ92 := hZ9.frozen 2; have fhZ93 := hZ9.frozen 3; have fhZ94 := hZ9.frozen 4; have neO3 := O3.nb hZ9; have neO7 := O7.nb hZ9
 go_wp2
 clear z'
 refine st5 0 fun W8 tW8 => ?_
 replace HB := tW8.hc HB; replace hZ9 := tW8.all5 hZ9; replace hF9 := tW8.fa hF9; replace hX9 := tW8.fa hX9; replace O3 := O3.keptS tW8 neO3; replace O7 := O7.keptS tW8 neO7; have z' := hZ9.cs5
 refine Nrm_keep ((HCC7.out _).2 ⟨HB, hF9, hX9⟩) (hK _ _ ?_)
 refine wpMx_last ?_
 refine wpQuiet_nil ?_
 change wpQuiet _ _ _ _ (_ :: _ :: []) _
 repeat (go_big_quiet_step (fail))
 refine wpQuiet_nil ?_
 go_wp2
 refine bodyPost_ret (v := .tuple #[.agg #[.int .i64 tu, .int .i64 se, .int .i64 m, .slice Y (ws.length - 1) yc, .slice D3 sh.length d3], .int .i64 m, .bool true]) (by simp [results, Tryz.results157, go_sem, z']) rfl ?_
 exact ⟨Y, yc, D3, d3, rfl, ⟨by rw [HCL.out]; exact O7.base (by omega), O3.base (by omega), by rw [HCL.out]; exact O7.apart O3 (by decide)⟩, HB⟩
open Go.RowKit Go.G9
structure MeeIn (A0 A1 A2 A3 A4 : Option Addr) (c0 c1 c2 c3 c4 : Nat) (rs : List Rul) (qs : List Que) (ws : List Int) (sh : List Sha) (os : List Out) : Prop where
 h0 : rs.length ≤ 1048576
 h1 : qs.length ≤ 1048576
 h2 : ws.length ≤ 1048576
 h3 : sh.length ≤ 1048576
 h4 : os.length ≤ 1048576
 n0 : A0 = none → rs = [] ∧ c0 = 0
 n1 : A1 = none → qs = [] ∧ c1 = 0
 n2 : A2 = none → ws = [] ∧ c2 = 0
 n3 : A3 = none → sh = [] ∧ c3 = 0
 n4 : A4 = none → os = [] ∧ c4 = 0
 k0 : rs.length ≤ c0
 k1 : qs.length ≤ c1
 k2 : ws.length ≤ c2
 k3 : sh.length ≤ c3
 k4 : os.length ≤ c4
structure MeR (w : World) (A0 A1 A2 A3 A4 : Option Addr) (rs : List Rul) (qs : List Que) (ws : List Int) (sh : List Sha) (os : List Out) : Prop where
 r0 : Rds 7 Rul.cells w A0 rs
 r1 : Rds 3 Que.cells w A1 qs
 r2 : Rds 1 intC w A2 ws
 r3 : Rds 3 Sha.cells w A3 sh
 r4 : Rds 3 Out.cells w A4 os
structure MeO (B : Nat) (w : World) (D0 : Option Addr) (d0 : Nat) (D1 : Option Addr) (d1 : Nat) (D2 : Option Addr) (d2 : Nat) (D3 : Option Addr) (d3 : Nat) (D4 : Option Addr) (d4 : Nat) (rs : List Rul) (qs : List Que) (ws : List Int) (sh : List Sha) (os : List Out) : Prop where
 o0 : OwnV B 48 7 Rul.cells w (.slice D0 rs.length d0) rs
 o1 : OwnV B 46 3 Que.cells w (.slice D1 qs.length d1) qs
 o2 : OwnV B 3 1 intC w (.slice D2 ws.length d2) ws
 o3 : OwnV B 144 3 Sha.cells w (.slice D3 sh.length d3) sh
 o4 : OwnV B 44 3 Out.cells w (.slice D4 os.length d4) os
section
variable {B B' : Nat} {w w' : World} {A0 A1 A2 A3 A4 D0 D1 D2 D3 D4 : Option Addr} {c0 c1 c2 c3 c4 d0 d1 d2 d3 d4 : Nat} {rs : List Rul} {qs : List Que} {ws : List Int} {sh : List Sha} {os : List Out}
theorem MeR.below (h : MeR w A0 A1 A2 A3 A4 rs qs ws sh os) (hb : Below w.heap.size w w') : MeR w' A0 A1 A2 A3 A4 rs qs ws sh os := ⟨h.r0.below hb, h.r1.below hb, h.r2.below hb, h.r3.below hb, h.r4.below hb⟩
theorem MeO.later (h : MeO B w D0 d0 D1 d1 D2 d2 D3 d3 D4 d4 rs qs ws sh os) (hb : Below w.heap.size w w') : MeO B w' D0 d0 D1 d1 D2 d2 D3 d3 D4 d4 rs qs ws sh os := ⟨h.o0.later hb, h.o1.later hb, h.o2.later hb, h.o3.later hb, h.o4.later hb⟩
theorem MeO.base (h : MeO B w D0 d0 D1 d1 D2 d2 D3 d3 D4 d4 rs qs ws sh os) (hb : B' ≤ B) : MeO B' w D0 d0 D1 d1 D2 d2 D3 d3 D4 d4 rs qs ws sh os := ⟨h.o0.base hb, h.o1.base hb, h.o2.base hb, h.o3.base hb, h.o4.base hb⟩
theorem meO_nil : MeO B w none 0 none 0 none 0 none 0 none 0 [] [] [] [] [] := ⟨OwnV.nil, OwnV.nil, OwnV.nil, OwnV.nil, OwnV.nil⟩
theorem out_len (x : Out) : (Out.cells x).length = 3 := rfl
theorem out_one (x : Out) : ∀ u, u ∈ Out.cells x → u.oneCell' = true := by
 intro u hu
 simp only [Out.cells, List.mem_cons, List.not_mem_nil, or_false] at hu
 rcases hu with rfl | rfl | rfl <;> rfl
theorem MeO.rd (h : MeO B w D0 d0 D1 d1 D2 d2 D3 d3 D4 d4 rs qs ws sh os) : MeR w D0 D1 D2 D3 D4 rs qs ws sh os := ⟨h.o0.rds rul_len, h.o1.rds que_len, h.o2.rds intC_len, h.o3.rds sha_len, h.o4.rds out_len⟩
theorem own_cap {T : Type} {sz : Nat} {f : T → List Value} {e : TypeId} {A : Option Addr} {n c : Nat} {xs : List T} (h : OwnV B e sz f w (.slice A n c) xs) (hf : ∀ y, (f y).length = sz) : xs.length ≤ c := by
 exact zb151
theorem MeO.inp (h : MeO B w D0 d0 D1 d1 D2 d2 D3 d3 D4 d4 rs qs ws sh os) (h0 : rs.length ≤ 1048576) (h1 : qs.length ≤ 1048576) (h2 : ws.length ≤ 1048576) (h3 : sh.length ≤ 1048576) (h4 : os.length ≤ 1048576) : MeeIn D0 D1 D2 D3 D4 d0 d1 d2 d3 d4 rs qs ws sh os :=
 ⟨h0, h1, h2, h3, h4, h.o0.nilOk, h.o1.nilOk, h.o2.nilOk, h.o3.nilOk, h.o4.nilOk, own_cap h.o0 rul_len, own_cap h.o1 que_len, own_cap h.o2 intC_len, own_cap h.o3 sha_len, own_cap h.o4 out_len⟩
theorem MeO.apart (h : MeO B w D0 d0 D1 d1 D2 d2 D3 d3 D4 d4 rs qs ws sh os) : Apart [.slice D0 rs.length d0, .slice D1 qs.length d1, .slice D2 ws.length d2, .slice D3 sh.length d3, .slice D4 os.length d4] := by
 unfold Apart
 refine List.Pairwise.cons (fun u hu => ?_) (List.Pairwise.cons (fun u hu => ?_) (List.Pairwise.cons (fun u hu => ?_) (List.Pairwise.cons (fun u hu => ?_) (List.Pairwise.cons (fun u hu => by simp at hu) List.Pairwise.nil))))
 ·simp only [List.mem_cons, List.not_mem_nil, or_false] at hu
  rcases hu with rfl | rfl | rfl | rfl
  ·exact h.o0.apart h.o1 (by decide)
  ·exact h.o0.apart h.o2 (by decide)
  ·exact h.o0.apart h.o3 (by decide)
  ·exact h.o0.apart h.o4 (by decide)
 ·simp only [List.mem_cons, List.not_mem_nil, or_false] at hu
  rcases hu with rfl | rfl | rfl
  ·exact h.o1.apart h.o2 (by decide)
  ·exact h.o1.apart h.o3 (by decide)
  ·exact h.o1.apart h.o4 (by decide)
 ·simp only [List.mem_cons, List.not_mem_nil, or_false] at hu
  rcases hu with rfl | rfl
  ·exact h.o2.apart h.o3 (by decide)
  ·exact h.o2.apart h.o4 (by decide)
 ·simp only [List.mem_cons, List.not_mem_nil, or_false] at hu
  subst hu
  exact h.o3.apart h.o4 (by decide)
end
def nmSp (rs : List Rul) (qs : List Que) (tu se sp : Int) (ws : List Int) (sh : List Sha) (os : List Out) : MkSpec ((Option Addr × Nat) × Option Addr × Nat) where
 par := fun n => match n with
  | 3 => [0]
  | 7 => [4]
  | 14 => [11]
  | _ => []
 val := fun n p => match n with
  | 0 => .slice p.1.1 0 0
  | 3 => .slice p.1.1 rs.length p.1.2
  | 4 => .slice p.1.1 0 0
  | 7 => .slice p.1.1 qs.length p.1.2
  | 10 => .agg #[.int .i64 tu, .int .i64 se, .int .i64 sp, .slice p.1.1 ws.length p.1.2, .slice p.2.1 sh.length p.2.2]
  | 11 => .slice p.1.1 0 0
  | 14 => .slice p.1.1 os.length p.1.2
  | _ => undef
 post := fun n σ p V0 V => match n with
  | 0 => p.1.1 = some ⟨V0.heap.size, 0, none⟩ ∧ Blk V V0.heap.size 48 #[]
  | 3 => ∃ g, (σ 0).1.1 = some ⟨g, 0, none⟩ ∧ OwnV g 48 7 Rul.cells V (.slice p.1.1 rs.length p.1.2) rs
  | 4 => p.1.1 = some ⟨V0.heap.size, 0, none⟩ ∧ Blk V V0.heap.size 46 #[]
  | 7 => ∃ g, (σ 4).1.1 = some ⟨g, 0, none⟩ ∧ OwnV g 46 3 Que.cells V (.slice p.1.1 qs.length p.1.2) qs
  | 10 => FlO V0.heap.size V p.1.1 p.1.2 p.2.1 p.2.2 ws sh
  | 11 => p.1.1 = some ⟨V0.heap.size, 0, none⟩ ∧ Blk V V0.heap.size 44 #[]
  | 14 => ∃ g, (σ 11).1.1 = some ⟨g, 0, none⟩ ∧ OwnV g 44 3 Out.cells V (.slice p.1.1 os.length p.1.2) os
  | _ => True
theorem zb116 {p : Prop} (h : p := by
 change wpList _ _ _ (_ :: []) _ _
 go_wp2
 exact Nrm_mk ⟨((some ⟨k.world.heap.size, 0, none⟩, 0), none, 0), rfl, bl1 _ _, rfl, Blk.new _ _ _⟩) : p := h
theorem zb18 {p : Prop} (h : p := by
 change wpList _ _ _ (_ :: []) _ _
 obtain ⟨U0, U, hU1, ⟨hU2, hU4⟩, hU5⟩ := hpar 0 (by simp [nmSp])
 have hU6 := hU4.to hU5; have hU7 : (σ 0).1.1 = some ⟨U0.heap.size, 0, none⟩ := hU2; have HUR := lh (HR.out.r0.below ((HCC2.out _).1 k.holds).1); have HU6 := lh hU6; clear hU6 hU4 hU2 hU1 hU5 hpar
 rw [hU7]
 have HU7 := lh hU7; clear hU7
 go_wp2_with ((at_builtin; refine wpList_appO rfl _ _ 24 rfl U0.heap.size 48 i0 _ 7 48 Tryz.underlying24 hi hz0 hz1 hz2 rfl (by decide) Rul.cells rul_len rul_one U0.heap.size rfl HU6.out (Nat.le_refl _) A0 c0 rs rfl HUR.out m0 (by unfold maxLen; omega) (by omega) ?_; intro g' c' w' hO' hb'))
 first | exact Nrm_mk ⟨((some ⟨g', 0, none⟩, c'), none, 0), rfl, hb', U0.heap.size, HU7.out, hO'⟩ | exact Nrm_mk ⟨(some ⟨g', 0, none⟩, c'), (none, 0), rfl, hb', U0.heap.size, HU7.out, hO'⟩ | exact Nrm_mk ⟨some ⟨g', 0, none⟩, c', none, 0, rfl, hb', U0.heap.size, HU7.out, hO'⟩) : p := h
theorem zb19 {p : Prop} (h : p := by
 change wpList _ _ _ (_ :: []) _ _
 obtain ⟨U0, U, hU1, ⟨hU2, hU4⟩, hU5⟩ := hpar 4 (by simp [nmSp])
 have hU6 := hU4.to hU5; have hU7 : (σ 4).1.1 = some ⟨U0.heap.size, 0, none⟩ := hU2; have HUR := lh (HR.out.r1.below ((HCC2.out _).1 k.holds).1); have HU6 := lh hU6; clear hU6 hU4 hU2 hU1 hU5 hpar
 rw [hU7]
 have HU7 := lh hU7; clear hU7
 go_wp2_with ((at_builtin; refine wpList_appO rfl _ _ 25 rfl U0.heap.size 46 j0 _ 3 24 Tryz.underlying25 ji jz0 jz1 jz2 rfl (by decide) Que.cells que_len que_one U0.heap.size rfl HU6.out (Nat.le_refl _) A1 c1 qs rfl HUR.out m1 (by unfold maxLen; omega) (by omega) ?_; intro g' c' w' hO' hb'))
 first | exact Nrm_mk ⟨((some ⟨g', 0, none⟩, c'), none, 0), rfl, hb', U0.heap.size, HU7.out, hO'⟩ | exact Nrm_mk ⟨(some ⟨g', 0, none⟩, c'), (none, 0), rfl, hb', U0.heap.size, HU7.out, hO'⟩ | exact Nrm_mk ⟨some ⟨g', 0, none⟩, c', none, 0, rfl, hb', U0.heap.size, HU7.out, hO'⟩) : p := h
theorem zb17 {p : Prop} (h : p := by
 change wpList _ _ _ (_ :: []) _ _
 obtain ⟨U0, U, hU1, ⟨hU2, hU4⟩, hU5⟩ := hpar 11 (by simp [nmSp])
 have hU6 := hU4.to hU5; have hU7 : (σ 11).1.1 = some ⟨U0.heap.size, 0, none⟩ := hU2; have HUR := lh (HR.out.r4.below ((HCC2.out _).1 k.holds).1); have HU6 := lh hU6; clear hU6 hU4 hU2 hU1 hU5 hpar
 rw [hU7]
 have HU7 := lh hU7; clear hU7
 go_wp2_with ((at_builtin; refine wpList_appO rfl _ _ 30 rfl U0.heap.size 44 l0 _ 3 24 Tryz.underlying30 li lz0 lz1 lz2 rfl (by decide) Out.cells out_len out_one U0.heap.size rfl HU6.out (Nat.le_refl _) A4 c4 os rfl HUR.out m4 (by unfold maxLen; omega) (by omega) ?_; intro g' c' w' hO' hb'))
 first | exact Nrm_mk ⟨((some ⟨g', 0, none⟩, c'), none, 0), rfl, hb', U0.heap.size, HU7.out, hO'⟩ | exact Nrm_mk ⟨(some ⟨g', 0, none⟩, c'), (none, 0), rfl, hb', U0.heap.size, HU7.out, hO'⟩ | exact Nrm_mk ⟨some ⟨g', 0, none⟩, c', none, 0, rfl, hb', U0.heap.size, HU7.out, hO'⟩) : p := h
theorem newMee_is (A0 A1 A2 A3 A4 : Option Addr) (c0 c1 c2 c3 c4 : Nat) (rs : List Rul) (qs : List Que) (tu se sp : Int) (ws : List Int) (sh : List Sha) (os : List Out) (Z : MeeIn A0 A1 A2 A3 A4 c0 c1 c2 c3 c4 rs qs ws sh os) (w : World) (R : MeR w A0 A1 A2 A3 A4 rs qs ws sh os) :
 Calls Tryz.prog 74 #[.agg #[.slice A0 rs.length c0, .slice A1 qs.length c1, .int .i64 tu, .int .i64 se, .int .i64 sp, .slice A2 ws.length c2, .slice A3 sh.length c3, .slice A4 os.length c4]] w fun e w' => ∃ D0 d0 D1 d1 D2 d2 D3 d3 D4 d4, e = .returned (.agg #[.slice D0 rs.length d0, .slice D1 qs.length d1, .int .i64 tu, .int .i64 se, .int .i64 sp, .slice D2 ws.length d2, .slice D3 sh.length d3, .slice D4 os.length d4]) ∧ MeO w.heap.size w' D0 d0 D1 d1 D2 d2 D3 d3 D4 d4 rs qs ws sh os ∧ Below w.heap.size w w' := by
 obtain ⟨i0, hi, hz0, hz1, hz2⟩ := info_parts info_Rul
 obtain ⟨j0, ji, jz0, jz1, jz2⟩ := info_parts info_Que
 obtain ⟨l0, li, lz0, lz1, lz2⟩ := info_parts info_Out
 have HR := lh R; have HZ := lh Z; have b0 := Z.h0; have b1 := Z.h1; have b4 := Z.h4; have m0 := Z.n0; have m1 := Z.n1; have m4 := Z.n4; clear R Z
 go_in
 go_upto_region 1 with fail
 refine lay2 fun wX hq1 hF hZ => ?_
 have HB := hq1; have f' := hF.cs8; have z' := hZ.cs8; have hz0' := hZ.lt
 obtain ⟨CC2, hCC2⟩ : ∃ X : World → Prop, ∀ V, X V ↔ (Below w.heap.size w V ∧ Blk V (w.heap.size) 32 #[.slice A0 rs.length c0, .slice A1 qs.length c1, .int .i64 tu, .int .i64 se, .int .i64 sp, .slice A2 ws.length c2, .slice A3 sh.length c3, .slice A4 os.length c4]) := ⟨_, fun _ => Iff.rfl⟩
 have HCC2 := lh hCC2; clear hCC2
 haveI : Nonempty (Hld CC2) := ⟨⟨wX, ((HCC2.out _).2 ⟨HB, hF⟩)⟩⟩
 clear f'; clear z'; have f' := Blk.cs8K (fun K : Hld CC2 => ((HCC2.out _).1 K.holds).2)
 go_wp2
 refine wp_region_mk (nmSp rs qs tu se sp ws sh os) CC2 [([], 0), ([1, 2], 3), ([], 4), ([5, 6], 7), ([8, 9], 10), ([], 11), ([12, 13], 14)] [15] [([], 16)] [] (by kernel_rfl) (by kernel_rfl) ((HCC2.out _).2 ⟨HB.drew, hF⟩) (fun W W' h k => ((HCC2.out _).2 ⟨((HCC2.out _).1 h).1.trans (k.mono ((HCC2.out _).1 h).1.size), ((HCC2.out _).1 h).2.below k ((HCC2.out _).1 h).2.lt⟩)) ?_
 intro σ
 refine wpMk1_cons (some 3) rfl (.slice (σ 0).1.1 0 0) rfl fun K1 hK1 => ?_
 change wpQuiet _ _ _ _ ([]) _
 refine wpQuiet_nil ?_
 refine ⟨fun k hpar => ?_, hK1 _ ?_⟩
 ·exact zb116
 simp only [Act.put]
 go_simp
 refine wpMk1_cons (some 6) rfl (.slice (σ 3).1.1 rs.length (σ 3).1.2) rfl fun K1 hK1 => ?_
 change wpQuiet _ _ _ _ (_ :: _ :: []) _
 repeat (go_big_quiet_step (fail))
 refine wpQuiet_nil ?_
 refine ⟨fun k hpar => ?_, hK1 _ ?_⟩
 ·exact zb18
 simp only [Act.put]
 go_simp
 refine wpMk1_cons (some 7) rfl (.slice (σ 4).1.1 0 0) rfl fun K1 hK1 => ?_
 change wpQuiet _ _ _ _ ([]) _
 refine wpQuiet_nil ?_
 refine ⟨fun k hpar => ?_, hK1 _ ?_⟩
 ·exact zb116
 simp only [Act.put]
 go_simp
 refine wpMk1_cons (some 10) rfl (.slice (σ 7).1.1 qs.length (σ 7).1.2) rfl fun K1 hK1 => ?_
 change wpQuiet _ _ _ _ (_ :: _ :: []) _
 repeat (go_big_quiet_step (fail))
 refine wpQuiet_nil ?_
 refine ⟨fun k hpar => ?_, hK1 _ ?_⟩
 ·exact zb19
 simp only [Act.put]
 go_simp
 refine wpMk1_cons (some 13) rfl (.agg #[.int .i64 tu, .int .i64 se, .int .i64 sp, .slice (σ 10).1.1 ws.length (σ 10).1.2, .slice (σ 10).2.1 sh.length (σ 10).2.2]) rfl fun K1 hK1 => ?_
 change wpQuiet _ _ _ _ (_ :: _ :: []) _
 repeat (go_big_quiet_step (fail))
 refine wpQuiet_nil ?_
 refine ⟨fun k hpar => ?_, hK1 _ ?_⟩
 ·change wpList _ _ _ (_ :: []) _ _
  go_wp2_with fail
  refine (newFloor_is tu se sp A2 c2 ws A3 c3 sh HZ.out.h2 HZ.out.h3 HZ.out.n2 HZ.out.n3 _ (HR.out.r2.below ((HCC2.out _).1 k.holds).1) (HR.out.r3.below ((HCC2.out _).1 k.holds).1)).mono ?_
  rintro e w9 ⟨D2, d2, g3, d3, rfl, OO, hb9⟩
  go_wp2
  exact Nrm_mk ⟨((D2, d2), some ⟨g3, 0, none⟩, d3), rfl, hb9, OO⟩
 simp only [Act.put]
 go_simp
 refine wpMk1_cons (some 14) rfl (.slice (σ 11).1.1 0 0) rfl fun K1 hK1 => ?_
 change wpQuiet _ _ _ _ ([]) _
 refine wpQuiet_nil ?_
 refine ⟨fun k hpar => ?_, hK1 _ ?_⟩
 ·exact zb116
 simp only [Act.put]
 go_simp
 refine wpMk1_cons (some 17) rfl (.slice (σ 14).1.1 os.length (σ 14).1.2) rfl fun K1 hK1 => ?_
 change wpQuiet _ _ _ _ (_ :: _ :: []) _
 repeat (go_big_quiet_step (fail))
 refine wpQuiet_nil ?_
 refine ⟨fun k hpar => ?_, hK1 _ ?_⟩
 ·exact zb17
 simp only [Act.put]
 go_simp
 refine wpMk1_last ?_
 change wpQuiet _ _ _ _ (_ :: []) _
 repeat (go_big_quiet_step (fail))
 refine wpQuiet_nil ?_
 intro V0 V W hM hW
 obtain ⟨g3, e3, q3⟩ : ∃ g, (σ 0).1.1 = some ⟨g, 0, none⟩ ∧ OwnV g 48 7 Rul.cells (V 3) (.slice (σ 3).1.1 rs.length (σ 3).1.2) rs := hM.post 3 (by simp)
 obtain ⟨a3, _⟩ : (σ 0).1.1 = some ⟨(V0 0).heap.size, 0, none⟩ ∧ Blk (V 0) (V0 0).heap.size 48 #[] := hM.post 0 (by simp)
 have s3 : (V0 0).heap.size = g3 := by rw [a3] at e3; exact congrArg Addr.block (Option.some.inj e3)
 have O0 := (q3.later (hM.later 3 (by simp))).base (B' := wX.heap.size) (by rw [← s3]; exact (hM.from0 0 (by simp)).size)
 obtain ⟨g7, e7, q7⟩ : ∃ g, (σ 4).1.1 = some ⟨g, 0, none⟩ ∧ OwnV g 46 3 Que.cells (V 7) (.slice (σ 7).1.1 qs.length (σ 7).1.2) qs := hM.post 7 (by simp)
 obtain ⟨a7, _⟩ : (σ 4).1.1 = some ⟨(V0 4).heap.size, 0, none⟩ ∧ Blk (V 4) (V0 4).heap.size 46 #[] := hM.post 4 (by simp)
 have s7 : (V0 4).heap.size = g7 := by rw [a7] at e7; exact congrArg Addr.block (Option.some.inj e7)
 have O1 := (q7.later (hM.later 7 (by simp))).base (B' := wX.heap.size) (by rw [← s7]; exact (hM.from0 4 (by simp)).size)
 obtain ⟨g14, e14, q14⟩ : ∃ g, (σ 11).1.1 = some ⟨g, 0, none⟩ ∧ OwnV g 44 3 Out.cells (V 14) (.slice (σ 14).1.1 os.length (σ 14).1.2) os := hM.post 14 (by simp)
 obtain ⟨a14, _⟩ : (σ 11).1.1 = some ⟨(V0 11).heap.size, 0, none⟩ ∧ Blk (V 11) (V0 11).heap.size 44 #[] := hM.post 11 (by simp)
 have s14 : (V0 11).heap.size = g14 := by rw [a14] at e14; exact congrArg Addr.block (Option.some.inj e14)
 have O4 := (q14.later (hM.later 14 (by simp))).base (B' := wX.heap.size) (by rw [← s14]; exact (hM.from0 11 (by simp)).size); have q10 : FlO (V0 10).heap.size (V 10) (σ 10).1.1 (σ 10).1.2 (σ 10).2.1 (σ 10).2.2 ws sh := hM.post 10 (by simp); have OO := (q10.later (hM.later 10 (by simp))).base (B' := wX.heap.size) (hM.from0 10 (by simp)).size; clear f'; have hq3 : Below wX.heap.size wX W := bth bel (hM.whole 10 (by simp)).undrew
 replace HB := bth HB hq3; replace hF := hF.to hq3; replace hZ := hZ.to hq3; have z' := hZ.cs8; clear hM q10 q3 q7 q14 a3 a7 a14 e3 e7 e14 s3 s7 s14 hW m0 m1 m4
 generalize σ 3 = p0 at *
 generalize σ 7 = p1 at *
 generalize σ 10 = p2 at *
 generalize σ 14 = p4 at *
 obtain ⟨⟨D0, d0⟩, _, _⟩ := p0
 obtain ⟨⟨D1, d1⟩, _, _⟩ := p1
 obtain ⟨⟨D2, d2⟩, D3, d3⟩ := p2
 obtain ⟨⟨D4, d4⟩, _, _⟩ := p4
 simp only at O0 O1 O4 OO
 have O2 := OO.o2; have O3 := OO.o3; clear OO
 refine wpMix_cons fun K2 hK2 => ?_
 change wpQuiet _ _ _ _ ([]) _
 refine wpQuiet_nil ?_
 change wpList _ _ _ (_ :: []) _ _
 have fhZ' := hZ.fz8
 go_wp2
 clear z'
 refine st8 0 fun W9 tW9 => ?_
 replace HB := tW9.hc HB; replace hF := tW9.fa hF; replace hZ := tW9.all8 hZ; replace O0 := O0.keptS tW9 (fun k hk => by first | exact neO0 k hk | (have := O0.lt k hk; omega)); replace O1 := O1.keptS tW9 (fun k hk => by first | exact neO1 k hk | (have := O1.lt k hk; omega)); replace O2 := O2.keptS tW9 (fun k hk => by first | exact neO2 k hk | (have := O2.lt k hk; omega)); replace O3 := O3.keptS tW9 (fun k hk => by first | exact neO3 k hk | (have := O3.lt k hk; omega))
 replace O4 := O4.keptS tW9 (fun k hk => by first | exact neO4 k hk | (have := O4.lt k hk; omega)); have z' := hZ.cs8
 refine Nrm_intro (((HCC2.out _).2 ⟨HB, hF⟩)) (hK2 _ _ ?_)
 refine wpMix_last ?_
 change wpQuiet _ _ _ _ ([]) _
 refine wpQuiet_nil ?_
 go_wp2
 exact brt ⟨D0, d0, D1, d1, D2, d2, D3, d3, D4, d4, rfl, ⟨O0.base (by omega), O1.base (by omega), O2.base (by omega), O3.base (by omega), O4.base (by omega)⟩, HB⟩ (by simp [results, Tryz.results74, go_sem, z'])
theorem l25Own_is (A0 A1 A2 A3 A4 : Option Addr) (c0 c1 c2 c3 c4 : Nat) (rs : List Rul) (qs : List Que) (tu se sp : Int) (ws : List Int) (sh : List Sha) (os : List Out) (Z : MeeIn A0 A1 A2 A3 A4 c0 c1 c2 c3 c4 rs qs ws sh os) (w : World) (R : MeR w A0 A1 A2 A3 A4 rs qs ws sh os) :
 Calls Tryz.prog 75 #[.agg #[.slice A0 rs.length c0, .slice A1 qs.length c1, .int .i64 tu, .int .i64 se, .int .i64 sp, .slice A2 ws.length c2, .slice A3 sh.length c3, .slice A4 os.length c4]] w fun e w' => ∃ D0 d0 D1 d1 D2 d2 D3 d3 D4 d4, e = .returned (.agg #[.slice D0 rs.length d0, .slice D1 qs.length d1, .int .i64 tu, .int .i64 se, .int .i64 sp, .slice D2 ws.length d2, .slice D3 sh.length d3, .slice D4 os.length d4]) ∧ MeO w.heap.size w' D0 d0 D1 d1 D2 d2 D3 d3 D4 d4 rs qs ws sh os ∧ Below w.heap.size w w' := by
 obtain ⟨i0, hi, hz0, hz1, hz2⟩ := info_parts info_Rul
 obtain ⟨j0, ji, jz0, jz1, jz2⟩ := info_parts info_Que
 obtain ⟨l0, li, lz0, lz1, lz2⟩ := info_parts info_Out
 have HR := lh R; have HZ := lh Z; have b0 := Z.h0; have b1 := Z.h1; have b4 := Z.h4; have m0 := Z.n0; have m1 := Z.n1; have m4 := Z.n4; clear R Z
 go_in
 go_upto_region 1 with fail
 refine lay2 fun wX hq1 hF hZ => ?_
 have HB := hq1; have f' := hF.cs8; have z' := hZ.cs8; have hz0' := hZ.lt
 obtain ⟨CC2, hCC2⟩ : ∃ X : World → Prop, ∀ V, X V ↔ (Below w.heap.size w V ∧ Blk V (w.heap.size) 32 #[.slice A0 rs.length c0, .slice A1 qs.length c1, .int .i64 tu, .int .i64 se, .int .i64 sp, .slice A2 ws.length c2, .slice A3 sh.length c3, .slice A4 os.length c4]) := ⟨_, fun _ => Iff.rfl⟩
 have HCC2 := lh hCC2; clear hCC2
 haveI : Nonempty (Hld CC2) := ⟨⟨wX, ((HCC2.out _).2 ⟨HB, hF⟩)⟩⟩
 clear f'; clear z'; have f' := Blk.cs8K (fun K : Hld CC2 => ((HCC2.out _).1 K.holds).2)
 go_wp2
 refine wp_region_mk (nmSp rs qs tu se sp ws sh os) CC2 [([], 0), ([1, 2], 3), ([], 4), ([5, 6], 7), ([8, 9], 10), ([], 11), ([12, 13], 14)] [15] [([], 16)] [] (by kernel_rfl) (by kernel_rfl) ((HCC2.out _).2 ⟨HB.drew, hF⟩) (fun W W' h k => ((HCC2.out _).2 ⟨((HCC2.out _).1 h).1.trans (k.mono ((HCC2.out _).1 h).1.size), ((HCC2.out _).1 h).2.below k ((HCC2.out _).1 h).2.lt⟩)) ?_
 intro σ
 refine wpMk1_cons (some 3) rfl (.slice (σ 0).1.1 0 0) rfl fun K1 hK1 => ?_
 change wpQuiet _ _ _ _ ([]) _
 refine wpQuiet_nil ?_
 refine ⟨fun k hpar => ?_, hK1 _ ?_⟩
 ·exact zb116
 simp only [Act.put]
 go_simp
 refine wpMk1_cons (some 6) rfl (.slice (σ 3).1.1 rs.length (σ 3).1.2) rfl fun K1 hK1 => ?_
 change wpQuiet _ _ _ _ (_ :: _ :: []) _
 repeat (go_big_quiet_step (fail))
 refine wpQuiet_nil ?_
 refine ⟨fun k hpar => ?_, hK1 _ ?_⟩
 ·exact zb18
 simp only [Act.put]
 go_simp
 refine wpMk1_cons (some 7) rfl (.slice (σ 4).1.1 0 0) rfl fun K1 hK1 => ?_
 change wpQuiet _ _ _ _ ([]) _
 refine wpQuiet_nil ?_
 refine ⟨fun k hpar => ?_, hK1 _ ?_⟩
 ·exact zb116
 simp only [Act.put]
 go_simp
 refine wpMk1_cons (some 10) rfl (.slice (σ 7).1.1 qs.length (σ 7).1.2) rfl fun K1 hK1 => ?_
 change wpQuiet _ _ _ _ (_ :: _ :: []) _
 repeat (go_big_quiet_step (fail))
 refine wpQuiet_nil ?_
 refine ⟨fun k hpar => ?_, hK1 _ ?_⟩
 ·exact zb19
 simp only [Act.put]
 go_simp
 refine wpMk1_cons (some 13) rfl (.agg #[.int .i64 tu, .int .i64 se, .int .i64 sp, .slice (σ 10).1.1 ws.length (σ 10).1.2, .slice (σ 10).2.1 sh.length (σ 10).2.2]) rfl fun K1 hK1 => ?_
 change wpQuiet _ _ _ _ (_ :: _ :: []) _
 repeat (go_big_quiet_step (fail))
 refine wpQuiet_nil ?_
 refine ⟨fun k hpar => ?_, hK1 _ ?_⟩
 ·change wpList _ _ _ (_ :: []) _ _
  go_wp2_with fail
  refine (l8Own_is tu se sp A2 c2 ws A3 c3 sh HZ.out.h2 HZ.out.h3 HZ.out.n2 HZ.out.n3 _ (HR.out.r2.below ((HCC2.out _).1 k.holds).1) (HR.out.r3.below ((HCC2.out _).1 k.holds).1)).mono ?_
  rintro e w9 ⟨D2, d2, D3, d3, rfl, OO, hb9⟩
  go_wp2
  exact Nrm_mk ⟨((D2, d2), D3, d3), rfl, hb9, OO⟩
 simp only [Act.put]
 go_simp
 refine wpMk1_cons (some 14) rfl (.slice (σ 11).1.1 0 0) rfl fun K1 hK1 => ?_
 change wpQuiet _ _ _ _ ([]) _
 refine wpQuiet_nil ?_
 refine ⟨fun k hpar => ?_, hK1 _ ?_⟩
 ·exact zb116
 simp only [Act.put]
 go_simp
 refine wpMk1_cons (some 17) rfl (.slice (σ 14).1.1 os.length (σ 14).1.2) rfl fun K1 hK1 => ?_
 change wpQuiet _ _ _ _ (_ :: _ :: []) _
 repeat (go_big_quiet_step (fail))
 refine wpQuiet_nil ?_
 refine ⟨fun k hpar => ?_, hK1 _ ?_⟩
 ·exact zb17
 simp only [Act.put]
 go_simp
 refine wpMk1_last ?_
 change wpQuiet _ _ _ _ (_ :: []) _
 repeat (go_big_quiet_step (fail))
 refine wpQuiet_nil ?_
 intro V0 V W hM hW
 obtain ⟨g3, e3, q3⟩ : ∃ g, (σ 0).1.1 = some ⟨g, 0, none⟩ ∧ OwnV g 48 7 Rul.cells (V 3) (.slice (σ 3).1.1 rs.length (σ 3).1.2) rs := hM.post 3 (by simp)
 obtain ⟨a3, _⟩ : (σ 0).1.1 = some ⟨(V0 0).heap.size, 0, none⟩ ∧ Blk (V 0) (V0 0).heap.size 48 #[] := hM.post 0 (by simp)
 have s3 : (V0 0).heap.size = g3 := by rw [a3] at e3; exact congrArg Addr.block (Option.some.inj e3)
 have O0 := (q3.later (hM.later 3 (by simp))).base (B' := wX.heap.size) (by rw [← s3]; exact (hM.from0 0 (by simp)).size)
 obtain ⟨g7, e7, q7⟩ : ∃ g, (σ 4).1.1 = some ⟨g, 0, none⟩ ∧ OwnV g 46 3 Que.cells (V 7) (.slice (σ 7).1.1 qs.length (σ 7).1.2) qs := hM.post 7 (by simp)
 obtain ⟨a7, _⟩ : (σ 4).1.1 = some ⟨(V0 4).heap.size, 0, none⟩ ∧ Blk (V 4) (V0 4).heap.size 46 #[] := hM.post 4 (by simp)
 have s7 : (V0 4).heap.size = g7 := by rw [a7] at e7; exact congrArg Addr.block (Option.some.inj e7)
 have O1 := (q7.later (hM.later 7 (by simp))).base (B' := wX.heap.size) (by rw [← s7]; exact (hM.from0 4 (by simp)).size)
 obtain ⟨g14, e14, q14⟩ : ∃ g, (σ 11).1.1 = some ⟨g, 0, none⟩ ∧ OwnV g 44 3 Out.cells (V 14) (.slice (σ 14).1.1 os.length (σ 14).1.2) os := hM.post 14 (by simp)
 obtain ⟨a14, _⟩ : (σ 11).1.1 = some ⟨(V0 11).heap.size, 0, none⟩ ∧ Blk (V 11) (V0 11).heap.size 44 #[] := hM.post 11 (by simp)
 have s14 : (V0 11).heap.size = g14 := by rw [a14] at e14; exact congrArg Addr.block (Option.some.inj e14)
 have O4 := (q14.later (hM.later 14 (by simp))).base (B' := wX.heap.size) (by rw [← s14]; exact (hM.from0 11 (by simp)).size); have q10 : FlO (V0 10).heap.size (V 10) (σ 10).1.1 (σ 10).1.2 (σ 10).2.1 (σ 10).2.2 ws sh := hM.post 10 (by simp); have OO := (q10.later (hM.later 10 (by simp))).base (B' := wX.heap.size) (hM.from0 10 (by simp)).size; clear f'; have hq3 : Below wX.heap.size wX W := bth bel (hM.whole 10 (by simp)).undrew
 replace HB := bth HB hq3; replace hF := hF.to hq3; replace hZ := hZ.to hq3; have z' := hZ.cs8; clear hM q10 q3 q7 q14 a3 a7 a14 e3 e7 e14 s3 s7 s14 hW m0 m1 m4
 generalize σ 3 = p0 at *
 generalize σ 7 = p1 at *
 generalize σ 10 = p2 at *
 generalize σ 14 = p4 at *
 obtain ⟨⟨D0, d0⟩, _, _⟩ := p0
 obtain ⟨⟨D1, d1⟩, _, _⟩ := p1
 obtain ⟨⟨D2, d2⟩, D3, d3⟩ := p2
 obtain ⟨⟨D4, d4⟩, _, _⟩ := p4
 simp only at O0 O1 O4 OO
 have O2 := OO.o2; have O3 := OO.o3; clear OO
 refine wpMix_cons fun K2 hK2 => ?_
 change wpQuiet _ _ _ _ ([]) _
 refine wpQuiet_nil ?_
 change wpList _ _ _ (_ :: []) _ _
 have fhZ' := hZ.fz8
 go_wp2
 clear z'
 refine st8 0 fun W9 tW9 => ?_
 replace HB := tW9.hc HB; replace hF := tW9.fa hF; replace hZ := tW9.all8 hZ; replace O0 := O0.keptS tW9 (fun k hk => by first | exact neO0 k hk | (have := O0.lt k hk; omega)); replace O1 := O1.keptS tW9 (fun k hk => by first | exact neO1 k hk | (have := O1.lt k hk; omega)); replace O2 := O2.keptS tW9 (fun k hk => by first | exact neO2 k hk | (have := O2.lt k hk; omega)); replace O3 := O3.keptS tW9 (fun k hk => by first | exact neO3 k hk | (have := O3.lt k hk; omega))
 replace O4 := O4.keptS tW9 (fun k hk => by first | exact neO4 k hk | (have := O4.lt k hk; omega)); have z' := hZ.cs8
 refine Nrm_intro (((HCC2.out _).2 ⟨HB, hF⟩)) (hK2 _ _ ?_)
 refine wpMix_last ?_
 change wpQuiet _ _ _ _ ([]) _
 refine wpQuiet_nil ?_
 go_wp2
 exact brt ⟨D0, d0, D1, d1, D2, d2, D3, d3, D4, d4, rfl, ⟨O0.base (by omega), O1.base (by omega), O2.base (by omega), O3.base (by omega), O4.base (by omega)⟩, HB⟩ (by simp [results, Tryz.results75, go_sem, z'])
end Go.Proofs.YtjimibkgocieoaaGreat
