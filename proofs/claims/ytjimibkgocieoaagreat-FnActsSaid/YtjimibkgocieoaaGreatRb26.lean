/- Texts of the proof: walks of the functions, and what they compute. -/
import Derived.Test.YtjimibkgocieoaaGreatRb25
import Derived.Test.YtjimibkgocieoaaGreatRb16
import Derived.Test.YtjimibkgocieoaaGreatRb18
import Derived.Test.YtjimibkgocieoaaGreatRb0
import Derived.Test.YtjimibkgocieoaaGreatRb24
import Derived.Test.YtjimibkgocieoaaGreatRb23
set_option maxHeartbeats 16000000
set_option maxRecDepth 100000
namespace Go.Proofs.YtjimibkgocieoaaGreat
open Go.RowKit Go.G9
theorem stR {Q : World → Prop} {B g n c k : Nat} {w : World} {xs : List Rul} {id : Int} {nm : ByteArray} {rk : Int} {sc db am : Bool} {nd : Int} {hok : nm.size ≤ maxLen} (v : Int) (hO : OwnV B 48 7 Rul.cells w (.slice (some ⟨g, 0, none⟩) n c) xs) (hx : xs[k]? = some ⟨id, nm, rk, sc, db, am, nd, hok⟩)
  (h : ∀ W, w.grownBy W (some g) → OwnV B 48 7 Rul.cells W (.slice (some ⟨g, 0, none⟩) n c) (xs.set k ⟨id, nm, v, sc, db, am, nd, hok⟩) → Q W) : Q (((((((w.setCell ⟨g, k * 7, none⟩ (.int .i64 id)).setCell ⟨g, k * 7 + 1, none⟩ (.string nm)).setCell ⟨g, k * 7 + 2, none⟩ (.int .i64 v)).setCell ⟨g, k * 7 + 3, none⟩ (.bool sc)).setCell ⟨g, k * 7 + 4, none⟩ (.bool db)).setCell ⟨g, k * 7 + 5, none⟩ (.bool am)).setCell ⟨g, k * 7 + 6, none⟩ (.int .i64 nd)) := by
 have hk := (List.getElem?_eq_some_iff.1 hx).1; have h0 := own_set hO rul_len' hx (i := 0) (by decide) (y := ⟨id, nm, rk, sc, db, am, nd, hok⟩) (u := .int .i64 id) rfl
 rw [set_same hx] at h0
 have h1 := own_set h0 rul_len' hx (i := 1) (by decide) (y := ⟨id, nm, rk, sc, db, am, nd, hok⟩) (u := .string nm) rfl
 rw [set_same hx] at h1
 have h2 := own_set h1 rul_len' hx (i := 2) (by decide) (y := ⟨id, nm, v, sc, db, am, nd, hok⟩) (u := .int .i64 v) rfl; have hy : (xs.set k (⟨id, nm, v, sc, db, am, nd, hok⟩ : Rul))[k]? = some ⟨id, nm, v, sc, db, am, nd, hok⟩ := List.getElem?_set_self hk; have h3 := own_set h2 rul_len' hy (i := 3) (by decide) (y := ⟨id, nm, v, sc, db, am, nd, hok⟩) (u := .bool sc) rfl
 rw [set_same hy] at h3
 have h4 := own_set h3 rul_len' hy (i := 4) (by decide) (y := ⟨id, nm, v, sc, db, am, nd, hok⟩) (u := .bool db) rfl
 rw [set_same hy] at h4
 have h5 := own_set h4 rul_len' hy (i := 5) (by decide) (y := ⟨id, nm, v, sc, db, am, nd, hok⟩) (u := .bool am) rfl
 rw [set_same hy] at h5
 have h6 := own_set h5 rul_len' hy (i := 6) (by decide) (y := ⟨id, nm, v, sc, db, am, nd, hok⟩) (u := .int .i64 nd) rfl
 rw [set_same hy] at h6
 exact h _ (grown_set (grown_set (grown_set (grown_set (grown_set (grown_set (grown_set (grown_refl w (some g)) _) _) _) _) _) _) _) h6
theorem zb140 {p : Prop} (h : p := by
 go_wp2
 go_ret
 have hln := HLN.out
 subst hln
 exact ⟨xs, g, y, rfl, hl, HN.out, hO, hC.mono (by omega), HG⟩) : p := h
theorem ladder_is (p : Nat) (A : Option Addr) (c : Nat) (cs : List UInt8) (hcs : cs.length ≤ 1048576) (N : Nat) (hN : N ≤ 400000) (w : World) (hC : Cur w p A c cs N) :
 Calls Tryz.prog 66 #[.pointer (some ⟨p, 0, none⟩)] w fun e w' => ∃ (xs : List Rul) (g y : Nat), e = .returned (.slice (some ⟨g, 0, none⟩) xs.length y) ∧ xs.length ≤ 12 ∧ (∀ t ∈ xs, t.name.size ≤ 12) ∧ OwnV w.heap.size 48 7 Rul.cells w' (.slice (some ⟨g, 0, none⟩) xs.length y) xs ∧ Stepped w w' p A c cs (N + 700) := by
 go_in
 have hp := hC.lt; have HG := grown_refl w (some p)
 go_wp2_with fail
 refine (rules_is p A c cs hcs N (by omega) _ (hC.later bel)).mono ?_
 rintro e w1 ⟨xs, g, y, rfl, hl, hn, hO, hS1⟩
 have hg1 : w.grownBy w1 (some p) := grown_tr (bgr bel _) hS1.2; replace hC := hS1.1; have sz1 := hg1.size; replace HG := grown_tr HG hg1
 obtain ⟨n, hln⟩ : ∃ n, n = xs.length := ⟨_, rfl⟩
 rw [← hln] at hO hl
 rw [← hln]
 have HLN := lh hln.symm; have HN := lh hn; clear hln hn
 go_wp2
 go_loopw [4] (fun i wr => ∃ (k : Nat) (xs : List Rul), i = .int .i64 (k : Int) ∧ k ≤ n ∧ Hid (xs.length = n) ∧ (∀ t ∈ xs, t.name.size ≤ 12) ∧ OwnV w.heap.size 48 7 Rul.cells wr (.slice (some ⟨g, 0, none⟩) n y) xs ∧ Cur wr p A c cs (N + 610 + 4 * k) ∧ w.grownBy wr (some p)) (fun i _ => n - (intOf i).toNat)
 case atStart => exact ⟨0, xs, rfl, Nat.zero_le _, HLN, HN.out, hO, hC.mono (by omega), HG⟩
 case round =>
  clear hC hO HG HN HLN
  obtain ⟨k, xs, rfl, hk, HLN, hn, hO, hC, HG⟩ := hrel
  have HN := lh hn; clear hn
  by_cases hlt : k < n
  ·have hlt' : decide ((k : Int) < (n : Int)) = true := decide_eq_true (by omega)
   go_wp2_with fail
   refine (one_is 2 p A c cs hcs (N + 610 + 4 * k) (by omega) (by omega) _ (hC.later bel)).mono ?_
   rintro e w2 ⟨b, rfl, hS2⟩
   have hg2 : wr.grownBy w2 (some p) := grown_tr (bgr bel _) hS2.2; replace hC := hS2.1; have sz2 := hg2.size; replace HG := grown_tr HG hg2; replace hO := hO.kept hg2 (fun k hk e => by have h1 := (hO.lt k hk); have h2 : k = p := (Option.some.inj e); omega)
   cases b
   ·exact zb140
   ·have hkx : k < xs.length := by have := HLN.out; omega
    obtain ⟨⟨id, nm, rk, sc, db, am, nd, hok⟩, hx⟩ : ∃ x, xs[k]? = some x := ⟨_, List.getElem?_eq_getElem hkx⟩
    have q0 := own_cellq hO rul_len' hx (i := 0) (u := .int .i64 id) rfl; have q1 := own_cellq hO rul_len' hx (i := 1) (u := .string nm) rfl; have q2 := own_cellq hO rul_len' hx (i := 2) (u := .int .i64 rk) rfl; have q3 := own_cellq hO rul_len' hx (i := 3) (u := .bool sc) rfl; have q4 := own_cellq hO rul_len' hx (i := 4) (u := .bool db) rfl; have q5 := own_cellq hO rul_len' hx (i := 5) (u := .bool am) rfl
    have q6 := own_cellq hO rul_len' hx (i := 6) (u := .int .i64 nd) rfl
    simp only [Nat.add_zero] at q0
    have HX := lh hx; clear hx
    go_upto_region 6 with fail
    clear q0 q1 q2 q3 q4 q5 q6; have hgl := hO.lt g rfl; have hb3 : Below w2.heap.size w2 (World.alloc w2 (.cells #[.int .i64 id, .string nm, .int .i64 rk, .bool sc, .bool db, .bool am, .int .i64 nd] 48)) := bl1 w2 _
    have hB : Blk (World.alloc w2 (.cells #[.int .i64 id, .string nm, .int .i64 rk, .bool sc, .bool db, .bool am, .int .i64 nd] 48)) (w2.heap.size) 48 #[.int .i64 id, .string nm, .int .i64 rk, .bool sc, .bool db, .bool am, .int .i64 nd] := by repeat (first | exact Blk.new _ _ _ | exact Blk.new2 _ _ _ _ | exact Blk.new3 _ _ _ _ _ | exact Blk.new4 _ _ _ _ _ _ | refine Blk.alloc ?_ _)
    generalize World.alloc w2 (.cells #[.int .i64 id, .string nm, .int .i64 rk, .bool sc, .bool db, .bool am, .int .i64 nd] 48) = wB at *
    replace hC := hC.later hb3; replace HG := grown_tr HG (bgr hb3 (some p)); replace hO := hO.kept (bgr hb3 (some p)) (fun k hk e => by have h1 := (hO.lt k hk); have h2 : k = p := (Option.some.inj e); omega); have sz3 := hb3.size; have LhB := hB.lt; have b' := hB.cs7
    obtain ⟨v, hv⟩ : ∃ v, v = if (9 : Int) < (k : Int) then 9 else (k : Int) := ⟨_, rfl⟩
    go_wp2_with fail
    refine (l1Least_is 9 (k : Int) v hv _).mono ?_
    rintro e w0 ⟨rfl, h0⟩
    rw [h0]
    clear h0 w0; clear hv; have fhB2 := hB.frozen 2; have yhB := hB.lt
    have nehO : ∀ q, (Value.slice (some ⟨g, 0, none⟩) n y).ownBlock = some q → ¬ q = w2.heap.size := fun q hq => by have h1 : g = q := Option.some.inj hq; omega
    go_upto_region 7 with fail
    clear fhB2; clear b'; replace HG : w.grownBy (World.setCell wB ⟨w2.heap.size, 2, none⟩ (.int .i64 v)) (some p) := (grown_store HG (g := w2.heap.size) (by omega) 2 (.int .i64 v)); replace hC := (hC.store (g := w2.heap.size) (by omega) 2 (.int .i64 v)); replace hB : Blk (World.setCell wB ⟨w2.heap.size, 2, none⟩ (.int .i64 v)) (w2.heap.size) 48 #[.int .i64 id, .string nm, .int .i64 v, .bool sc, .bool db, .bool am, .int .i64 nd] := (hB.set_ 2 (.int .i64 v))
    replace hO := hO.kept (grown_set (j := 2) (grown_refl wB (some (w2.heap.size))) (.int .i64 v)) (fun k hk e => by have h1 := (hO.lt k hk); have h2 : k = w2.heap.size := (Option.some.inj e); first | omega | exact absurd h2 (nehO k hk))
    generalize World.setCell wB ⟨w2.heap.size, 2, none⟩ (.int .i64 v) = wC at *
    have b' := hB.cs7; have hx := HX.out; have q0 := own_cellq hO rul_len' hx (i := 0) (u := .int .i64 id) rfl; have q1 := own_cellq hO rul_len' hx (i := 1) (u := .string nm) rfl; have q2 := own_cellq hO rul_len' hx (i := 2) (u := .int .i64 rk) rfl; have q3 := own_cellq hO rul_len' hx (i := 3) (u := .bool sc) rfl; have q4 := own_cellq hO rul_len' hx (i := 4) (u := .bool db) rfl; have q5 := own_cellq hO rul_len' hx (i := 5) (u := .bool am) rfl
    have q6 := own_cellq hO rul_len' hx (i := 6) (u := .int .i64 nd) rfl; have r0 := own_free hO rul_len' hkx (i := 0) (by decide); have r1 := own_free hO rul_len' hkx (i := 1) (by decide); have r2 := own_free hO rul_len' hkx (i := 2) (by decide); have r3 := own_free hO rul_len' hkx (i := 3) (by decide); have r4 := own_free hO rul_len' hkx (i := 4) (by decide); have r5 := own_free hO rul_len' hkx (i := 5) (by decide)
    have r6 := own_free hO rul_len' hkx (i := 6) (by decide)
    simp only [Nat.add_zero] at q0 r0
    have hgl2 := hO.lt g rfl; clear hx
    go_upto_region 4 with fail
    clear b' q0 q1 q2 q3 q4 q5 q6 r0 r1 r2 r3 r4 r5 r6
    refine stR v hO HX.out fun W hgW hO2 => ?_
    replace hC := hC.row hgW (fun q e => by have := Option.some.inj e; omega); replace HG := grown_row2 HG hgW (fun q e => by have := Option.some.inj e; omega); clear hB
    go_wp2
    go_roundw
    case rel => exact ⟨k + 1, _, by go_num, by omega, lh (by rw [List.length_set]; exact HLN.out), fun t ht => by
     rcases List.mem_or_eq_of_mem_set ht with h | h
     ·exact HN.out t h
     ·subst h; have h9 : nm.size ≤ 12 := HN.out _ (List.mem_of_getElem? HX.out); exact h9, hO2, hC.mono (by omega), HG⟩
    case measure => simp [intOf]; omega
  ·have hlt' : decide ((k : Int) < (n : Int)) = false := decide_eq_false (by omega)
   have hlt2 : ¬ k < n := hlt
   exact zb140
open Go.RowKit Go.G9
theorem rds_oneQu (w : World) (r m : Int) (s : Bool) (e : TypeId) : Rds 3 Que.cells (w.alloc (.cells #[.int .i64 r, .int .i64 m, .bool s] e)) (some ⟨w.heap.size, 0, none⟩) [(⟨r, m, s⟩ : Que)] := by
 have h := (OwnV.built (B := w.heap.size) (f := Que.cells) w [(⟨r, m, s⟩ : Que)] e (Nat.le_refl _) (by simp [maxLen]) que_len).rds (hf := que_len)
 simpa [Que.cells] using h
theorem mvQ_len1 (rs : List Rul) (qs : List Que) (id m : Int) : (oL (mvQ rs qs id m)).length ≤ qs.length + 1 := by
 unfold mvQ oL; split <;> simp
theorem sdQ_len1 (rs : List Rul) (qs : List Que) (m : Int) : (oL (sdQ rs qs m)).length ≤ qs.length := by
 have h : (secd qs).length ≤ qs.length := by
  unfold secd
  split
  ·rename_i q hq
   have := (List.getElem?_eq_some_iff.1 hq).1
   rw [List.length_append, List.length_take]; simp; omega
  ·exact Nat.le_refl _
 unfold sdQ oL; split <;> simp [h]
theorem pending_is (L : Option Addr) (lc : Nat) (rs : List Rul) (hx : rs.length ≤ 1000) (p : Nat) (A : Option Addr) (c : Nat) (cs : List UInt8) (hcs : cs.length ≤ 1048576) (N : Nat) (hN : N ≤ 400000) (w : World) (hC : Cur w p A c cs N) (R : Rds 7 Rul.cells w L rs) (hL : ∀ ad, L = some ad → 0 < rs.length → ad.block ≠ p) :
 Calls Tryz.prog 100 #[.pointer (some ⟨p, 0, none⟩), .slice L rs.length lc] w fun e w' => ∃ (qs : List Que) (Y : Option Addr) (y : Nat), e = .returned (.slice Y qs.length y) ∧ qs.length ≤ 7 ∧ OwnV w.heap.size 46 3 Que.cells w' (.slice Y qs.length y) qs ∧ Stepped w w' p A c cs (N + 200) := by
 obtain ⟨i0, hi, hz0, hz1, hz2⟩ := info_parts info_Que
 have HR := lh R; have HLP := lh hL; clear R hL
 go_in
 have hp := hC.lt; have HG := grown_refl w (some p); have hO := OwnV.made (sz := 3) (f := Que.cells) w (Nat.le_refl _) 46
 go_wp2_with fail
 refine (pick_is 6 p A c cs hcs N (by omega) (by omega) _ (hC.later bel)).mono ?_
 rintro e w1 ⟨r, rfl, ⟨hr0, _, hr1⟩, hS1⟩
 have hg1 : w.grownBy w1 (some p) := grown_tr (bgr bel _) hS1.2; replace hC := hS1.1; have sz1 := hg1.size; replace HG := grown_tr HG hg1; have hr2 := hr1 (by omega); replace hO := hO.kept hS1.2 (fun k hk e => by have := (hO.lt k hk).1; have := Option.some.inj e; omega); clear hr1
 obtain ⟨m0, rfl⟩ : ∃ m : Nat, r = m := ⟨r.toNat, by omega⟩
 go_wp2
 go_loopw [5, 6] (fun v i wr => ∃ (m : Nat) (qs : List Que) (Y : Option Addr) (y : Nat), v = .slice Y qs.length y ∧ i = .int .i64 (m : Int) ∧ qs.length + m ≤ 6 ∧ OwnV w.heap.size 46 3 Que.cells wr (.slice Y qs.length y) qs ∧ Cur wr p A c cs (N + 2 + 20 * (6 - m)) ∧ w.grownBy wr (some p)) (fun _ i _ => (intOf i).toNat)
 case atStart => exact ⟨m0, [], _, 0, rfl, rfl, by simp; omega, hO, hC.mono (by omega), HG⟩
 case round =>
  clear hC hO HG
  obtain ⟨m, qs, Y, y, rfl, rfl, hm, hO, hC, HG⟩ := hrel
  have hmm : (m : Int) - 1 = ((m - 1 : Nat) : Int) ∨ m = 0 := by omega
  rcases (show (0 < m ∧ pendB rs qs = true ∧ 0 < (mayL rs qs).length) ∨ (0 < m ∧ pendB rs qs = true ∧ ¬ 0 < (mayL rs qs).length) ∨ (0 < m ∧ pendB rs qs = false) ∨ ¬ 0 < m by
   by_cases h : 0 < m
   ·cases pendB rs qs <;> by_cases e2 : 0 < (mayL rs qs).length <;> simp [h, e2]
   ·simp [h]) with ⟨hlt, hg, hy⟩ | ⟨hlt, hg, hy⟩ | ⟨hlt, hg⟩ | hlt
  case' inl =>
   have HGP := lh hg; clear hg
   have hlt1 : (0 : Int) < (m : Int) := by omega
   have hlt2 : decide ((0 : Int) < (m : Int)) = true := decide_eq_true hlt1
   go_wp2_with fail
   refine (l7Good_is L lc rs (by omega) Y y qs (by omega) _ HGP.out _ (rds_far HR.out HG HLP.out) (hO.rds que_len)).mono ?_
   rintro e w2 ⟨rfl, hS2⟩
   have hb2 : Below wr.heap.size wr w2 := bth bel hS2; have hg2 : wr.grownBy w2 (some p) := bgr hb2 _; replace hC := hC.later hb2; have sz2 := hg2.size; replace HG := grown_tr HG hg2; replace hO := hO.later hS2; have HYL := lh hy; clear hy; have szw0 := HG.size
   go_wp2_with fail
   refine (l7May_is L lc rs (by omega) Y y qs (by omega) HGP.out _ (rds_far HR.out HG HLP.out) (hO.rds que_len)).mono ?_
   rintro e w3 ⟨My, my, rfl, hM, hS3⟩
   have hb3 : Below w2.heap.size w2 w3 := bth bel hS3; have hg3 : w2.grownBy w3 (some p) := bgr hb3 _; replace hC := hC.later hb3; have sz3 := hg3.size; replace HG := grown_tr HG hg3; replace hO := hO.later hS3; have szw := HG.size; have hyl := HYL.out; have hml := mayL_len rs qs
   obtain ⟨nm, hnm⟩ : ∃ n, n = (mayL rs qs).length := ⟨_, rfl⟩
   obtain ⟨g, my2, hMe⟩ := own_some hM hyl
   rw [hMe] at hM
   rw [hMe]
   clear hMe
   rw [← hnm] at hM hyl hml
   rw [← hnm]
   have HNM := lh hnm; clear hnm; have hne0 : ((nm : Int) == 0) = false := beq_eq_false_iff_ne.2 (by omega); have hk0 : 0 < nm := hyl
   go_upto_region 7 with fail
   obtain ⟨CC, hCC⟩ : ∃ X : World → Prop, ∀ V, X V ↔ OwnV w.heap.size 3 1 intC V (.slice (some ⟨g, 0, none⟩) nm my2) (mayL rs qs) := ⟨_, fun _ => Iff.rfl⟩
   have HCC := lh hCC; clear hCC; replace hM := hM.base (B' := w.heap.size) (by omega); replace hM := hM.later (Below.refl w3.heap.size w3).drew; replace hO := hO.later (Below.refl w3.heap.size w3).drew
   refine wp_region_mixh CC [([0, 1, 2, 3, 4, 9], 5), ([], 6), ([7, 8], 10), ([11], 12)] [13, 14, 15, 16] (by kernel_rfl) (by kernel_rfl) ((HCC.out _).2 hM) ?_
   haveI : Nonempty (Hld CC) := ⟨⟨_, (HCC.out _).2 hM⟩⟩
   replace hC := hC.later (Below.refl _ _).drew; replace HG := grown_tr HG (bgr (Below.refl w3.heap.size w3).drew (some p)); have szd : w3.drew.heap.size = w3.heap.size := rfl
   generalize w3.drew = wd at *
   have szd2 : w.heap.size ≤ wd.heap.size := HG.size; clear szd
   refine wpMix_cons fun K2 hK2 => ?_
   change wpQuiet _ _ _ _ (_ :: _ :: _ :: _ :: _ :: _ :: []) _
   repeat (go_big_quiet_step (fail))
   refine wpQuiet_nil ?_
   change wpList _ _ _ (_ :: []) _ _
   go_wp2
   refine Nrm_intro ((HCC.out _).2 hM) (hK2 _ _ ?_)
   refine wpMix_cons fun K2 hK2 => ?_
   change wpQuiet _ _ _ _ ([]) _
   refine wpQuiet_nil ?_
   change wpList _ _ _ (_ :: []) _ _
   have hnx : (nm : Int) ≤ 1000000000 := by omega
   go_wp2_with fail
   refine (pick_is (nm : Int) p A c cs hcs (N + 2 + 20 * (6 - m)) (by omega) hnx _ (hC.later bel)).mono ?_
   rintro e w4 ⟨r, rfl, ⟨hr0, hr1, hr2⟩, hS4⟩
   have hg4 : wd.grownBy w4 (some p) := grown_tr (bgr bel _) hS4.2; replace hC := hS4.1; have sz4 := hg4.size; replace HG := grown_tr HG hg4; replace hO := hO.kept hg4 (fun k hk e => by have := (hO.lt k hk).1; have := Option.some.inj e; omega); replace hM := hM.kept hg4 (fun k hk e => by have := (hM.lt k hk).1; have := Option.some.inj e; omega)
   have hr : r < nm := by
    by_cases h1 : (1 : Int) < nm
    ·exact hr2 h1
    ·rw [hr1 (by omega)]; omega
   obtain ⟨k, rfl⟩ : ∃ k : Nat, r = k := ⟨r.toNat, by omega⟩
   have hkx : k < nm := by omega
   obtain ⟨id, hid⟩ : ∃ x, (mayL rs qs)[k]? = some x := ⟨_, List.getElem?_eq_getElem (by have := HNM.out; omega)⟩
   have f0 := fun K : Hld CC => own_cellq ((HCC.out _).1 K.holds) intC_len hid (i := 0) (u := .int .i64 id) rfl
   simp only [Nat.add_zero, Nat.mul_one] at f0
   clear hid hr1 hr2
   go_wp2
   refine Nrm_intro ((HCC.out _).2 hM) (hK2 _ _ ?_)
   refine wpMix_cons fun K2 hK2 => ?_
   change wpQuiet _ _ _ _ (_ :: _ :: []) _
   repeat (go_big_quiet_step (fail))
   refine wpQuiet_nil ?_
   change wpList _ _ _ (_ :: []) _ _
   replace hO := hO
   go_wp2_with fail
   refine (pick_is 5 p A c cs hcs (N + 2 + 20 * (6 - m) + 2) (by omega) (by omega) _ (hC.later bel)).mono ?_
   rintro e w5 ⟨r2, rfl, ⟨hs0, _, hs1⟩, hS5⟩
   have hg5 : w4.grownBy w5 (some p) := grown_tr (bgr bel _) hS5.2; replace hC := hS5.1; have sz5 := hg5.size; replace HG := grown_tr HG hg5; have hs2 := hs1 (by omega); replace hO := hO.kept hg5 (fun k hk e => by have := (hO.lt k hk).1; have := Option.some.inj e; omega); replace hM := hM.kept hg5 (fun k hk e => by have := (hM.lt k hk).1; have := Option.some.inj e; omega); clear hs1 f0
   go_wp2
   refine Nrm_intro ((HCC.out _).2 hM) (hK2 _ _ ?_)
   refine wpMix_cons fun K2 hK2 => ?_
   change wpQuiet _ _ _ _ (_ :: []) _
   repeat (go_big_quiet_step (fail))
   refine wpQuiet_nil ?_
   change wpList _ _ _ (_ :: []) _ _
   have szw2 := HG.size
   go_wp2_with fail
   refine (sMoveQ_is L lc rs (by omega) Y y qs (by omega) hO.nilOk id (1 + r2) _ (rds_far HR.out HG HLP.out) (hO.rds que_len)).mono ?_
   rintro e w6 ⟨Z, z, rfl, hQ, hS6⟩
   have hb6 : Below w5.heap.size w5 w6 := bth bel hS6; have hg6 : w5.grownBy w6 (some p) := bgr hb6 _; replace hC := hC.later hb6; have sz6 := hg6.size; replace HG := grown_tr HG hg6; replace hM := hM.later hS6; have hql := mvQ_len1 rs qs id (1 + r2)
   obtain ⟨ps, hps⟩ : ∃ ps, ps = oL (mvQ rs qs id (1 + r2)) := ⟨_, rfl⟩
   rw [← hps] at hQ hql
   rw [← hps]
   generalize (mvQ rs qs id (1 + r2)).isSome = mb at *
   clear hps hO; have hO := hQ.base (B' := w.heap.size) szw2; clear hQ; have HQL := lh hql; clear hql
   go_wp2
   refine Nrm_intro ((HCC.out _).2 hM) (hK2 _ _ ?_)
   refine wpMix_last ?_
   change wpQuiet _ _ _ _ (_ :: _ :: _ :: _ :: []) _
   repeat (go_big_quiet_step (fail))
   refine wpQuiet_nil ?_
   clear hM
   have hps7 : ps.length ≤ 1048576 := by have := HQL.out; omega
   have szw3 := HG.size
   go_wp2_with fail
   refine (sSecondQ_is L lc rs (by omega) Z z ps hps7 hO.nilOk 6 _ (rds_far HR.out HG HLP.out) (hO.rds que_len)).mono ?_
   rintro e w7 ⟨Z2, z2, rfl, hQ, hS7⟩
   have hb7 : Below w6.heap.size w6 w7 := bth bel hS7; have hg7 : w6.grownBy w7 (some p) := bgr hb7 _; replace hC := hC.later hb7; have sz7 := hg7.size; replace HG := grown_tr HG hg7; replace hO := hO.later hS7; have hql := sdQ_len1 rs ps 6
   obtain ⟨ps2, hps⟩ : ∃ l, l = oL (sdQ rs ps 6) := ⟨_, rfl⟩
   rw [← hps] at hQ hql
   rw [← hps]
   generalize (sdQ rs ps 6).isSome = sb at *
   clear hps; replace hQ := hQ.base (B' := w.heap.size) szw3; have HQ2 := lh hql; clear hql
   have hm1 : (m : Int) - 1 = ((m - 1 : Nat) : Int) := by omega
   clear hne0 hlt1 hlt2
   cases sb
   ·go_wp2
    go_roundw
    case rel => exact ⟨m - 1, ps, Z, z, rfl, by rw [← hm1], by have := HQL.out; omega, hO, hC.mono (by omega), HG⟩
    case measure => simp [intOf]; omega
   ·go_wp2_with fail
    refine (one_is 4 p A c cs hcs (N + 2 + 20 * (6 - m) + 2 + 2) (by omega) (by omega) _ (hC.later bel)).mono ?_
    rintro e w8 ⟨b, rfl, hS8⟩
    have hg8 : w7.grownBy w8 (some p) := grown_tr (bgr bel _) hS8.2; replace hC := hS8.1; have sz8 := hg8.size; replace HG := grown_tr HG hg8; replace hO := hO.kept hg8 (fun k hk e => by have := (hO.lt k hk).1; have := Option.some.inj e; omega); replace hQ := hQ.kept hg8 (fun k hk e => by have := (hQ.lt k hk).1; have := Option.some.inj e; omega)
    cases b
    ·go_wp2
     go_roundw
     case rel => exact ⟨m - 1, ps2, Z2, z2, rfl, by rw [← hm1], by have := HQL.out; have := HQ2.out; omega, hQ, hC.mono (by omega), HG⟩
     case measure => simp [intOf]; omega
    ·go_wp2
     go_roundw
     case rel => exact ⟨m - 1, ps, Z, z, rfl, by rw [← hm1], by have := HQL.out; omega, hO, hC.mono (by omega), HG⟩
     case measure => simp [intOf]; omega
  case' inr.inl =>
   have HGP := lh hg; clear hg
   have hlt1 : (0 : Int) < (m : Int) := by omega
   have hlt2 : decide ((0 : Int) < (m : Int)) = true := decide_eq_true hlt1
   go_wp2_with fail
   refine (l7Good_is L lc rs (by omega) Y y qs (by omega) _ HGP.out _ (rds_far HR.out HG HLP.out) (hO.rds que_len)).mono ?_
   rintro e w9 ⟨rfl, hS9⟩
   have hb9 : Below wr.heap.size wr w9 := bth bel hS9; have hg9 : wr.grownBy w9 (some p) := bgr hb9 _; replace hC := hC.later hb9; have sz9 := hg9.size; replace HG := grown_tr HG hg9; replace hO := hO.later hS9; have HYL := lh hy; clear hy; have szw0 := HG.size
   go_wp2_with fail
   refine (l7May_is L lc rs (by omega) Y y qs (by omega) HGP.out _ (rds_far HR.out HG HLP.out) (hO.rds que_len)).mono ?_
   rintro e w10 ⟨My, my, rfl, hM, hS10⟩
   have hb10 : Below w9.heap.size w9 w10 := bth bel hS10; have hg10 : w9.grownBy w10 (some p) := bgr hb10 _; replace hC := hC.later hb10; have sz10 := hg10.size; replace HG := grown_tr HG hg10; replace hO := hO.later hS10
   have hyl : (mayL rs qs).length = 0 := by have := HYL.out; omega
   have hne0 : (((mayL rs qs).length : Int) == 0) = true := beq_iff_eq.2 (by omega); have HY0 := lh hyl; clear hyl hM
   go_upto_region 11 with fail
   replace hC := hC.mono (M := N + 130) (by omega)
   generalize w10 = wE at *
   clear hne0 hlt1 hlt2
  case' inr.inr.inl =>
   have HGP := lh hg; clear hg
   have hlt1 : (0 : Int) < (m : Int) := by omega
   have hlt2 : decide ((0 : Int) < (m : Int)) = true := decide_eq_true hlt1
   go_wp2_with fail
   refine (l7Good_is L lc rs (by omega) Y y qs (by omega) _ HGP.out _ (rds_far HR.out HG HLP.out) (hO.rds que_len)).mono ?_
   rintro e w11 ⟨rfl, hS11⟩
   have hb11 : Below wr.heap.size wr w11 := bth bel hS11; have hg11 : wr.grownBy w11 (some p) := bgr hb11 _; replace hC := hC.later hb11; have sz11 := hg11.size; replace HG := grown_tr HG hg11; replace hO := hO.later hS11
   go_upto_region 11 with fail
   replace hC := hC.mono (M := N + 130) (by omega)
   generalize w11 = wE at *
   clear hlt1 hlt2
  case' inr.inr.inr =>
   have hlt1 : ¬ (0 : Int) < (m : Int) := by omega
   have hlt2 : decide ((0 : Int) < (m : Int)) = false := decide_eq_false hlt1
   go_upto_region 11 with fail
   replace hC := hC.mono (M := N + 130) (by omega)
   generalize wr = wE at *
   clear hlt1 hlt2
  all_goals
   clear hmm hlt
   go_wp2_with fail
   refine (pick_is 24 p A c cs hcs (N + 130) (by omega) (by omega) _ (hC.later bel)).mono ?_
   rintro e w12 ⟨q, rfl, ⟨hbq, _, hcq⟩, hS12⟩
   have hg12 : wE.grownBy w12 (some p) := grown_tr (bgr bel _) hS12.2; replace hC := hS12.1; have sz12 := hg12.size; replace HG := grown_tr HG hg12; replace hcq := hcq (by omega); replace hO := hO.kept hg12 (fun k hk e => by have := (hO.lt k hk).1; have := Option.some.inj e; omega)
   rcases (show q = 0 ∨ q = 1 ∨ 1 < q by omega) with rfl | rfl | hq2
   ·go_wp2_with fail
    refine (drRuleOf_is L lc rs hx p A c cs hcs (N + 132) (by omega) _ (hC.later bel) (rds_far HR.out HG HLP.out) HLP.out).mono ?_
    rintro e w13 ⟨ru, rfl, hS13⟩
    have hg13 : w12.grownBy w13 (some p) := grown_tr (bgr bel _) hS13.2; replace hC := hS13.1; have sz13 := hg13.size; replace HG := grown_tr HG hg13; replace hO := hO.kept hg13 (fun k hk e => by have := (hO.lt k hk).1; have := Option.some.inj e; omega)
    go_wp2_with fail
    refine (member_is p A c cs hcs (N + 140) (by omega) _ (hC.mono (by omega))).mono ?_
    rintro e w14 ⟨me, rfl, _, hS14⟩
    have hg14 : w13.grownBy w14 (some p) := grown_tr (bgr bel _) hS14.2; replace hC := hS14.1; have sz14 := hg14.size; replace HG := grown_tr HG hg14; replace hO := hO.kept hg14 (fun k hk e => by have := (hO.lt k hk).1; have := Option.some.inj e; omega)
    go_wp2_with fail
    refine (one_is 2 p A c cs hcs (N + 142) (by omega) (by omega) _ (hC.later bel)).mono ?_
    rintro e w15 ⟨b, rfl, hS15⟩
    have hg15 : w14.grownBy w15 (some p) := grown_tr (bgr bel _) hS15.2; replace hC := hS15.1; have sz15 := hg15.size; replace HG := grown_tr HG hg15; replace hO := hO.kept hg15 (fun k hk e => by have := (hO.lt k hk).1; have := Option.some.inj e; omega)
    go_wp2_with ((at_builtin; refine wpList_app1 rfl _ _ 25 rfl w.heap.size 46 i0 _ 3 24 Tryz.underlying25 hi hz0 hz1 hz2 rfl (by decide) Que.cells que_len que_one _ qs rfl (hO.alloc _) ⟨w15.heap.size, 0, none⟩ 1 ⟨ru, me, b⟩ rfl (rds_oneQu _ _ _ _ _) (by unfold maxLen; omega) (by omega) (by have := HG.size; simp; omega) ?_; intro va wa hOa hga haa; clear haa))
    have hC4 := (hC.later (bl1 _ _)).row hga (fun k hk => by have := (hO.lt k hk).1; omega); have HG4 := grown_row2 (grown_tr HG (bgr (bl1 _ _) _)) hga (fun k hk => (hO.lt k hk).1)
    obtain ⟨g4, y4, rfl⟩ := own_some hOa (by simp)
    go_wp2
    go_ret
    exact ⟨_, _, y4, rfl, by simp; omega, hOa, hC4.mono (by omega), HG4⟩
   ·go_wp2_with ((at_builtin; refine wpList_app1 rfl _ _ 25 rfl w.heap.size 46 i0 _ 3 24 Tryz.underlying25 hi hz0 hz1 hz2 rfl (by decide) Que.cells que_len que_one _ qs rfl (hO.alloc _) ⟨w12.heap.size, 0, none⟩ 1 ⟨20, 1, false⟩ rfl (rds_oneQu _ _ _ _ _) (by unfold maxLen; omega) (by omega) (by have := HG.size; simp; omega) ?_; intro va wa hOa hga haa; clear haa))
    have hC4 := (hC.later (bl1 _ _)).row hga (fun k hk => by have := (hO.lt k hk).1; omega); have HG4 := grown_row2 (grown_tr HG (bgr (bl1 _ _) _)) hga (fun k hk => (hO.lt k hk).1)
    obtain ⟨g4, y4, rfl⟩ := own_some hOa (by simp)
    go_wp2
    go_ret
    exact ⟨_, _, y4, rfl, by simp; omega, hOa, hC4.mono (by omega), HG4⟩
   ·have g0 : (q == 0) = false := beq_eq_false_iff_ne.2 (by omega)
    have g1 : (q == 1) = false := beq_eq_false_iff_ne.2 (by omega)
    go_wp2
    go_ret
    exact ⟨qs, Y, y, rfl, by omega, hO, hC.mono (by omega), HG⟩
open Go.RowKit Go.G9
theorem spF_len (f : Fl) (n : Int) : (spF f n).sh.length ≤ f.sh.length + 2 := by
 unfold spF yldF spG
 split
 ·exact Nat.le_trans (setSh_len _ _) (Nat.succ_le_succ (setSh_len _ _))
 ·exact Nat.le_succ_of_le (setSh_len _ _)
theorem drAsk_is (tu se sp : Int) (A2 : Option Addr) (c2 : Nat) (ws : List Int) (A3 : Option Addr) (c3 : Nat) (sh : List Sha) (h2 : ws.length ≤ 1048576) (h3 : sh.length ≤ 1048576) (n2 : A2 = none → ws = [] ∧ c2 = 0) (n3 : A3 = none → sh = [] ∧ c3 = 0) (k2 : ws.length ≤ c2) (k3 : sh.length ≤ c3) (m : Int) (w : World) (R2 : Rds 1 intC w A2 ws) (R3 : Rds 3 Sha.cells w A3 sh) :
 Calls Tryz.prog 156 #[.agg #[.int .i64 tu, .int .i64 se, .int .i64 sp, .slice A2 ws.length c2, .slice A3 sh.length c3], .int .i64 m] w fun e w' => ∃ (tu' se' sp' : Int) (ws' : List Int) (sh' : List Sha) (D2 : Option Addr) (d2 : Nat) (D3 : Option Addr) (d3 : Nat) (b : Bool), e = .returned (.tuple #[.agg #[.int .i64 tu', .int .i64 se', .int .i64 sp', .slice D2 ws'.length d2, .slice D3 sh'.length d3], .bool b]) ∧ ws'.length ≤ ws.length + 1 ∧ sh'.length ≤ sh.length + 2 ∧ FlO w.heap.size w' D2 d2 D3 d3 ws' sh' ∧ Below w.heap.size w w' := by
 cases hv : akB ⟨tu, se, sp, ws, sh⟩ m
 ·exact (sAskF_is tu se sp A2 c2 ws A3 c3 sh h2 h3 n2 n3 k2 k3 m hv w R2 R3).mono fun _ _ ⟨h, hb⟩ => ⟨0, 0, 0, [], [], none, 0, none, 0, false, h, by simp, by simp, flO_nil, hb⟩
 ·exact (sAskT_is tu se sp A2 c2 ws A3 c3 sh h2 h3 n2 n3 k2 k3 m hv w R2 R3).mono fun _ _ ⟨D2, d2, D3, d3, h, hO, hb⟩ => ⟨tu, se, sp, _, _, D2, d2, D3, d3, true, h, by simp, by omega, hO, hb⟩
theorem drNext_is (tu se sp : Int) (A2 : Option Addr) (c2 : Nat) (ws : List Int) (A3 : Option Addr) (c3 : Nat) (sh : List Sha) (h2 : ws.length ≤ 1048576) (h3 : sh.length ≤ 1048576) (n2 : A2 = none → ws = [] ∧ c2 = 0) (n3 : A3 = none → sh = [] ∧ c3 = 0) (k2 : ws.length ≤ c2) (k3 : sh.length ≤ c3) (w : World) (R2 : Rds 1 intC w A2 ws) (R3 : Rds 3 Sha.cells w A3 sh) :
 Calls Tryz.prog 157 #[.agg #[.int .i64 tu, .int .i64 se, .int .i64 sp, .slice A2 ws.length c2, .slice A3 sh.length c3]] w fun e w' => ∃ (tu' se' sp' q' : Int) (ws' : List Int) (sh' : List Sha) (D2 : Option Addr) (d2 : Nat) (D3 : Option Addr) (d3 : Nat) (b : Bool), e = .returned (.tuple #[.agg #[.int .i64 tu', .int .i64 se', .int .i64 sp', .slice D2 ws'.length d2, .slice D3 sh'.length d3], .int .i64 q', .bool b]) ∧ ws'.length ≤ ws.length + 1 ∧ sh'.length ≤ sh.length + 2 ∧ FlO w.heap.size w' D2 d2 D3 d3 ws' sh' ∧ Below w.heap.size w w' := by
 cases hv : nxB ⟨tu, se, sp, ws, sh⟩
 ·exact (sNextF_is tu se sp A2 c2 ws A3 c3 sh h2 h3 n2 n3 k2 k3 hv w R2 R3).mono fun _ _ ⟨h, hb⟩ => ⟨0, 0, 0, 0, [], [], none, 0, none, 0, false, h, by simp, by simp, flO_nil, hb⟩
 ·obtain ⟨m, hm, _⟩ := nxM_some (f := ⟨tu, se, sp, ws, sh⟩) (by simp only [nxB, Bool.and_eq_true, decide_eq_true_eq] at hv; exact hv.2.2)
  exact (sNextT_is tu se sp A2 c2 ws A3 c3 sh h2 h3 n2 n3 k2 k3 hv m hm w R2 R3).mono fun _ _ ⟨D2, d2, D3, d3, h, hO, hb⟩ => ⟨tu, se, m, m, _, _, D2, d2, D3, d3, true, h, by have := List.length_filter_le (fun x => !(x == m)) ws; omega, by omega, hO, hb⟩
theorem drSpeak_is (tu se sp : Int) (A2 : Option Addr) (c2 : Nat) (ws : List Int) (A3 : Option Addr) (c3 : Nat) (sh : List Sha) (h2 : ws.length ≤ 1048576) (h3 : sh.length ≤ 1048576) (n2 : A2 = none → ws = [] ∧ c2 = 0) (n3 : A3 = none → sh = [] ∧ c3 = 0) (k2 : ws.length ≤ c2) (k3 : sh.length ≤ c3) (m : Int) (w : World) (R2 : Rds 1 intC w A2 ws) (R3 : Rds 3 Sha.cells w A3 sh) :
 Calls Tryz.prog 158 #[.agg #[.int .i64 tu, .int .i64 se, .int .i64 sp, .slice A2 ws.length c2, .slice A3 sh.length c3], .int .i64 m] w fun e w' => ∃ (tu' se' sp' q' : Int) (ws' : List Int) (sh' : List Sha) (D2 : Option Addr) (d2 : Nat) (D3 : Option Addr) (d3 : Nat) (b : Bool), e = .returned (.tuple #[.agg #[.int .i64 tu', .int .i64 se', .int .i64 sp', .slice D2 ws'.length d2, .slice D3 sh'.length d3], .int .i64 q', .bool b]) ∧ ws'.length ≤ ws.length + 1 ∧ sh'.length ≤ sh.length + 2 ∧ FlO w.heap.size w' D2 d2 D3 d3 ws' sh' ∧ Below w.heap.size w w' := by
 cases hv : spB ⟨tu, se, sp, ws, sh⟩ m
 ·exact (sSpeakF_is tu se sp A2 c2 ws A3 c3 sh h2 h3 n2 n3 k2 k3 m hv w R2 R3).mono fun _ _ ⟨h, hb⟩ => ⟨0, 0, 0, 0, [], [], none, 0, none, 0, false, h, by simp, by simp, flO_nil, hb⟩
 ·exact (sSpeakT_is tu se sp A2 c2 ws A3 c3 sh h2 h3 n2 n3 k2 k3 m hv w R2 R3).mono fun _ _ ⟨D2, d2, D3, d3, h, hO, hb⟩ => ⟨tu, se, _, _, _, _, D2, d2, D3, d3, true, h, by omega, spF_len _ _, hO, hb⟩
theorem drYield_is (tu se sp : Int) (A2 : Option Addr) (c2 : Nat) (ws : List Int) (A3 : Option Addr) (c3 : Nat) (sh : List Sha) (h2 : ws.length ≤ 1048576) (h3 : sh.length ≤ 1048576) (n2 : A2 = none → ws = [] ∧ c2 = 0) (n3 : A3 = none → sh = [] ∧ c3 = 0) (k2 : ws.length ≤ c2) (k3 : sh.length ≤ c3) (w : World) (R2 : Rds 1 intC w A2 ws) (R3 : Rds 3 Sha.cells w A3 sh) :
 Calls Tryz.prog 159 #[.agg #[.int .i64 tu, .int .i64 se, .int .i64 sp, .slice A2 ws.length c2, .slice A3 sh.length c3]] w fun e w' => ∃ (tu' se' sp' : Int) (ws' : List Int) (sh' : List Sha) (D2 : Option Addr) (d2 : Nat) (D3 : Option Addr) (d3 : Nat) (b : Bool), e = .returned (.tuple #[.agg #[.int .i64 tu', .int .i64 se', .int .i64 sp', .slice D2 ws'.length d2, .slice D3 sh'.length d3], .bool b]) ∧ ws'.length ≤ ws.length + 1 ∧ sh'.length ≤ sh.length + 2 ∧ FlO w.heap.size w' D2 d2 D3 d3 ws' sh' ∧ Below w.heap.size w w' := by
 cases hv : yldB ⟨tu, se, sp, ws, sh⟩
 ·exact (sYieldF_is tu se sp A2 c2 ws A3 c3 sh h2 h3 n2 n3 k2 k3 hv w R2 R3).mono fun _ _ ⟨h, hb⟩ => ⟨0, 0, 0, [], [], none, 0, none, 0, false, h, by simp, by simp, flO_nil, hb⟩
 ·exact (sYieldT_is tu se sp A2 c2 ws A3 c3 sh h2 h3 n2 n3 k2 k3 hv w R2 R3).mono fun _ _ ⟨D2, d2, D3, d3, h, hO, hb⟩ => ⟨tu, se, 0, _, _, D2, d2, D3, d3, true, h, by omega, Nat.le_succ_of_le (setSh_len _ _), hO, hb⟩
theorem drNew_is (tu se : Int) (w : World) : Calls Tryz.prog 70 #[.int .i64 tu, .int .i64 se] w fun e w' => ∃ (tu' se' : Int) (b : Bool), e = .returned (.tuple #[.agg #[.int .i64 tu', .int .i64 se', .int .i64 0, .slice none 0 0, .slice none 0 0], .bool b]) ∧ Below w.heap.size w w' := by
 cases h : nfB tu se
 ·exact (sNewFloorF_is tu se h w).mono fun _ _ ⟨h, hb⟩ => ⟨0, 0, false, h, hb⟩
 ·exact (sNewFloorT_is tu se h w).mono fun _ _ ⟨h, hb⟩ => ⟨tu, se, true, h, hb⟩
end Go.Proofs.YtjimibkgocieoaaGreat
