/- Texts of the proof: walks of the functions, and what they compute. -/
import Derived.Test.YtjimibkgocieoaaGreatRb10
import Derived.Test.YtjimibkgocieoaaGreatRb0
import Derived.Test.YtjimibkgocieoaaGreatRb8
set_option maxHeartbeats 16000000
set_option maxRecDepth 100000
namespace Go.G9
open Go.RowKit
theorem Blk.grownN {w w' : World} {g : Nat} {row : Option Nat} {t : TypeId} {cs : Array Value} (h : Blk w g t cs) (hg : w.grownBy w' row) (hne : some g ≠ row) : Blk w' g t cs := (hg.block g h.lt hne).trans h
open Go.RowKit
theorem OwnV.notBlk {T : Type} {B sz : Nat} {f : T → List Value} {e t : TypeId} {w : World} {g n c p : Nat} {xs : List T} {cs : Array Value} (h : OwnV B e sz f w (.slice (some ⟨g, 0, none⟩) n c) xs) (hb : Blk w p t cs) (hne : t ≠ e) : p ≠ g := by
 rintro rfl
 obtain ⟨_, _, _, _, cur, hB, _⟩ := h.parts
 unfold Blk at hb hB
 rw [hb] at hB
 injection hB with h1
 injection h1 with _ h2 _
 exact hne h2
theorem OwnV.notBlkV {T : Type} {B sz : Nat} {f : T → List Value} {e t : TypeId} {w : World} {v : Value} {p : Nat} {xs : List T} {cs : Array Value} (h : OwnV B e sz f w v xs) (hb : Blk w p t cs) (hne : t ≠ e) : ∀ k, v.ownBlock = some k → k ≠ p := by
 rintro k hk rfl
 rcases h.2 with ⟨rfl, _⟩ | ⟨g, cap, cur, rfl, hB, hh, r⟩
 ·cases hk
 ·have a1 : g = k := Option.some.inj hk
  subst a1
  unfold Blk at hb
  rw [hb] at hh
  injection hh with h1
  injection h1 with _ h2 _
  exact hne h2
theorem OwnV.nb {T : Type} {B sz : Nat} {f : T → List Value} {e t : TypeId} {w : World} {v : Value} {p : Nat} {xs : List T} {cs : Array Value} (h : OwnV B e sz f w v xs) (hb : Blk w p t cs) (hne : t ≠ e := by decide) : ∀ k, v.ownBlock = some k → k ≠ p := h.notBlkV hb hne
theorem OwnV.apart {T T' : Type} {B B' sz sz' : Nat} {f : T → List Value} {f' : T' → List Value} {e e' : TypeId} {w : World} {v v' : Value} {xs : List T} {ys : List T'} (h : OwnV B e sz f w v xs) (h' : OwnV B' e' sz' f' w v' ys) (hne : e ≠ e') : ∀ k, v.ownBlock = some k → some k ≠ v'.ownBlock := by
 intro k hk e1
 rcases h.2 with ⟨rfl, _⟩ | ⟨g, cap, cur, rfl, hB, hh, r⟩
 ·cases hk
 ·rcases h'.2 with ⟨rfl, _⟩ | ⟨g', cap', cur', rfl, hB', hh', r'⟩
  ·cases e1
  ·have a1 : g = k := Option.some.inj hk
   have a2 : k = g' := Option.some.inj e1
   subst a1; subst a2
   rw [hh] at hh'
   injection hh' with h1
   injection h1 with _ h2 _
   exact hne h2
end Go.G9
namespace Go.Proofs.YtjimibkgocieoaaGreat
open Go.RowKit Go.G9
theorem setSh_same {xs : List Sha} {s x : Sha} {k : Nat} (hk : k < xs.length) (h1 : ∀ i y, i < k → xs[i]? = some y → y.mem < s.mem) (hx : xs[k]? = some x) (h2 : ¬ x.mem < s.mem) (h3 : x.mem = s.mem) : setSh xs s = xs.set k s := by
 rw [setSh_cut (k := k) (by omega) h1 (fun y hy => by rw [hx] at hy; cases hy; exact h2), hx]
 simp only [h3, if_true]
 rw [List.set_eq_take_append_cons_drop, if_pos hk]
theorem setSh_new {xs : List Sha} {s : Sha} {k : Nat} (hk : k ≤ xs.length) (h1 : ∀ i y, i < k → xs[i]? = some y → y.mem < s.mem) (h2 : ∀ x, xs[k]? = some x → ¬ x.mem < s.mem) (h3 : ∀ x, xs[k]? = some x → x.mem ≠ s.mem) : setSh xs s = xs.take k ++ s :: xs.drop k := by
 rw [setSh_cut hk h1 h2]
 cases hx : xs[k]? with
 | none => simp only [List.drop_of_length_le (List.getElem?_eq_none_iff.1 hx)]
 | some x => simp only [if_neg (h3 x hx)]
theorem zb6 {p : Prop} (h : p := by
 rintro e wb ⟨g', c', rfl, hO1, hg1⟩
 have hFb := HFV.out.grownN hg1 (by intro e; exact hpg (Option.some.inj e)); have hpg' := hO1.notBlk hFb (by decide); have hg2 := grown_tr (bgr HBW.out (some g)) hg1; clear HBV HFV HSV HOV HBW hg1
 go_wp2
 refine Nrm_drop (hK2 _ _ ?_)
 refine wpMx_cons fun K3 hK3 => ?_
 refine wpQuiet_nil ?_
 change wpQuiet _ _ _ _ (_ :: _ :: []) _
 repeat (go_big_quiet_step (fail))
 refine wpQuiet_nil ?_
 change wpList _ _ _ (_ :: []) _ _
 have fz := hFb.frozen 4; have fc := (hFb.cell 4).trans (show _ = some (.slice (some ⟨g, 0, none⟩) sh.length c) from rfl); have HF5 := lh (hFb.set_ 4 (.slice (some ⟨g', 0, none⟩) (sh.length + 1) c')); have HO5 := lh (hO1.kept (grown_set (j := 4) (grown_refl wb (some p)) (.slice (some ⟨g', 0, none⟩) (sh.length + 1) c')) (fun q hq e => by have h1 : g' = q := Option.some.inj hq; have h2 : q = p := Option.some.inj e; omega))
 have HG5 := lh hg2; have HG6 := lh (grown_set (j := 4) (grown_refl wb (some p)) (.slice (some ⟨g', 0, none⟩) (sh.length + 1) c')); clear hFb hO1 hg2
 go_wp2
 refine Nrm_drop (hK3 _ _ ?_)
 refine wpMx_last ?_
 refine wpQuiet_nil ?_
 refine wpQuiet_nil ?_
 go_wp2
 have hle : (setSh sh s).length = sh.length + 1 := by rw [E1.out, List.length_append, List.length_cons, List.length_take, List.length_drop]; omega
 refine ⟨rfl, Value.tuple #[], by simp [results, Tryz.results199, go_sem], rfl, g', c', wb, HG5.out, HG6.out, ?_, ?_, hpg'⟩
 ·rw [hle]; exact HF5.out
 ·have h := HO5.out
  rw [hle, E1.out, es]; exact h) : p := h
theorem setShare_is (B p : Nat) (tu se sp : Int) (vW : Value) (g c : Nat) (sh : List Sha) (hn : sh.length ≤ 1048575) (sm st ss : Int) (s : Sha) (es : s = ⟨sm, st, ss⟩) (w : World) (hBp : B ≤ p) (hBw : B ≤ w.heap.size) (hpg : p ≠ g)
  (hF : Blk w p 29 #[.int .i64 tu, .int .i64 se, .int .i64 sp, vW, .slice (some ⟨g, 0, none⟩) sh.length c]) (hO : OwnV B 144 3 Sha.cells w (.slice (some ⟨g, 0, none⟩) sh.length c) sh) :
 Calls Tryz.prog 199 #[.pointer (some ⟨p, 0, none⟩), .agg #[.int .i64 sm, .int .i64 st, .int .i64 ss]] w fun e w' => e = .returned (.tuple #[]) ∧ ∃ g' c' w1, w.grownBy w1 (some g) ∧ w1.grownBy w' (some p) ∧ Blk w' p 29 #[.int .i64 tu, .int .i64 se, .int .i64 sp, vW, .slice (some ⟨g', 0, none⟩) (setSh sh s).length c'] ∧ OwnV B 144 3 Sha.cells w' (.slice (some ⟨g', 0, none⟩) (setSh sh s).length c') (setSh sh s) ∧ p ≠ g' := by
 have HF0 := lh hF; have HO0 := lh hO; have hpl := hF.lt; clear hF hO
 go_in
 go_upto_region 1 with fail
 have hb0 : Below w.heap.size w (w.alloc (.cells #[.int .i64 sm, .int .i64 st, .int .i64 ss] 144)) := bl1 w _; have hS := Blk.new w 144 #[.int .i64 sm, .int .i64 st, .int .i64 ss]; have hF := HF0.out.below hb0 HF0.out.lt; have hO := HO0.out.later hb0
 obtain ⟨w0, hw0⟩ : ∃ w0, w0 = w.alloc (.cells #[.int .i64 sm, .int .i64 st, .int .i64 ss] 144) := ⟨_, rfl⟩
 rw [← hw0] at hb0 hS hF hO
 have HS := lh hS; have HF := lh hF; have HO := lh hO; clear hS hF hO HF0 HO0
 generalize w.alloc (.cells #[.int .i64 sm, .int .i64 st, .int .i64 ss] 144) = wq at *
 subst hw0
 go_wp2
 go_loopw [4] (fun i wr => ∃ k : Nat, k ≤ sh.length ∧ i = .int .i64 k ∧ (∀ j x, j < k → sh[j]? = some x → x.mem < s.mem) ∧ Below w0.heap.size w0 wr) (fun i _ => sh.length - (intOf i).toNat)
 case atStart => exact ⟨0, Nat.zero_le _, rfl, fun j x h => absurd h (by omega), Below.refl _ _⟩
 case round =>
  obtain ⟨k, hk, rfl, hl, hb⟩ := hrel
  have HL := lh hl; clear hl; have hFr := HF.out.below hb HF.out.lt; have hSr := HS.out.below hb HS.out.lt; have hOr := HO.out.later hb
  have c4 := fun K : Kin wr.heap.size wr => ((hFr.below K.below hFr.lt).cell 4).trans (show _ = some (.slice (some ⟨g, 0, none⟩) sh.length c) from rfl)
  have s' := Blk.cs3K (fun K : Kin wr.heap.size wr => (hSr.below K.below hSr.lt)); have HFR := lh hFr; have HSR := lh hSr; have HOR := lh hOr; clear hFr hSr hOr
  by_cases hlt : k < sh.length
  ·obtain ⟨⟨xm, xt, xc⟩, hx⟩ : ∃ x, sh[k]? = some x := ⟨_, List.getElem?_eq_getElem hlt⟩
   have x0 := fun K : Kin wr.heap.size wr => own_cellq (HOR.out.later K.below) sha_len hx (i := 0) (u := .int .i64 xm) rfl
   simp only [Nat.add_zero] at x0
   have HX := lh hx; clear hx; have hlt' : decide ((k : Int) < (sh.length : Int)) = true := decide_eq_true (by omega)
   by_cases hm : xm < sm
   ·go_wp2
    refine wp_region_kin (by kernel_rfl) (by kernel_rfl) ?_
    repeat (go_big_quiet_step ((fail)))
    refine wpQuiet_nil ?_
    intro K
    clear c4 s' x0
    go_wp2
    go_roundw
    case rel => exact ⟨k + 1, by omega, by go_num, fun j y hj hy => by
     by_cases e : j = k
     ·subst e; rw [HX.out] at hy; cases hy; rw [es]; exact hm
     ·exact HL.out j y (by omega) hy, bth hb K.below⟩
    case measure => simp [intOf]; omega
   ·have hm' : decide (xm < sm) = false := decide_eq_false hm
    go_wp2
    refine wp_region_kin (by kernel_rfl) (by kernel_rfl) ?_
    repeat (go_big_quiet_step ((fail)))
    refine wpQuiet_nil ?_
    intro K
    clear c4 s' x0 hm'; have hb' := bth hb K.below; have hFr := HFR.out.below K.below HFR.out.lt; have hSr := HSR.out.below K.below HSR.out.lt; have hOr := HOR.out.later K.below; clear HFR HSR HOR
    generalize K.world = wk at *
    have c4 := fun K : Kin wk.heap.size wk => ((hFr.below K.below hFr.lt).cell 4).trans (show _ = some (.slice (some ⟨g, 0, none⟩) sh.length c) from rfl)
    have s' := Blk.cs3K (fun K : Kin wk.heap.size wk => (hSr.below K.below hSr.lt))
    have x0 := fun K : Kin wk.heap.size wk => own_cellq (hOr.later K.below) sha_len HX.out (i := 0) (u := .int .i64 xm) rfl
    simp only [Nat.add_zero] at x0
    have HFR := lh hFr; have HSR := lh hSr; have HOR := lh hOr; clear hFr hSr hOr
    by_cases he : xm = sm
    ·go_wp2
     refine wp_region_kin (by kernel_rfl) (by kernel_rfl) ?_
     repeat (go_big_quiet_step ((fail)))
     refine wpQuiet_nil ?_
     intro K
     clear c4 s' x0; have hb'' := bth hb' K.below; have hFr := HFR.out.below K.below HFR.out.lt; have hSr := HSR.out.below K.below HSR.out.lt; have hOr := HOR.out.later K.below; clear HFR HSR HOR
     generalize K.world = wn at *
     have c4 := fun K : Kin wn.heap.size wn => ((hFr.below K.below hFr.lt).cell 4).trans (show _ = some (.slice (some ⟨g, 0, none⟩) sh.length c) from rfl)
     have s' := Blk.cs3K (fun K : Kin wn.heap.size wn => (hSr.below K.below hSr.lt)); have HFR := lh hFr; have HOR := lh hOr; clear hFr hSr hOr
     go_wp2
     refine wp_region_kin_tail 7 (by kernel_rfl) (by kernel_rfl) ?_
     change wpQuiet _ _ _ _ (_ :: _ :: _ :: _ :: _ :: _ :: _ :: []) _
     repeat (go_big_quiet_step (fail))
     refine wpQuiet_nil ?_
     intro K
     change wpList _ _ _ (_ :: []) _ _
     clear c4 s'; have hb3 := bth hb'' K.below; have hFr := HFR.out.below K.below HFR.out.lt; have hOr := HOR.out.later K.below; clear HFR HOR
     generalize K.world = wv at *
     have z0 := own_free hOr sha_len (j := k) (i := 0) hlt (by decide); have z1 := own_free hOr sha_len (j := k) (i := 1) hlt (by decide); have z2 := own_free hOr sha_len (j := k) (i := 2) hlt (by decide); have y0 := own_cellq hOr sha_len HX.out (i := 0) (u := .int .i64 xm) rfl; have y1 := own_cellq hOr sha_len HX.out (i := 1) (u := .int .i64 xt) rfl; have y2 := own_cellq hOr sha_len HX.out (i := 2) (u := .int .i64 xc) rfl
     simp only [Nat.add_zero] at z0 y0
     have e1 : setSh sh s = sh.set k s := setSh_same hlt (fun j y hj hy => HL.out j y hj hy) HX.out (by rw [es]; show ¬ xm < sm; omega) (by rw [es]; exact he); have hO1 := own_set hOr sha_len (y := ⟨sm, xt, xc⟩) (u := .int .i64 sm) (i := 0) HX.out (by decide) rfl; have hO2 := own_set hO1 sha_len (j := k) (x := ⟨sm, xt, xc⟩) (y := ⟨sm, st, xc⟩) (u := .int .i64 st) (i := 1) (by rw [List.getElem?_set_self hlt]) (by decide) rfl
     have hO3 := own_set hO2 sha_len (j := k) (x := ⟨sm, st, xc⟩) (y := ⟨sm, st, ss⟩) (u := .int .i64 ss) (i := 2) (by rw [List.getElem?_set_self (by rw [List.length_set]; exact hlt)]) (by decide) rfl
     simp only [List.set_set, Nat.add_zero] at hO3
     rw [← es, ← e1] at hO3
     have hF1 := ((hFr.far' (p := ⟨g, k * 3, none⟩) hpg (.int .i64 sm)).far' (p := ⟨g, k * 3 + 1, none⟩) hpg (.int .i64 st)).far' (p := ⟨g, k * 3 + 2, none⟩) hpg (.int .i64 ss); have hgg := grown_tr (bgr (bth hb0 hb3) (some g)) (grown_set (j := k * 3 + 2) (grown_set (j := k * 3 + 1) (grown_set (j := k * 3) (grown_refl wv (some g)) (.int .i64 sm)) (.int .i64 st)) (.int .i64 ss)); have HO3 := lh hO3
     have HF1 := lh hF1; have HGG := lh hgg; have E1 := lh e1; clear hO1 hO2 hO3 hF1 hgg e1 hOr hFr
     go_wp2
     refine ⟨rfl, Value.tuple #[], by simp [results, Tryz.results199, go_sem], rfl, g, c, _, HGG.out, grown_refl _ _, ?_, ?_, hpg⟩
     ·have hle : (setSh sh s).length = sh.length := by rw [E1.out, List.length_set]
      rw [hle]; exact HF1.out
     ·have hle : (setSh sh s).length = sh.length := by rw [E1.out, List.length_set]
      have h := HO3.out
      rw [hle]; exact h
    ·have he' : (xm == sm) = false := beq_eq_false_iff_ne.2 he
     go_wp2
     refine wp_region_kin (by kernel_rfl) (by kernel_rfl) ?_
     repeat (go_big_quiet_step ((fail)))
     refine wpQuiet_nil ?_
     intro K
     clear c4 s' x0 he' hlt'; have hbq := bth hb' K.below; have hFr := HFR.out.below K.below HFR.out.lt; have hSr := HSR.out.below K.below HSR.out.lt; have hOr := HOR.out.later K.below; clear HFR HSR HOR
     generalize K.world = wn at *
     have e1 : setSh sh s = sh.take k ++ s :: sh.drop k := setSh_new hk (fun j y hj hy => HL.out j y hj hy) (fun y hy => by rw [HX.out] at hy; cases hy; rw [es]; show ¬ xm < sm; omega) (fun y hy => by rw [HX.out] at hy; cases hy; rw [es]; exact he); have hbn := bth hb0 hbq
     haveI : Nonempty (Hld (fun V => Blk V p 29 #[.int .i64 tu, .int .i64 se, .int .i64 sp, vW, .slice (some ⟨g, 0, none⟩) sh.length c] ∧ Blk V w.heap.size 144 #[.int .i64 sm, .int .i64 st, .int .i64 ss])) := ⟨⟨wn, hFr, hSr⟩⟩
     haveI : Nonempty (Hld (fun _ => True)) := ⟨⟨wn, trivial⟩⟩
     have c4 := fun K : Hld (fun V => Blk V p 29 #[.int .i64 tu, .int .i64 se, .int .i64 sp, vW, .slice (some ⟨g, 0, none⟩) sh.length c] ∧ Blk V w.heap.size 144 #[.int .i64 sm, .int .i64 st, .int .i64 ss]) => (K.holds.1.cell 4).trans (show _ = some (.slice (some ⟨g, 0, none⟩) sh.length c) from rfl)
     have s' := Blk.cs3K (fun K : Hld (fun V => Blk V p 29 #[.int .i64 tu, .int .i64 se, .int .i64 sp, vW, .slice (some ⟨g, 0, none⟩) sh.length c] ∧ Blk V w.heap.size 144 #[.int .i64 sm, .int .i64 st, .int .i64 ss]) => K.holds.2); have HFR := lh hFr; have HSR := lh hSr; have HOR := lh hOr; have E1 := lh e1; clear hFr hSr hOr e1
     go_wp2
     refine wp_region_mx (fun V => Blk V p 29 #[.int .i64 tu, .int .i64 se, .int .i64 sp, vW, .slice (some ⟨g, 0, none⟩) sh.length c] ∧ Blk V w.heap.size 144 #[.int .i64 sm, .int .i64 st, .int .i64 ss]) [([1, 2, 3, 4, 5, 6], [0], 7, false), ([], [], 8, true), ([], [9, 10], 11, true)] [] [] (by kernel_rfl) (by kernel_rfl) ⟨HFR.out, HSR.out⟩ ?_
     refine wpMx_cons fun K hK => ?_
     change wpQuiet _ _ _ _ (_ :: _ :: _ :: _ :: _ :: _ :: []) _
     repeat (go_big_quiet_step (fail))
     refine wpQuiet_nil ?_
     change wpQuiet _ _ _ _ (_ :: []) _
     repeat (go_big_quiet_step (fail))
     refine wpQuiet_nil ?_
     change wpList _ _ _ (_ :: []) _ _
     clear c4 s'; have hFr : Blk wn.drew p 29 #[.int .i64 tu, .int .i64 se, .int .i64 sp, vW, .slice (some ⟨g, 0, none⟩) sh.length c] := HFR.out; have hSr : Blk wn.drew w.heap.size 144 #[.int .i64 sm, .int .i64 st, .int .i64 ss] := HSR.out; have hOr := HOR.out.later (Below.refl _ wn).drew; have hb4 : Below w.heap.size w wn.drew := hbn.drew; clear HFR HSR HOR
     generalize wn.drew = wd at *
     have HBV := lh (Blk.new wd 144 #[.int .i64 sm, .int .i64 st, .int .i64 ss]); have HFV := lh (hFr.alloc (.cells #[.int .i64 sm, .int .i64 st, .int .i64 ss] 144)); have HSV := lh (hSr.alloc (.cells #[.int .i64 sm, .int .i64 st, .int .i64 ss] 144)); have HOV := lh (hOr.alloc (.cells #[.int .i64 sm, .int .i64 st, .int .i64 ss] 144)); have HBW := lh (bth hb4 (bl1 wd (.cells #[.int .i64 sm, .int .i64 st, .int .i64 ss] 144)))
     have hgd := (hOr.lt g rfl).2; clear hFr hSr hOr
     go_wp2
     refine Nrm_keep ⟨HFV.out, HSV.out⟩ (hK _ _ ?_)
     refine wpMx_cons fun K2 hK2 => ?_
     refine wpQuiet_nil ?_
     refine wpQuiet_nil ?_
     change wpList _ _ _ (_ :: []) _ _
     go_wp2_with fail
     refine (insSha_is B g c sh hn k (by omega) ⟨sm, st, ss⟩ wd.heap.size _ (by have := HBW.out.size; omega) (by omega) HOV.out HBV.out).mono ?_
     exact zb6
  ·obtain rfl : k = sh.length := by omega
   go_wp2
   refine wp_region_kin (by kernel_rfl) (by kernel_rfl) ?_
   repeat (go_big_quiet_step ((fail)))
   refine wpQuiet_nil ?_
   intro K
   clear c4 s'; have hb' := bth hb K.below; have hFr := HFR.out.below K.below HFR.out.lt; have hSr := HSR.out.below K.below HSR.out.lt; have hOr := HOR.out.later K.below; clear HFR HSR HOR
   generalize K.world = wk at *
   have c4 := fun K : Kin wk.heap.size wk => ((hFr.below K.below hFr.lt).cell 4).trans (show _ = some (.slice (some ⟨g, 0, none⟩) sh.length c) from rfl)
   have s' := Blk.cs3K (fun K : Kin wk.heap.size wk => (hSr.below K.below hSr.lt)); have HFR := lh hFr; have HSR := lh hSr; have HOR := lh hOr; clear hFr hSr hOr
   go_wp2
   refine wp_region_kin (by kernel_rfl) (by kernel_rfl) ?_
   repeat (go_big_quiet_step ((fail)))
   refine wpQuiet_nil ?_
   intro K
   clear c4 s'; have hbq := bth hb' K.below; have hFr := HFR.out.below K.below HFR.out.lt; have hSr := HSR.out.below K.below HSR.out.lt; have hOr := HOR.out.later K.below; clear HFR HSR HOR
   generalize K.world = wn at *
   have e1 : setSh sh s = sh.take sh.length ++ s :: sh.drop sh.length := setSh_new (Nat.le_refl _) (fun j y hj hy => HL.out j y hj hy) (fun y hy => by have := (List.getElem?_eq_some_iff.1 hy).1; omega) (fun y hy => by have := (List.getElem?_eq_some_iff.1 hy).1; omega); have hbn := bth hb0 hbq
   obtain ⟨k, hkn⟩ : ∃ k, k = sh.length := ⟨_, rfl⟩
   haveI : Nonempty (Hld (fun V => Blk V p 29 #[.int .i64 tu, .int .i64 se, .int .i64 sp, vW, .slice (some ⟨g, 0, none⟩) sh.length c] ∧ Blk V w.heap.size 144 #[.int .i64 sm, .int .i64 st, .int .i64 ss])) := ⟨⟨wn, hFr, hSr⟩⟩
   haveI : Nonempty (Hld (fun _ => True)) := ⟨⟨wn, trivial⟩⟩
   have c4 := fun K : Hld (fun V => Blk V p 29 #[.int .i64 tu, .int .i64 se, .int .i64 sp, vW, .slice (some ⟨g, 0, none⟩) sh.length c] ∧ Blk V w.heap.size 144 #[.int .i64 sm, .int .i64 st, .int .i64 ss]) => (K.holds.1.cell 4).trans (show _ = some (.slice (some ⟨g, 0, none⟩) sh.length c) from rfl)
   have s' := Blk.cs3K (fun K : Hld (fun V => Blk V p 29 #[.int .i64 tu, .int .i64 se, .int .i64 sp, vW, .slice (some ⟨g, 0, none⟩) sh.length c] ∧ Blk V w.heap.size 144 #[.int .i64 sm, .int .i64 st, .int .i64 ss]) => K.holds.2); have HFR := lh hFr; have HSR := lh hSr; have HOR := lh hOr; have E1 := lh e1; clear hFr hSr hOr e1
   go_wp2
   refine wp_region_mx (fun V => Blk V p 29 #[.int .i64 tu, .int .i64 se, .int .i64 sp, vW, .slice (some ⟨g, 0, none⟩) sh.length c] ∧ Blk V w.heap.size 144 #[.int .i64 sm, .int .i64 st, .int .i64 ss]) [([1, 2, 3, 4, 5, 6], [0], 7, false), ([], [], 8, true), ([], [9, 10], 11, true)] [] [] (by kernel_rfl) (by kernel_rfl) ⟨HFR.out, HSR.out⟩ ?_
   refine wpMx_cons fun K hK => ?_
   change wpQuiet _ _ _ _ (_ :: _ :: _ :: _ :: _ :: _ :: []) _
   repeat (go_big_quiet_step (fail))
   refine wpQuiet_nil ?_
   change wpQuiet _ _ _ _ (_ :: []) _
   repeat (go_big_quiet_step (fail))
   refine wpQuiet_nil ?_
   change wpList _ _ _ (_ :: []) _ _
   clear c4 s'; have hFr : Blk wn.drew p 29 #[.int .i64 tu, .int .i64 se, .int .i64 sp, vW, .slice (some ⟨g, 0, none⟩) sh.length c] := HFR.out; have hSr : Blk wn.drew w.heap.size 144 #[.int .i64 sm, .int .i64 st, .int .i64 ss] := HSR.out; have hOr := HOR.out.later (Below.refl _ wn).drew; have hb4 : Below w.heap.size w wn.drew := hbn.drew; clear HFR HSR HOR
   generalize wn.drew = wd at *
   have HBV := lh (Blk.new wd 144 #[.int .i64 sm, .int .i64 st, .int .i64 ss]); have HFV := lh (hFr.alloc (.cells #[.int .i64 sm, .int .i64 st, .int .i64 ss] 144)); have HSV := lh (hSr.alloc (.cells #[.int .i64 sm, .int .i64 st, .int .i64 ss] 144)); have HOV := lh (hOr.alloc (.cells #[.int .i64 sm, .int .i64 st, .int .i64 ss] 144)); have HBW := lh (bth hb4 (bl1 wd (.cells #[.int .i64 sm, .int .i64 st, .int .i64 ss] 144)))
   have hgd := (hOr.lt g rfl).2; clear hFr hSr hOr
   go_wp2
   refine Nrm_keep ⟨HFV.out, HSV.out⟩ (hK _ _ ?_)
   refine wpMx_cons fun K2 hK2 => ?_
   refine wpQuiet_nil ?_
   refine wpQuiet_nil ?_
   change wpList _ _ _ (_ :: []) _ _
   go_wp2_with fail
   refine (insSha_is B g c sh hn sh.length (Nat.le_refl _) ⟨sm, st, ss⟩ wd.heap.size _ (by have := HBW.out.size; omega) (by omega) HOV.out HBV.out).mono ?_
   exact zb6
open Go.RowKit Go.G9
theorem flo_len {f : Fl} (h : f.ok = true) : f.ws.length ≤ 10 ∧ f.sh.length ≤ 99 := by
 have H := fl_ok.1 h
 refine ⟨H.l, lt_len (N := 99) (lo := 0) H.ord fun x hx => ?_⟩
 have := shaOk_iff.1 (H.ok x hx); have := inB_iff.1 this.1
 omega
def ySp (sp st ss : Int) : MkSpec Nat where
 par := fun _ => []
 val := fun n p => match n with
  | 7 => .agg #[.int .i64 sp, .int .i64 st, .int .i64 ss]
  | 8 => .pointer (some ⟨p, 0, none⟩)
  | _ => undef
 post := fun n _ p V0 V => match n with
  | 8 => V0.heap.size = p ∧ Blk V p 144 #[.int .i64 0, .int .i64 0, .int .i64 0]
  | _ => True
theorem zb139 {p : Prop} (h : p := by
 change wpList _ _ _ (_ :: []) _ _
 go_wp2
 exact Nrm_mk ⟨k.world.heap.size, rfl, bl1 _ _, rfl, Blk.new _ _ _⟩) : p := h
theorem yield_is (B p : Nat) (tu se sp : Int) (A2 : Option Addr) (nW cW : Nat) (g c : Nat) (sh : List Sha) (hn : sh.length ≤ 1048575) (st ss : Int) (hs : shareF sh sp = ⟨sp, st, ss⟩) (h0 : 0 ≤ st) (h1 : st ≤ 1000) (w : World) (hBp : B ≤ p) (hBw : B ≤ w.heap.size)
  (hF : Blk w p 29 #[.int .i64 tu, .int .i64 se, .int .i64 sp, .slice A2 nW cW, .slice (some ⟨g, 0, none⟩) sh.length c]) (hO : OwnV B 144 3 Sha.cells w (.slice (some ⟨g, 0, none⟩) sh.length c) sh) :
 Calls Tryz.prog 200 #[.pointer (some ⟨p, 0, none⟩)] w fun e w' => e = .returned (.tuple #[]) ∧ ∃ g' c' w1, w.grownBy w1 (some g) ∧ w1.grownBy w' (some p) ∧ Blk w' p 29 #[.int .i64 tu, .int .i64 se, .int .i64 0, .slice A2 nW cW, .slice (some ⟨g', 0, none⟩) (setSh sh ⟨sp, st + 1, ss⟩).length c'] ∧ OwnV B 144 3 Sha.cells w' (.slice (some ⟨g', 0, none⟩) (setSh sh ⟨sp, st + 1, ss⟩).length c') (setSh sh ⟨sp, st + 1, ss⟩) ∧ p ≠ g' := by
 have hpl := hF.lt; have hpg := hO.notBlk hF (by decide); have HF := lh hF; have HO := lh hO; have HS := lh hs; clear hF hO hs
 go_in
 obtain ⟨CC1, hCC1⟩ : ∃ X : World → Prop, ∀ V, X V ↔ (Below w.heap.size w V) := ⟨_, fun _ => Iff.rfl⟩
 have HCC1 := lh hCC1; clear hCC1
 haveI : Nonempty (Hld CC1) := ⟨⟨w, ((HCC1.out _).2 ((Below.refl _ _)))⟩⟩
 obtain ⟨c0, c1, c2, c3, c4⟩ := Blk.cs5K (fun K : Hld CC1 => (HF.out.below ((HCC1.out _).1 K.holds) HF.out.lt))
 go_wp2
 refine wp_region_mk (ySp sp st ss) CC1 [([0, 1, 2, 3, 4, 5, 6], 7), ([], 8)] [] [([], 9)] [] (by kernel_rfl) (by kernel_rfl) ((HCC1.out _).2 ((Below.refl _ _).drew)) (fun W W' h k => ((HCC1.out _).2 (((HCC1.out _).1 h).trans (k.mono ((HCC1.out _).1 h).size)))) ?_
 intro σ
 refine wpMk1_cons (some 10) rfl (.agg #[.int .i64 sp, .int .i64 st, .int .i64 ss]) rfl fun K1 hK1 => ?_
 change wpQuiet _ _ _ _ (_ :: _ :: _ :: _ :: _ :: _ :: _ :: []) _
 repeat (go_big_quiet_step (fail))
 refine wpQuiet_nil ?_
 refine ⟨fun k hpar => ?_, hK1 _ ?_⟩
 ·change wpList _ _ _ (_ :: []) _ _
  go_wp2_with fail
  refine (shareOf_is tu se sp A2 nW cW (some ⟨g, 0, none⟩) c sh (by omega) sp ⟨sp, st, ss⟩ HS.out _ (HO.out.later ((HCC1.out _).1 k.holds)).rds).mono ?_
  rintro e w9 ⟨rfl, hb9⟩
  go_wp2
  exact Nrm_mk ⟨0, rfl, hb9, trivial⟩
 simp only [Act.put]
 go_simp
 refine wpMk1_cons (some 2) rfl (.pointer (some ⟨σ 8, 0, none⟩)) rfl fun K1 hK1 => ?_
 change wpQuiet _ _ _ _ ([]) _
 refine wpQuiet_nil ?_
 refine ⟨fun k hpar => ?_, hK1 _ ?_⟩
 ·exact zb139
 simp only [Act.put]
 go_simp
 refine wpMk1_last ?_
 change wpQuiet _ _ _ _ ([]) _
 refine wpQuiet_nil ?_
 intro V0 V W hM hW
 clear c0 c1 c2 c3 c4
 obtain ⟨hg8, hG⟩ : (V0 8).heap.size = σ 8 ∧ Blk (V 8) (σ 8) 144 #[.int .i64 0, .int .i64 0, .int .i64 0] := hM.post 8 (by simp)
 have hz11 : w.heap.size ≤ σ 8 := hg8 ▸ (hM.from0 8 (by simp)).size; have hGG := hG.below (hM.later 8 (by simp)) hG.lt; have hq2 : Below w.heap.size w W := bth bel (hM.whole 8 (by simp)).undrew; have HB : Below w.heap.size w W := hq2; clear hM hG hg8 hW
 generalize σ 8 = q at *
 have q' := hGG.cs3
 refine wpMix_cons fun K2 hK2 => ?_
 change wpQuiet _ _ _ _ ([]) _
 refine wpQuiet_nil ?_
 change wpList _ _ _ (_ :: []) _ _
 obtain ⟨fhGG0, fhGG1, fhGG2⟩ := hGG.fz3
 go_wp2
 clear q'
 refine st3 0 fun W3 tW3 => ?_
 replace HB := tW3.hc HB; replace hGG := tW3.all3 hGG; have q' := hGG.cs3
 refine Nrm_intro (((HCC1.out _).2 HB)) (hK2 _ _ ?_)
 refine wpMix_last ?_
 change wpQuiet _ _ _ _ ([]) _
 refine wpQuiet_nil ?_
 have hw1 : IntKind.i64.wrap (st + 1) = st + 1 := by rw [IntKind.wrap_i64]; omega
 have fhGG1 := hGG.frozen 1
 go_upto_region 2 with fail
 clear q'
 refine st1 1 fun W4 tW4 => ?_
 replace HB := tW4.hc HB; replace hGG : Blk W4 (q) 144 #[.int .i64 sp, .int .i64 (st + 1), .int .i64 ss] := tW4.own hGG; have q' := hGG.cs3; have hF4 := HF.out.below HB HF.out.lt; have hO4 := HO.out.later HB; have hs4 := HB.size; have HF4 := lh hF4; have HO4 := lh hO4; clear hF4 hO4
 go_wp2_with fail
 refine (setShare_is B p tu se sp (.slice A2 nW cW) g c sh hn sp (st + 1) ss _ rfl _ hBp (by omega) hpg HF4.out HO4.out).mono ?_
 rintro e w5 ⟨rfl, g', c', w1, hg1, hg2, hF5, hO5, hpg5⟩
 have fz := hF5.frozen 2; have fc := (hF5.cell 2).trans (show _ = some (.int .i64 sp) from rfl); have HF5 := lh (hF5.set_ 2 (.int .i64 0)); have HO5 := lh (hO5.kept (grown_set (j := 2) (grown_refl w5 (some p)) (.int .i64 0)) (fun k hk e => by have h1 : g' = k := Option.some.inj hk; have h2 : k = p := Option.some.inj e; omega)); have HG1 := lh (grown_tr (bgr HB (some g)) hg1); have HG2 := lh (grown_set (j := 2) hg2 (.int .i64 0))
 clear hF5 hO5 hg1 hg2 q'
 go_wp2
 exact ⟨rfl, Value.tuple #[], by simp [results, Tryz.results200, go_sem], rfl, g', c', w1, HG1.out, HG2.out, HF5.out, HO5.out, hpg5⟩
theorem iYieldF_is (tu se sp : Int) (A2 : Option Addr) (c2 : Nat) (ws : List Int) (A3 : Option Addr) (c3 : Nat) (sh : List Sha) (h2 : ws.length ≤ 1048576) (h3 : sh.length ≤ 1048576) (n2 : A2 = none → ws = [] ∧ c2 = 0) (n3 : A3 = none → sh = [] ∧ c3 = 0) (k2 : ws.length ≤ c2) (hv : yldB ⟨tu, se, sp, ws, sh⟩ = false) (w : World) (R2 : Rds 1 intC w A2 ws) (R3 : Rds 3 Sha.cells w A3 sh) :
 Calls Tryz.prog 171 #[.agg #[.int .i64 tu, .int .i64 se, .int .i64 sp, .slice A2 ws.length c2, .slice A3 sh.length c3]] w fun e w' => e = .returned (.tuple #[.agg #[.int .i64 0, .int .i64 0, .int .i64 0, .slice none 0 0, .slice none 0 0], .bool false]) ∧ Below w.heap.size w w' := by

 have HR2 := lh R2; have HR3 := lh R3; clear R2 R3 n2 n3

 cases hf : floB tu se sp ws sh
 ·have HV := lh hf
  clear hf hv
  go_in
  go_upto_region 1 with fail
  refine lay2 fun wX hq1 hF hZ => ?_
  have HB := hq1; have f' := hF.cs5; have z' := hZ.cs5
  go_wp2_with fail
  refine (isValidFloor_is tu se sp A2 ws c2 A3 c3 sh h2 h3 k2 _ HV.out _ (HR2.out.below (bth HB bel)) (HR3.out.below (bth HB bel))).mono ?_
  rintro e w2 ⟨rfl, hb2⟩
  have hq2 := be wX hb2; replace HB := bth HB hq2; clear f'; replace hZ := hZ.to hq2; clear z'; have z' := hZ.cs5; have fhZ' := hZ.fz5
  go_wp2
  clear z'
  refine st5 0 fun W9 tW9 => ?_
  replace HB := tW9.hc HB; replace hZ := tW9.all5 hZ; have z' := hZ.cs5
  exact brt ⟨rfl, HB⟩ (by simp [results, Tryz.results171, go_sem, z'])
 ·have hs : (sp == 0) = true := by simpa [yldB, Fl.ok, hf] using hv
  have HV := lh hf; clear hf hv
  go_in
  go_upto_region 1 with fail
  refine lay2 fun wX hq1 hF hZ => ?_
  have HB := hq1; have f' := hF.cs5; have z' := hZ.cs5
  go_wp2_with fail
  refine (isValidFloor_is tu se sp A2 ws c2 A3 c3 sh h2 h3 k2 _ HV.out _ (HR2.out.below (bth HB bel)) (HR3.out.below (bth HB bel))).mono ?_
  rintro e w2 ⟨rfl, hb2⟩
  have hq2 := be wX hb2; replace HB := bth HB hq2; replace hF := hF.to hq2; clear f'; have f' := hF.cs5; replace hZ := hZ.to hq2; clear z'; have z' := hZ.cs5; have fhZ' := hZ.fz5
  go_wp2
  clear f' z'
  refine st5 0 fun W9 tW9 => ?_
  replace HB := tW9.hc HB; replace hZ := tW9.all5 hZ; have z' := hZ.cs5
  exact brt ⟨rfl, HB⟩ (by simp [results, Tryz.results171, go_sem, z'])
theorem iYieldT_is (tu se sp : Int) (A2 : Option Addr) (c2 : Nat) (ws : List Int) (A3 : Option Addr) (c3 : Nat) (sh : List Sha) (h2 : ws.length ≤ 1048576) (h3 : sh.length ≤ 1048576) (n2 : A2 = none → ws = [] ∧ c2 = 0) (n3 : A3 = none → sh = [] ∧ c3 = 0) (k2 : ws.length ≤ c2) (hv : yldB ⟨tu, se, sp, ws, sh⟩ = true) (w : World) (R2 : Rds 1 intC w A2 ws) (R3 : Rds 3 Sha.cells w A3 sh) :
 Calls Tryz.prog 171 #[.agg #[.int .i64 tu, .int .i64 se, .int .i64 sp, .slice A2 ws.length c2, .slice A3 sh.length c3]] w fun e w' => ∃ D2 d2 D3 d3, e = .returned (.tuple #[.agg #[.int .i64 tu, .int .i64 se, .int .i64 0, .slice D2 ws.length d2, .slice D3 (yldF ⟨tu, se, sp, ws, sh⟩).sh.length d3], .bool true]) ∧ FlO w.heap.size w' D2 d2 D3 d3 ws (yldF ⟨tu, se, sp, ws, sh⟩).sh ∧ Below w.heap.size w w' := by

 have HR2 := lh R2; have HR3 := lh R3; have HN2 := lh n2; have HN3 := lh n3; clear R2 R3 n2 n3

 have hok : (⟨tu, se, sp, ws, sh⟩ : Fl).ok = true := by simp only [yldB, Bool.and_eq_true] at hv; exact hv.1
 have hs : (sp == 0) = false := by simp only [yldB, Bool.and_eq_true, Bool.not_eq_true'] at hv; exact hv.2
 have hlen := flo_len hok
 obtain ⟨hp1, hp2, hp3⟩ := ok_share hok (beq_eq_false_iff_ne.1 hs)
 have htu := (fl_ok.1 hok).t
 obtain ⟨hq1, hq2, hq3⟩ := shaOk_iff.1 hp2
 have hmem := shareF_mem (xs := sh) (m := sp)
 obtain ⟨⟨s0m, st, ss⟩, hsh⟩ : ∃ x, shareF sh sp = x := ⟨_, rfl⟩
 have ey : yldS ⟨tu, se, sp, ws, sh⟩ = ⟨sp, st + 1, ss⟩ := by simp [yldS, hsh]
 have e1 : (yldF ⟨tu, se, sp, ws, sh⟩).sh = setSh sh ⟨sp, st + 1, ss⟩ := by simp [yldF, ey]
 simp only at hp3 hq2 hq3
 rw [hsh] at hp3 hq2 hq3 hmem
 simp only at hp3 hq2 hq3 hmem htu
 subst hmem
 rw [e1]
 have HV : Hid (floB tu se s0m ws sh = true) := lh hok; have HSH := lh hsh
 have hshl : sh.length ≤ 1048575 := by simp only at hlen; omega
 clear hok hv hp1 hp2 hq1 hsh ey e1 hlen
 go_in
 go_upto_region 1 with fail
 refine lay2 fun wX hq1 hF hZ => ?_
 have HB := hq1; have f' := hF.cs5; have z' := hZ.cs5; have hz0' := hZ.lt
 go_wp2_with fail
 refine (isValidFloor_is tu se s0m A2 ws c2 A3 c3 sh h2 h3 k2 _ HV.out _ (HR2.out.below (bth HB bel)) (HR3.out.below (bth HB bel))).mono ?_
 rintro e w2 ⟨rfl, hb2⟩
 have hq2 := be wX hb2; replace HB := bth HB hq2; replace hF := hF.to hq2; clear f'; have f' := hF.cs5; replace hZ := hZ.to hq2; clear z'; have z' := hZ.cs5
 go_wp2_with fail
 refine (newFloor_is tu se s0m A2 c2 ws A3 c3 sh h2 h3 HN2.out HN3.out _ (HR2.out.below (bth HB bel)) (HR3.out.below (bth HB bel))).mono ?_
 rintro e w3 ⟨D2, d2, g3, d3, rfl, OO, hb3⟩
 have hq3 := be w2 hb3; replace HB := bth HB hq3; clear f'; replace hZ := hZ.to hq3; clear z'; have z' := hZ.cs5
 go_upto_region 4 with fail
 have hO4 := OO.later (bl1 w3 (.cells #[.int .i64 tu, .int .i64 se, .int .i64 s0m, .slice D2 ws.length d2, .slice (some ⟨g3, 0, none⟩) sh.length d3] 29)); have hcl := (OO.o3.lt g3 rfl)
 have hc2 := fun k hk => (OO.o2.lt k hk).2
 have hbx : w2.heap.size ≤ w3.heap.size := hb3.size; have HC2 := lh hc2; clear OO hc2; have hq4 : Below w3.heap.size w3 (World.alloc w3 (.cells #[.int .i64 tu, .int .i64 se, .int .i64 s0m, .slice D2 ws.length d2, .slice (some ⟨g3, 0, none⟩) sh.length d3] 29)) := bl1 w3 _
 have hX : Blk (World.alloc w3 (.cells #[.int .i64 tu, .int .i64 se, .int .i64 s0m, .slice D2 ws.length d2, .slice (some ⟨g3, 0, none⟩) sh.length d3] 29)) (w3.heap.size) 29 #[.int .i64 tu, .int .i64 se, .int .i64 s0m, .slice D2 ws.length d2, .slice (some ⟨g3, 0, none⟩) sh.length d3] := by repeat (first | exact Blk.new _ _ _ | exact Blk.new2 _ _ _ _ | exact Blk.new3 _ _ _ _ _ | exact Blk.new4 _ _ _ _ _ _ | refine Blk.alloc ?_ _)
 generalize World.alloc w3 (.cells #[.int .i64 tu, .int .i64 se, .int .i64 s0m, .slice D2 ws.length d2, .slice (some ⟨g3, 0, none⟩) sh.length d3] 29) = w4 at *
 replace HB := bth HB hq4; have x' := hX.cs5; clear z'; replace hZ := hZ.to hq4; have z' := hZ.cs5; have hx0 := hX.lt; have szq := hq2.size; have HX := lh hX; have HO := lh hO4; clear hX hO4 x'
 go_wp2_with fail
 refine (yield_is w2.heap.size w3.heap.size tu se s0m D2 ws.length d2 g3 d3 sh hshl st ss HSH.out (by omega) (by omega) _ (by omega) (by omega) HX.out HO.out.o3).mono ?_
 rintro e w5 ⟨rfl, g5, c5, w6, hg1, hg2, hX5, hO5, hpg5⟩
 have hZ5 := (hZ.grownN hg1 (by intro e; have := Option.some.inj e; omega)).grownN hg2 (by intro e; have := Option.some.inj e; omega); have hO2 := (HO.out.o2.kept hg1 (fun k hk e => HO.out.ap k hk (by rw [e]; rfl))).kept hg2 (fun k hk e => by have h1 := HC2.out k hk; have h2 : k = w3.heap.size := Option.some.inj e; omega); have HB5 : Below w.heap.size w w5 := (HB.grown hg1 (by omega) (fun k hk => by have := Option.some.inj hk; omega)).grown hg2 (by have := hg1.size; omega) (fun k hk => by have := Option.some.inj hk; omega)
 have HO5 := lh hO5; have HO2 := lh hO2; clear hO5 hO2 hg1 hg2 hpg5 hZ z' hF; replace HB := HB5; clear HB5; have z' := hZ5.cs5; have x' := hX5.cs5; have fhZ50 := hZ5.frozen 0; have fhZ51 := hZ5.frozen 1; have fhZ52 := hZ5.frozen 2; have fhZ53 := hZ5.frozen 3; have fhZ54 := hZ5.frozen 4; have O2 := HO2.out; have O3 := HO5.out
 go_wp2
 clear z' x'
 refine st5 0 fun W9 tW9 => ?_
 replace HB := tW9.hc HB; replace hZ5 := tW9.all5 hZ5; replace O2 := O2.keptS tW9 (fun k hk => by first | exact neO2 k hk | (have := O2.lt k hk; omega)); replace O3 := O3.keptS tW9 (fun k hk => by first | exact neO3 k hk | (have := O3.lt k hk; omega)); have z' := hZ5.cs5
 refine bodyPost_ret (v := .tuple #[.agg #[.int .i64 tu, .int .i64 se, .int .i64 0, .slice D2 ws.length d2, .slice (some ⟨g5, 0, none⟩) (setSh sh ⟨s0m, st + 1, ss⟩).length c5], .bool true]) (by simp [results, Tryz.results171, go_sem, z']) rfl ?_
 exact ⟨D2, d2, some ⟨g5, 0, none⟩, c5, rfl, ⟨O2.base (by omega), O3.base (by omega), O2.apart O3 (by decide)⟩, HB⟩
end Go.Proofs.YtjimibkgocieoaaGreat
