/- Texts of the proof: walks of the functions, and what they compute. -/
import Derived.Deep.Cut
import Derived.Test.YtjimibkgocieoaaGreatRb4
import Derived.Test.YtjimibkgocieoaaGreatRb0
import Derived.Test.YtjimibkgocieoaaGreatRb3
set_option maxHeartbeats 16000000
set_option maxRecDepth 100000
namespace Go.Proofs.YtjimibkgocieoaaGreat
open Go.RowKit Go.G9
def queB (rs : List Rul) (q : Que) : Bool := match fnd rs q.rule with | some r => memB q.mover && !(q.sec && !r.second) | none => false
def ordB (rs : List Rul) (p q : Que) : Bool := match fnd rs p.rule, fnd rs q.rule with | some t, some r => !lackB t p && decide (t.rank < r.rank) | _, _ => false
def queStep (rs : List Rul) (qs : List Que) : Nat → Bool
 | 0 => match qs[0]? with | some q => queB rs q | none => true
 | j + 1 => match qs[j]?, qs[j + 1]? with | some p, some q => queB rs q && ordB rs p q | _, _ => true
def pendB (rs : List Rul) (qs : List Que) : Bool := rulesB rs && (decide (qs.length ≤ 6) && allTo (queStep rs qs) qs.length)
theorem queStep_succ {rs : List Rul} {qs : List Que} {j : Nat} {p q : Que} (hp : qs[j]? = some p) (hq : qs[j + 1]? = some q) : queStep rs qs (j + 1) = (queB rs q && ordB rs p q) := by simp only [queStep, hp, hq]
theorem queStep_zero {rs : List Rul} {qs : List Que} {q : Que} (hq : qs[0]? = some q) : queStep rs qs 0 = queB rs q := by simp only [queStep, hq]
theorem queB_found {rs : List Rul} {q : Que} (h : queB rs q = true) : ∃ r, fnd rs q.rule = some r := by
 unfold queB at h
 split at h
 ·rename_i r hr; exact ⟨r, hr⟩
 ·cases h
theorem queStep_queB {rs : List Rul} {qs : List Que} {k : Nat} {q : Que} (h : queStep rs qs k = true) (hq : qs[k]? = some q) : queB rs q = true := by
 cases k with
 | zero => rw [queStep_zero hq] at h; exact h
 | succ j =>
  have hlt := (List.getElem?_eq_some_iff.1 hq).1; have hp : qs[j]? = some qs[j] := List.getElem?_eq_getElem (by omega)
  rw [queStep_succ hp hq, Bool.and_eq_true] at h; exact h.1
theorem queStep_bad {rs : List Rul} {qs : List Que} {k : Nat} {q : Que} (hq : qs[k]? = some q) (h : queB rs q = false) : queStep rs qs k = false := by
 cases hc : queStep rs qs k with
 | false => rfl
 | true => rw [queStep_queB hc hq] at h; cases h
theorem queB_none {rs : List Rul} {q : Que} (h : fnd rs q.rule = none) : queB rs q = false := by simp [queB, h]
theorem queB_some {rs : List Rul} {q : Que} {r : Rul} (h : fnd rs q.rule = some r) : queB rs q = (memB q.mover && !(q.sec && !r.second)) := by simp [queB, h]
theorem ordB_some {rs : List Rul} {p q : Que} {t r : Rul} (h : fnd rs p.rule = some t) (h2 : fnd rs q.rule = some r) : ordB rs p q = (!lackB t p && decide (t.rank < r.rank)) := by simp [ordB, h, h2]
theorem pendB_found {rs : List Rul} {qs : List Que} (h : pendB rs qs = true) {k : Nat} {q : Que} (hq : qs[k]? = some q) : ∃ r, fnd rs q.rule = some r := by
 simp only [pendB, Bool.and_eq_true] at h
 exact queB_found (queStep_queB (allTo_iff.1 h.2.2 k (List.getElem?_eq_some_iff.1 hq).1) hq)
theorem pendB_not {rs : List Rul} {qs : List Que} {k : Nat} (hk : k < qs.length) (h : queStep rs qs k = false) : pendB rs qs = false := by rw [pendB, allTo_not hk h]; simp
theorem zb92 {p : Prop} (h : p := by
 rintro e w1 ⟨rfl, hb1⟩
 have hq1 := be w hb1; have HB : Below w.heap.size w w1 := hq1; replace hR := hR.below hq1; replace hQ := hQ.below hq1
 go_wp2
 go_ret
 exact ⟨ret_bool (by simp [pendB, hr]), (bth HB bel)⟩) : p := h
theorem zb82 {p : Prop} (h : p := by
 rintro e w1 ⟨rfl, hb1⟩
 have hq1 := be w hb1; have HB : Below w.heap.size w w1 := hq1; replace hR := hR.below hq1; replace hQ := hQ.below hq1
 go_wp2
 go_ret
 exact ⟨ret_bool (by rw [pendB, decide_eq_false hl6]; simp), (bth HB bel)⟩) : p := h
theorem zb125 {p : Prop} (h : p := by
 go_wp2
 go_ret
 exact ⟨ret_bool (pendB_not hlt (queStep_bad HX.out (queB_none (q := ⟨qr, qm, qd⟩) HF.out))).symm, (bth HB bel)⟩) : p := h
theorem zb93 {p : Prop} (h : p := by
 rintro e w0 ⟨rfl, h0⟩
 rw [h0]
 clear h0 w0
 go_wp2
 go_ret
 exact ⟨ret_bool (pendB_not hlt (queStep_bad HX.out (by rw [queB_some (q := ⟨qr, qm, qd⟩) HF.out]; simp only [HM.out]; rfl))).symm, (bth HB bel)⟩) : p := h
theorem zb103 {p : Prop} (h : p := by
 have x' := hX.cs3
 go_wp2
 go_roundw
 case rel => exact ⟨1, by omega, by go_num, allTo_go HL.out (by rw [queStep_zero HX.out]; exact HQB.out), (bth HB bel)⟩
 case measure => simp [intOf]; omega) : p := h
theorem zb43 {p : Prop} (h : p := by
 repeat (go_big_quiet_step (fail))
 refine wpQuiet_nil ?_
 intro K
 go_wp2
 go_roundw
 case rel => exact ⟨j + 1 + 1, by omega, by go_num, allTo_go HL.out (by rw [queStep_succ HY.out HX.out, HQB.out, ordB_some HT.out HF.out, HK.out, decide_eq_true (show (Rul.rank ⟨tid, tn, tr, ts, td, ta, tnd, tok⟩) < (Rul.rank ⟨id, nm, rk, se, de, am, nd, hs⟩) from hrk)]; rfl), bth HB K.below⟩
 case measure => simp [intOf]; omega) : p := h
theorem zb54 {p : Prop} (h : p := by
 repeat (go_big_quiet_step (fail))
 refine wpQuiet_nil ?_
 intro K
 go_wp2
 go_ret
 exact ⟨ret_bool (pendB_not hlt (by rw [queStep_succ HY.out HX.out, HQB.out, ordB_some HT.out HF.out, HK.out, decide_eq_false (show ¬ (Rul.rank ⟨tid, tn, tr, ts, td, ta, tnd, tok⟩) < (Rul.rank ⟨id, nm, rk, se, de, am, nd, hs⟩) from by show ¬ tr < rk; omega)]; rfl)).symm, bth HB K.below⟩) : p := h
theorem zb36 {p : Prop} (h : p := by
 refine wp_region_kin (by kernel_rfl) (by kernel_rfl) ?_
 repeat (go_big_quiet_step (fail))
 go_big_quiet_step ((go_at_call 117; exact Kin.call _ (by first | exact Nat.le_refl _ | omega) (lacksSecond_is A c rs hn ⟨pr, pm, pd⟩ ⟨tid, tn, tr, ts, td, ta, tnd, tok⟩ HT.out _ HK.out _ (PR.out.below (Kin.below _)))))
 repeat (go_big_quiet_step (fail))
 refine wpQuiet_nil ?_
 intro K
 go_wp2
 go_ret
 exact ⟨ret_bool (pendB_not hlt (by rw [queStep_succ HY.out HX.out, HQB.out, ordB_some HT.out HF.out, HK.out]; rfl)).symm, bth HB K.below⟩) : p := h
theorem zb107 {p : Prop} (h : p := by
 go_wp2
 go_ret
 exact ⟨ret_bool (pendB_not hlt (queStep_bad HX.out (by rw [queB_some (q := ⟨qr, qm, true⟩) HF.out]; simp only [HM.out]; rfl))).symm, (bth HB bel)⟩) : p := h
theorem zb42 {p : Prop} (h : p := by
 repeat (go_big_quiet_step (fail))
 refine wpQuiet_nil ?_
 intro K
 go_wp2
 go_roundw
 case rel => exact ⟨j + 1 + 1, by omega, by go_num, allTo_go HL.out (by rw [queStep_succ HY.out HX.out, HQB.out, ordB_some HT.out HF.out, HK.out, decide_eq_true (show (Rul.rank ⟨tid, tn, tr, ts, td, ta, tnd, tok⟩) < (Rul.rank ⟨id, nm, rk, true, de, am, nd, hs⟩) from hrk)]; rfl), bth HB K.below⟩
 case measure => simp [intOf]; omega) : p := h
theorem zb53 {p : Prop} (h : p := by
 repeat (go_big_quiet_step (fail))
 refine wpQuiet_nil ?_
 intro K
 go_wp2
 go_ret
 exact ⟨ret_bool (pendB_not hlt (by rw [queStep_succ HY.out HX.out, HQB.out, ordB_some HT.out HF.out, HK.out, decide_eq_false (show ¬ (Rul.rank ⟨tid, tn, tr, ts, td, ta, tnd, tok⟩) < (Rul.rank ⟨id, nm, rk, true, de, am, nd, hs⟩) from by show ¬ tr < rk; omega)]; rfl)).symm, bth HB K.below⟩) : p := h
theorem zb119 {p : Prop} (h : p := by
 obtain rfl : k = qs.length := by omega
 go_wp2
 go_ret
 exact ⟨ret_bool (by rw [pendB, HR.out, decide_eq_true hl6, HL.out]; rfl), (bth HB bel)⟩) : p := h
theorem arePending_is (A : Option Addr) (c : Nat) (rs : List Rul) (hn : rs.length ≤ 1048576) (hc : rs.length ≤ c) (B : Option Addr) (d : Nat) (qs : List Que) (hq : qs.length ≤ 1048576) (v : Bool) (hv : pendB rs qs = v) (w : World) (hR : Rds 7 Rul.cells w A rs) (hQ : Rds 3 Que.cells w B qs) :
 Calls Tryz.prog 52 #[.slice A rs.length c, .slice B qs.length d] w fun e w' => e = .returned (.bool v) ∧ Below w.heap.size w w' := by
 subst hv
 cases hr : rulesB rs
 ·have HR := lh hr
  go_in
  go_wp2_with fail
  refine (isValidRules_is A c rs hn hc _ HR.out _ (hR.below bel)).mono ?_
  exact zb92
 by_cases hl6 : qs.length ≤ 6
 case neg =>
  have HR := lh hr
  go_in
  go_wp2_with fail
  refine (isValidRules_is A c rs hn hc _ HR.out _ (hR.below bel)).mono ?_
  exact zb82
 have HR := lh hr
 go_in
 have hR0 := lh hR; have hQ0 := lh hQ
 go_wp2_with fail
 refine (isValidRules_is A c rs hn hc _ HR.out _ (hR.below bel)).mono ?_
 rintro e w1 ⟨rfl, hb1⟩
 have hq1 := be w hb1; have HB : Below w.heap.size w w1 := hq1; replace hR := hR.below hq1; replace hQ := hQ.below hq1
 go_wp2
 go_loopw [17] (fun i wr => ∃ k : Nat, k ≤ qs.length ∧ i = .int .i64 k ∧ allTo (queStep rs qs) k = true ∧ Below w.heap.size w wr) (fun i _ => qs.length - (intOf i).toNat)
 case atStart => exact ⟨0, Nat.zero_le _, rfl, rfl, HB⟩
 case round =>
  obtain ⟨k, hk, rfl, hl, hb⟩ := hrel
  have HL := lh hl; clear hl hR hQ HB; have hR := hR0.out; have hQ := hQ0.out; have hq1 := be w hb; have HB : Below w.heap.size w wr := hq1; replace hR := hR.below hq1; replace hQ := hQ.below hq1
  by_cases hlt : k < qs.length
  ·obtain ⟨b, off, q, rfl, hbl, hx, hcx⟩ := hQ.at_ (Below.refl _ _) hlt
   obtain ⟨qr, qm, qd⟩ := q
   have f0 := hcx 0 _ rfl; have f1 := hcx 1 _ rfl; have f2 := hcx 2 _ rfl
   simp only [Nat.add_zero] at f0
   have g0 := f0 (Kin.self _); have g1 := f1 (Kin.self _); have g2 := f2 (Kin.self _)
   simp only [Kin.self] at g0
   simp only [Kin.self] at g1
   simp only [Kin.self] at g2
   have HX := lh hx; clear hx hcx
   go_upto_region 6 with fail
   refine lay1 fun wX hq2 hX => ?_
   replace hR := hR.below hq2; replace hQ := hQ.below hq2; replace HB := bth HB hq2; have x' := hX.cs3; clear f0 f1 f2 g0 g1 g2
   cases hf : fnd rs qr with
   | none =>
    have HF := lh hf; clear hf
    go_wp2_with fail
    refine (ruleIndex_is A c rs hn qr _ (idxB_nil HF.out) _ (hR.below bel)).mono ?_
    rintro e w3 ⟨rfl, hb3⟩
    have hq3 := be wX hb3; replace HB := bth HB hq3; replace hR := hR.below hq3; replace hQ := hQ.below hq3; replace hX := hX.to hq3; clear x'; have x' := hX.cs3
    exact zb125
   | some r =>
    have HF := lh hf; clear hf
    obtain ⟨m, hm, hmr⟩ := idxB_some HF.out
    have HMI := lh hm; clear hm hmr
    obtain ⟨id, nm, rk, se, de, am, nd, hs⟩ := r
    go_wp2_with fail
    refine (ruleIndex_is A c rs hn qr _ HMI.out _ (hR.below bel)).mono ?_
    rintro e w3 ⟨rfl, hb3⟩
    have hq3 := be wX hb3; replace HB := bth HB hq3; replace hR := hR.below hq3; replace hQ := hQ.below hq3; replace hX := hX.to hq3; clear x'; have x' := hX.cs3
    cases hmem : memB qm
    ·have HM := lh hmem; clear hmem
     go_wp2_with fail
     refine (isMember_is qm _ HM.out _).mono ?_
     exact zb93
    ·have HM := lh hmem; clear hmem
     cases qd
     ·clear x'
      have x' := hX.cs3
      go_wp2_with fail
      refine (isMember_is qm _ HM.out _).mono ?_
      rintro e w0 ⟨rfl, h0⟩
      rw [h0]
      clear h0 w0
      go_upto_region 8 with fail
      have HQB : Hid (queB rs ⟨qr, qm, false⟩ = true) := lh (by rw [queB_some (q := ⟨qr, qm, false⟩) HF.out]; simp only [HM.out]; rfl)
      cases k with
      | zero =>
       clear x'; have x' := Blk.cs3K (fun K : Kin w3.heap.size w3 => (hX.below K.below hX.lt))
       refine wp_region_kin (by kernel_rfl) (by kernel_rfl) ?_
       repeat (go_big_quiet_step ((fail)))
       refine wpQuiet_nil ?_
       intro K
       clear x'; have hq4 : Below w3.heap.size w3 K.world := bth bel K.below; replace HB := bth HB hq4; replace hR := hR.below hq4; replace hQ := hQ.below hq4; replace hX := hX.to hq4
       exact zb103
      | succ j =>
       obtain ⟨b', off', p, e', _, hy, hcy⟩ := hQ.at_ (Below.refl _ _) (k := j) (by omega)
       simp only [Option.some.injEq, Addr.mk.injEq, and_true] at e'
       obtain ⟨rfl, rfl⟩ := e'
       obtain ⟨t, htf⟩ := queB_found (queStep_queB (allTo_iff.1 HL.out j (by omega)) hy)
       obtain ⟨pr, pm, pd⟩ := p
       obtain ⟨tid, tn, tr, ts, td, ta, tnd, tok⟩ := t
       have y0 := hcy 0 _ rfl; have y1 := hcy 1 _ rfl; have y2 := hcy 2 _ rfl
       simp only [Nat.add_zero] at y0
       have HY := lh hy; clear hy hcy; have HT := lh htf; clear htf; have PR := lh hR
       have hf1 : ∀ W : World, (Instr.field 48 (.agg #[.int .i64 tid, .string tn, .int .i64 tr, .bool ts, .bool td, .bool ta, .int .i64 tnd]) 2).run Tryz.prog W = .ok (.int .i64 tr) W := fun _ => by kernel_rfl
       have hf2 : ∀ W : World, (Instr.field 48 (.agg #[.int .i64 id, .string nm, .int .i64 rk, .bool se, .bool de, .bool am, .int .i64 nd]) 2).run Tryz.prog W = .ok (.int .i64 rk) W := fun _ => by kernel_rfl
       cases hlk : lackB ⟨tid, tn, tr, ts, td, ta, tnd, tok⟩ ⟨pr, pm, pd⟩
       ·have HK := lh hlk; clear hlk
        by_cases hrk : tr < rk
        ·have hle : decide (rk ≤ tr) = false := decide_eq_false (by omega)
         clear x'; have x' := Blk.cs3K (fun K : Kin w3.heap.size w3 => (hX.below K.below hX.lt))
         refine wp_region_kin (by kernel_rfl) (by kernel_rfl) ?_
         repeat (go_big_quiet_step (fail))
         go_big_quiet_step ((go_at_call 117; exact Kin.call _ (by first | exact Nat.le_refl _ | omega) (lacksSecond_is A c rs hn ⟨pr, pm, pd⟩ ⟨tid, tn, tr, ts, td, ta, tnd, tok⟩ HT.out _ HK.out _ (PR.out.below (Kin.below _)))))
         repeat (go_big_quiet_step (fail))
         go_big_quiet_step ((go_at_call 64; exact Kin.call _ (by first | exact Nat.le_refl _ | omega) (ruleOf_is A c rs hn ⟨pr, pm, pd⟩ ⟨tid, tn, tr, ts, td, ta, tnd, tok⟩ HT.out _ (PR.out.below (Kin.below _)))))
         repeat (go_big_quiet_step (fail))
         go_big_quiet_step ((go_at_call 64; exact Kin.call _ (by first | exact Nat.le_refl _ | omega) (ruleOf_is A c rs hn ⟨qr, qm, false⟩ ⟨id, nm, rk, se, de, am, nd, hs⟩ HF.out _ (PR.out.below (Kin.below _)))))
         exact zb43
        ·have hle : decide (rk ≤ tr) = true := decide_eq_true (by omega)
         clear x'; have x' := Blk.cs3K (fun K : Kin w3.heap.size w3 => (hX.below K.below hX.lt))
         refine wp_region_kin (by kernel_rfl) (by kernel_rfl) ?_
         repeat (go_big_quiet_step (fail))
         go_big_quiet_step ((go_at_call 117; exact Kin.call _ (by first | exact Nat.le_refl _ | omega) (lacksSecond_is A c rs hn ⟨pr, pm, pd⟩ ⟨tid, tn, tr, ts, td, ta, tnd, tok⟩ HT.out _ HK.out _ (PR.out.below (Kin.below _)))))
         repeat (go_big_quiet_step (fail))
         go_big_quiet_step ((go_at_call 64; exact Kin.call _ (by first | exact Nat.le_refl _ | omega) (ruleOf_is A c rs hn ⟨pr, pm, pd⟩ ⟨tid, tn, tr, ts, td, ta, tnd, tok⟩ HT.out _ (PR.out.below (Kin.below _)))))
         repeat (go_big_quiet_step (fail))
         go_big_quiet_step ((go_at_call 64; exact Kin.call _ (by first | exact Nat.le_refl _ | omega) (ruleOf_is A c rs hn ⟨qr, qm, false⟩ ⟨id, nm, rk, se, de, am, nd, hs⟩ HF.out _ (PR.out.below (Kin.below _)))))
         exact zb54
       ·have HK := lh hlk; clear hlk
        clear x'; have x' := Blk.cs3K (fun K : Kin w3.heap.size w3 => (hX.below K.below hX.lt))
        exact zb36
     ·have hf3 : ∀ W : World, (Instr.field 48 (.agg #[.int .i64 id, .string nm, .int .i64 rk, .bool se, .bool de, .bool am, .int .i64 nd]) 3).run Tryz.prog W = .ok (.bool se) W := fun _ => by kernel_rfl
      cases se
      ·clear x'
       have x' := hX.cs3
       go_wp2_with fail
       refine (isMember_is qm _ HM.out _).mono ?_
       rintro e w0 ⟨rfl, h0⟩
       rw [h0]
       clear h0 w0
       go_wp2_with fail
       refine (ruleOf_is A c rs hn ⟨qr, qm, true⟩ ⟨id, nm, rk, false, de, am, nd, hs⟩ HF.out _ (hR.below bel)).mono ?_
       rintro e w4 ⟨rfl, hb4⟩
       have hq4 := be w3 hb4; replace HB := bth HB hq4; replace hR := hR.below hq4; replace hQ := hQ.below hq4; replace hX := hX.to hq4; clear x'; have x' := hX.cs3
       exact zb107
      ·clear x'
       have x' := hX.cs3
       go_wp2_with fail
       refine (isMember_is qm _ HM.out _).mono ?_
       rintro e w0 ⟨rfl, h0⟩
       rw [h0]
       clear h0 w0
       go_wp2_with fail
       refine (ruleOf_is A c rs hn ⟨qr, qm, true⟩ ⟨id, nm, rk, true, de, am, nd, hs⟩ HF.out _ (hR.below bel)).mono ?_
       rintro e w4 ⟨rfl, hb4⟩
       have hq4 := be w3 hb4; replace HB := bth HB hq4; replace hR := hR.below hq4; replace hQ := hQ.below hq4; replace hX := hX.to hq4; clear x'; have x' := hX.cs3
       go_upto_region 8 with fail
       clear hf3; have HQB : Hid (queB rs ⟨qr, qm, true⟩ = true) := lh (by rw [queB_some (q := ⟨qr, qm, true⟩) HF.out]; simp only [HM.out]; rfl)
       cases k with
       | zero =>
        clear x'; have x' := Blk.cs3K (fun K : Kin w4.heap.size w4 => (hX.below K.below hX.lt))
        refine wp_region_kin (by kernel_rfl) (by kernel_rfl) ?_
        repeat (go_big_quiet_step ((fail)))
        refine wpQuiet_nil ?_
        intro K
        clear x'; have hq5 : Below w4.heap.size w4 K.world := bth bel K.below; replace HB := bth HB hq5; replace hR := hR.below hq5; replace hQ := hQ.below hq5; replace hX := hX.to hq5
        exact zb103
       | succ j =>
        obtain ⟨b', off', p, e', _, hy, hcy⟩ := hQ.at_ (Below.refl _ _) (k := j) (by omega)
        simp only [Option.some.injEq, Addr.mk.injEq, and_true] at e'
        obtain ⟨rfl, rfl⟩ := e'
        obtain ⟨t, htf⟩ := queB_found (queStep_queB (allTo_iff.1 HL.out j (by omega)) hy)
        obtain ⟨pr, pm, pd⟩ := p
        obtain ⟨tid, tn, tr, ts, td, ta, tnd, tok⟩ := t
        have y0 := hcy 0 _ rfl; have y1 := hcy 1 _ rfl; have y2 := hcy 2 _ rfl
        simp only [Nat.add_zero] at y0
        have HY := lh hy; clear hy hcy; have HT := lh htf; clear htf; have PR := lh hR
        have hf1 : ∀ W : World, (Instr.field 48 (.agg #[.int .i64 tid, .string tn, .int .i64 tr, .bool ts, .bool td, .bool ta, .int .i64 tnd]) 2).run Tryz.prog W = .ok (.int .i64 tr) W := fun _ => by kernel_rfl
        have hf2 : ∀ W : World, (Instr.field 48 (.agg #[.int .i64 id, .string nm, .int .i64 rk, .bool true, .bool de, .bool am, .int .i64 nd]) 2).run Tryz.prog W = .ok (.int .i64 rk) W := fun _ => by kernel_rfl
        cases hlk : lackB ⟨tid, tn, tr, ts, td, ta, tnd, tok⟩ ⟨pr, pm, pd⟩
        ·have HK := lh hlk; clear hlk
         by_cases hrk : tr < rk
         ·have hle : decide (rk ≤ tr) = false := decide_eq_false (by omega)
          clear x'; have x' := Blk.cs3K (fun K : Kin w4.heap.size w4 => (hX.below K.below hX.lt))
          refine wp_region_kin (by kernel_rfl) (by kernel_rfl) ?_
          repeat (go_big_quiet_step (fail))
          go_big_quiet_step ((go_at_call 117; exact Kin.call _ (by first | exact Nat.le_refl _ | omega) (lacksSecond_is A c rs hn ⟨pr, pm, pd⟩ ⟨tid, tn, tr, ts, td, ta, tnd, tok⟩ HT.out _ HK.out _ (PR.out.below (Kin.below _)))))
          repeat (go_big_quiet_step (fail))
          go_big_quiet_step ((go_at_call 64; exact Kin.call _ (by first | exact Nat.le_refl _ | omega) (ruleOf_is A c rs hn ⟨pr, pm, pd⟩ ⟨tid, tn, tr, ts, td, ta, tnd, tok⟩ HT.out _ (PR.out.below (Kin.below _)))))
          repeat (go_big_quiet_step (fail))
          go_big_quiet_step ((go_at_call 64; exact Kin.call _ (by first | exact Nat.le_refl _ | omega) (ruleOf_is A c rs hn ⟨qr, qm, true⟩ ⟨id, nm, rk, true, de, am, nd, hs⟩ HF.out _ (PR.out.below (Kin.below _)))))
          exact zb42
         ·have hle : decide (rk ≤ tr) = true := decide_eq_true (by omega)
          clear x'; have x' := Blk.cs3K (fun K : Kin w4.heap.size w4 => (hX.below K.below hX.lt))
          refine wp_region_kin (by kernel_rfl) (by kernel_rfl) ?_
          repeat (go_big_quiet_step (fail))
          go_big_quiet_step ((go_at_call 117; exact Kin.call _ (by first | exact Nat.le_refl _ | omega) (lacksSecond_is A c rs hn ⟨pr, pm, pd⟩ ⟨tid, tn, tr, ts, td, ta, tnd, tok⟩ HT.out _ HK.out _ (PR.out.below (Kin.below _)))))
          repeat (go_big_quiet_step (fail))
          go_big_quiet_step ((go_at_call 64; exact Kin.call _ (by first | exact Nat.le_refl _ | omega) (ruleOf_is A c rs hn ⟨pr, pm, pd⟩ ⟨tid, tn, tr, ts, td, ta, tnd, tok⟩ HT.out _ (PR.out.below (Kin.below _)))))
          repeat (go_big_quiet_step (fail))
          go_big_quiet_step ((go_at_call 64; exact Kin.call _ (by first | exact Nat.le_refl _ | omega) (ruleOf_is A c rs hn ⟨qr, qm, true⟩ ⟨id, nm, rk, true, de, am, nd, hs⟩ HF.out _ (PR.out.below (Kin.below _)))))
          exact zb53
        ·have HK := lh hlk; clear hlk
         clear x'; have x' := Blk.cs3K (fun K : Kin w4.heap.size w4 => (hX.below K.below hX.lt))
         exact zb36
  ·exact zb119
theorem zb41 {p : Prop} (h : p := by
 refine wp_region_kin (by kernel_rfl) (by kernel_rfl) ?_
 repeat (go_big_quiet_step ((fail)))
 refine wpQuiet_nil ?_
 intro K
 have hq2 : Below wr.heap.size wr K.world := bth bel K.below; replace HB := bth HB hq2; replace hR := hR.below hq2; replace hQ := hQ.below hq2
 go_wp2
 go_roundw
 case rel => exact ⟨1, by omega, by go_num, allTo_go HL.out (by rw [queStep_zero HX.out]; exact HQB.out), (bth HB bel)⟩
 case measure => simp [intOf]; omega) : p := h
theorem zb29 {p : Prop} (h : p := by
 have HK := lh hlk; clear hlk
 refine wp_region_kin (by kernel_rfl) (by kernel_rfl) ?_
 repeat (go_big_quiet_step (fail))
 go_big_quiet_step ((go_at_call 126; exact Kin.call _ (by first | exact Nat.le_refl _ | omega) (l7Lacks_is _ c rs hn ⟨pr, pm, pd⟩ ⟨tid, tn, tr, ts, td, ta, tnd, tok⟩ HT.out _ HK.out _ (PR.out.below (Kin.below _)))))
 repeat (go_big_quiet_step (fail))
 refine wpQuiet_nil ?_
 intro K
 go_wp2
 go_ret
 exact ⟨ret_bool (pendB_not hlt (by rw [queStep_succ HY.out HX.out, HQB.out, ordB_some HT.out HF.out, HK.out]; rfl)).symm, bth HB K.below⟩) : p := h
theorem l7Good_is (A : Option Addr) (c : Nat) (rs : List Rul) (hn : rs.length ≤ 1048576) (B : Option Addr) (d : Nat) (qs : List Que) (hq : qs.length ≤ 1048576) (v : Bool) (hv : pendB rs qs = v) (w : World) (hR : Rds 7 Rul.cells w A rs) (hQ : Rds 3 Que.cells w B qs) :
 Calls Tryz.prog 103 #[.slice A rs.length c, .slice B qs.length d] w fun e w' => e = .returned (.bool v) ∧ Below w.heap.size w w' := by
 subst hv
 cases hr : rulesB rs
 ·have HR := lh hr
  go_in
  go_wp2_with fail
  refine (l2Good_is A c rs hn _ HR.out _ (hR.below bel)).mono ?_
  exact zb92
 by_cases hl6 : qs.length ≤ 6
 case neg =>
  have HR := lh hr
  go_in
  go_wp2_with fail
  refine (l2Good_is A c rs hn _ HR.out _ (hR.below bel)).mono ?_
  exact zb82
 have HR := lh hr
 go_in
 have hR0 := lh hR; have hQ0 := lh hQ
 go_wp2_with fail
 refine (l2Good_is A c rs hn _ HR.out _ (hR.below bel)).mono ?_
 rintro e w1 ⟨rfl, hb1⟩
 have hq1 := be w hb1; have HB : Below w.heap.size w w1 := hq1; replace hR := hR.below hq1; replace hQ := hQ.below hq1
 go_wp2
 go_loopw [5] (fun i wr => ∃ k : Nat, k ≤ qs.length ∧ i = .int .i64 k ∧ allTo (queStep rs qs) k = true ∧ Below w.heap.size w wr) (fun i _ => qs.length - (intOf i).toNat)
 case atStart => exact ⟨0, Nat.zero_le _, rfl, rfl, HB⟩
 case round =>
  obtain ⟨k, hk, rfl, hl, hb⟩ := hrel
  have HL := lh hl; clear hl hR hQ HB; have hR := hR0.out; have hQ := hQ0.out; have hq1 := be w hb; have HB : Below w.heap.size w wr := hq1; replace hR := hR.below hq1; replace hQ := hQ.below hq1
  by_cases hlt : k < qs.length
  ·obtain ⟨b, off, q, rfl, hbl, hx, hcx⟩ := hQ.at_ (Below.refl _ _) hlt
   obtain ⟨qr, qm, qd⟩ := q
   have f0 := hcx 0 _ rfl; have f1 := hcx 1 _ rfl; have f2 := hcx 2 _ rfl
   simp only [Nat.add_zero] at f0
   have g0 := f0 (Kin.self _); have g1 := f1 (Kin.self _); have g2 := f2 (Kin.self _)
   simp only [Kin.self] at g0
   simp only [Kin.self] at g1
   simp only [Kin.self] at g2
   have HX := lh hx; clear hx hcx
   cases hf : fnd rs qr with
   | none =>
    have HF := lh hf; clear hf
    go_wp2_with fail
    refine (l2Find_is A c rs hn qr _ (idxB_nil HF.out) _ (hR.below bel)).mono ?_
    rintro e w0 ⟨rfl, h0⟩
    rw [h0]
    clear h0 w0
    exact zb125
   | some r =>
    have HF := lh hf; clear hf
    obtain ⟨m, hm, hmr⟩ := idxB_some HF.out
    have hml : m < rs.length := (List.getElem?_eq_some_iff.1 hmr).1
    obtain ⟨b2, off2, r', rfl, hbl2, hr1, hcr⟩ := hR.at_ (Below.refl _ _) hml
    obtain rfl : r = r' := Option.some.inj (hmr.symm.trans hr1)
    obtain ⟨id, nm, rk, se, de, am, nd, hs⟩ := r
    have e2 := hcr 2 _ rfl; have e3 := hcr 3 _ rfl; have e3' := e3 (Kin.self _)
    simp only [Kin.self] at e3'
    have HMI := lh hm; clear hm hmr hr1 hcr
    go_wp2_with fail
    refine (l2Find_is _ c rs hn qr _ HMI.out _ (hR.below bel)).mono ?_
    rintro e w0 ⟨rfl, h0⟩
    rw [h0]
    clear h0 w0
    cases hmem : memB qm
    ·have HM := lh hmem; clear hmem
     go_wp2_with fail
     refine (l7Member_is qm _ HM.out _).mono ?_
     exact zb93
    ·have HM := lh hmem; clear hmem
     cases qd
     ·go_wp2_with fail
      refine (l7Member_is qm _ HM.out _).mono ?_
      rintro e w0 ⟨rfl, h0⟩
      rw [h0]
      clear h0 w0
      go_upto_region 9 with fail
      clear g0 g1 g2 e3 e3' f0 f1 f2; have HQB : Hid (queB rs ⟨qr, qm, false⟩ = true) := lh (by rw [queB_some (q := ⟨qr, qm, false⟩) HF.out]; simp only [HM.out]; rfl)
      cases k with
      | zero =>
       exact zb41
      | succ j =>
       obtain ⟨b', off', p, e', _, hy, hcy⟩ := hQ.at_ (Below.refl _ _) (k := j) (by omega)
       simp only [Option.some.injEq, Addr.mk.injEq, and_true] at e'
       obtain ⟨rfl, rfl⟩ := e'
       obtain ⟨t, htf⟩ := queB_found (queStep_queB (allTo_iff.1 HL.out j (by omega)) hy)
       obtain ⟨pr, pm, pd⟩ := p
       obtain ⟨tid, tn, tr, ts, td, ta, tnd, tok⟩ := t
       have y0 := hcy 0 _ rfl; have y1 := hcy 1 _ rfl; have y2 := hcy 2 _ rfl
       simp only [Nat.add_zero] at y0
       have HY := lh hy; clear hy hcy; have HT := lh htf; clear htf; have PR := lh hR
       cases hlk : lackB ⟨tid, tn, tr, ts, td, ta, tnd, tok⟩ ⟨pr, pm, pd⟩
       ·have HK := lh hlk; clear hlk
        by_cases hrk : tr < rk
        ·have hle : decide (rk ≤ tr) = false := decide_eq_false (by omega)
         refine wp_region_kin (by kernel_rfl) (by kernel_rfl) ?_
         repeat (go_big_quiet_step (fail))
         go_big_quiet_step ((go_at_call 126; exact Kin.call _ (by first | exact Nat.le_refl _ | omega) (l7Lacks_is _ c rs hn ⟨pr, pm, pd⟩ ⟨tid, tn, tr, ts, td, ta, tnd, tok⟩ HT.out _ HK.out _ (PR.out.below (Kin.below _)))))
         repeat (go_big_quiet_step (fail))
         go_big_quiet_step ((go_at_call 161; exact Kin.call _ (by first | exact Nat.le_refl _ | omega) (l7Rank_is _ c rs hn ⟨pr, pm, pd⟩ ⟨tid, tn, tr, ts, td, ta, tnd, tok⟩ HT.out _ (PR.out.below (Kin.below _)))))
         exact zb43
        ·have hle : decide (rk ≤ tr) = true := decide_eq_true (by omega)
         refine wp_region_kin (by kernel_rfl) (by kernel_rfl) ?_
         repeat (go_big_quiet_step (fail))
         go_big_quiet_step ((go_at_call 126; exact Kin.call _ (by first | exact Nat.le_refl _ | omega) (l7Lacks_is _ c rs hn ⟨pr, pm, pd⟩ ⟨tid, tn, tr, ts, td, ta, tnd, tok⟩ HT.out _ HK.out _ (PR.out.below (Kin.below _)))))
         repeat (go_big_quiet_step (fail))
         go_big_quiet_step ((go_at_call 161; exact Kin.call _ (by first | exact Nat.le_refl _ | omega) (l7Rank_is _ c rs hn ⟨pr, pm, pd⟩ ⟨tid, tn, tr, ts, td, ta, tnd, tok⟩ HT.out _ (PR.out.below (Kin.below _)))))
         exact zb54
       ·exact zb29
     ·cases se
      ·go_wp2_with fail
       refine (l7Member_is qm _ HM.out _).mono ?_
       rintro e w0 ⟨rfl, h0⟩
       rw [h0]
       clear h0 w0
       exact zb107
      ·go_wp2_with fail
       refine (l7Member_is qm _ HM.out _).mono ?_
       rintro e w0 ⟨rfl, h0⟩
       rw [h0]
       clear h0 w0
       go_upto_region 9 with fail
       clear g0 g1 g2 e3 e3' f0 f1 f2; have HQB : Hid (queB rs ⟨qr, qm, true⟩ = true) := lh (by rw [queB_some (q := ⟨qr, qm, true⟩) HF.out]; simp only [HM.out]; rfl)
       cases k with
       | zero =>
        exact zb41
       | succ j =>
        obtain ⟨b', off', p, e', _, hy, hcy⟩ := hQ.at_ (Below.refl _ _) (k := j) (by omega)
        simp only [Option.some.injEq, Addr.mk.injEq, and_true] at e'
        obtain ⟨rfl, rfl⟩ := e'
        obtain ⟨t, htf⟩ := queB_found (queStep_queB (allTo_iff.1 HL.out j (by omega)) hy)
        obtain ⟨pr, pm, pd⟩ := p
        obtain ⟨tid, tn, tr, ts, td, ta, tnd, tok⟩ := t
        have y0 := hcy 0 _ rfl; have y1 := hcy 1 _ rfl; have y2 := hcy 2 _ rfl
        simp only [Nat.add_zero] at y0
        have HY := lh hy; clear hy hcy; have HT := lh htf; clear htf; have PR := lh hR
        cases hlk : lackB ⟨tid, tn, tr, ts, td, ta, tnd, tok⟩ ⟨pr, pm, pd⟩
        ·have HK := lh hlk; clear hlk
         by_cases hrk : tr < rk
         ·have hle : decide (rk ≤ tr) = false := decide_eq_false (by omega)
          refine wp_region_kin (by kernel_rfl) (by kernel_rfl) ?_
          repeat (go_big_quiet_step (fail))
          go_big_quiet_step ((go_at_call 126; exact Kin.call _ (by first | exact Nat.le_refl _ | omega) (l7Lacks_is _ c rs hn ⟨pr, pm, pd⟩ ⟨tid, tn, tr, ts, td, ta, tnd, tok⟩ HT.out _ HK.out _ (PR.out.below (Kin.below _)))))
          repeat (go_big_quiet_step (fail))
          go_big_quiet_step ((go_at_call 161; exact Kin.call _ (by first | exact Nat.le_refl _ | omega) (l7Rank_is _ c rs hn ⟨pr, pm, pd⟩ ⟨tid, tn, tr, ts, td, ta, tnd, tok⟩ HT.out _ (PR.out.below (Kin.below _)))))
          exact zb42
         ·have hle : decide (rk ≤ tr) = true := decide_eq_true (by omega)
          refine wp_region_kin (by kernel_rfl) (by kernel_rfl) ?_
          repeat (go_big_quiet_step (fail))
          go_big_quiet_step ((go_at_call 126; exact Kin.call _ (by first | exact Nat.le_refl _ | omega) (l7Lacks_is _ c rs hn ⟨pr, pm, pd⟩ ⟨tid, tn, tr, ts, td, ta, tnd, tok⟩ HT.out _ HK.out _ (PR.out.below (Kin.below _)))))
          repeat (go_big_quiet_step (fail))
          go_big_quiet_step ((go_at_call 161; exact Kin.call _ (by first | exact Nat.le_refl _ | omega) (l7Rank_is _ c rs hn ⟨pr, pm, pd⟩ ⟨tid, tn, tr, ts, td, ta, tnd, tok⟩ HT.out _ (PR.out.below (Kin.below _)))))
          exact zb53
        ·exact zb29
  ·exact zb119
open Go.RowKit Go.G9
def lstB (rs : List Rul) (qs : List Que) : Bool := match qs[qs.length - 1]? with
 | some q => (match fnd rs q.rule with | some r => lackB r q | none => false)
 | none => false
def mayL (rs : List Rul) (qs : List Que) : List Int := match qs[qs.length - 1]? with
 | none => rs.map (fun r => r.id)
 | some q => (match fnd rs q.rule with
  | some t => if lackB t q || decide (qs.length = 6) then [] else (rs.filter (fun r => decide (t.rank < r.rank))).map (fun r => r.id)
  | none => [])
def mvQ (rs : List Rul) (qs : List Que) (id mem : Int) : Option (List Que) := if pendB rs qs && (memB mem && hasB (mayL rs qs) id) then some (qs ++ [⟨id, mem, false⟩]) else none
def secd (qs : List Que) : List Que := match qs[qs.length - 1]? with | some q => qs.take (qs.length - 1) ++ [⟨q.rule, q.mover, true⟩] | none => qs
def lstM (qs : List Que) (mem : Int) : Bool := match qs[qs.length - 1]? with | some q => q.mover == mem | none => true
def sdQ (rs : List Rul) (qs : List Que) (mem : Int) : Option (List Que) := if pendB rs qs && (lstB rs qs && (memB mem && !lstM qs mem)) then some (secd qs) else none
def dsQ (rs : List Rul) (qs : List Que) : Option (List Que × Que) := match qs[qs.length - 1]? with
 | some q => if pendB rs qs && !lstB rs qs then some (qs.take (qs.length - 1), q) else none
 | none => none
def wdI (qs : List Que) (mem : Int) : Nat → Option Nat
 | 0 => none
 | k + 1 => match qs[k]? with | some q => if q.mover == mem then some k else wdI qs mem k | none => wdI qs mem k
def wdQ (rs : List Rul) (qs : List Que) (mem : Int) : Option (List Que) := if pendB rs qs then (wdI qs mem qs.length).map (fun k => qs.take k) else none
def dpL (rs : List Rul) (qs : List Que) : List Que := if lstB rs qs then qs.take (qs.length - 1) else qs
def dpQ (rs : List Rul) (qs : List Que) : Option (List Que) := if pendB rs qs then some (dpL rs qs) else none
theorem queStep_congr {rs : List Rul} {qs ps : List Que} {i : Nat} (h : ∀ j, j ≤ i → qs[j]? = ps[j]?) : queStep rs qs i = queStep rs ps i := by
 cases i with
 | zero => simp only [queStep, h 0 (Nat.le_refl _)]
 | succ j => simp only [queStep, h j (by omega), h (j + 1) (Nat.le_refl _)]
theorem pendB_parts {rs : List Rul} {qs : List Que} (h : pendB rs qs = true) : rulesB rs = true ∧ qs.length ≤ 6 ∧ ∀ i, i < qs.length → queStep rs qs i = true := by
 simp only [pendB, Bool.and_eq_true, decide_eq_true_eq] at h
 exact ⟨h.1, h.2.1, allTo_iff.1 h.2.2⟩
theorem pendB_of {rs : List Rul} {qs : List Que} (h1 : rulesB rs = true) (h2 : qs.length ≤ 6) (h3 : ∀ i, i < qs.length → queStep rs qs i = true) : pendB rs qs = true := by
 simp only [pendB, Bool.and_eq_true, decide_eq_true_eq]
 exact ⟨h1, h2, allTo_iff.2 h3⟩
theorem pendB_take {rs : List Rul} {qs : List Que} (h : pendB rs qs = true) (k : Nat) : pendB rs (qs.take k) = true := by
 obtain ⟨h1, h2, h3⟩ := pendB_parts h
 refine pendB_of h1 (by rw [List.length_take]; omega) (fun i hi => ?_)
 rw [List.length_take] at hi
 rw [queStep_congr (ps := qs) (fun j hj => by rw [List.getElem?_take, if_pos (by omega)])]
 exact h3 i (by omega)
theorem pendB_snoc {rs : List Rul} {qs : List Que} {q : Que} (h : pendB rs qs = true) (hl : qs.length < 6) (hq : queB rs q = true) (ho : ∀ j p, qs.length = j + 1 → qs[j]? = some p → ordB rs p q = true) : pendB rs (qs ++ [q]) = true := by
 obtain ⟨h1, h2, h3⟩ := pendB_parts h
 refine pendB_of h1 (by simp; omega) (fun i hi => ?_)
 rw [List.length_append, List.length_singleton] at hi
 by_cases hlt : i < qs.length
 ·rw [queStep_congr (ps := qs) (fun j hj => by rw [List.getElem?_append_left (by omega)])]
  exact h3 i hlt
 ·obtain rfl : i = qs.length := by omega
  have hlast : (qs ++ [q])[qs.length]? = some q := by simp
  cases hn : qs.length with
  | zero => rw [hn] at hlast; rw [queStep_zero hlast]; exact hq
  | succ j =>
   have hp : qs[j]? = some qs[j] := List.getElem?_eq_getElem (by omega)
   rw [hn] at hlast
   rw [queStep_succ (p := qs[j]) (by rw [List.getElem?_append_left (by omega)]; exact hp) hlast, hq, ho j _ hn hp]; rfl
theorem lstB_last {rs : List Rul} {qs : List Que} {j : Nat} {q : Que} {r : Rul} (hl : qs.length = j + 1) (hq : qs[j]? = some q) (hr : fnd rs q.rule = some r) : lstB rs qs = lackB r q := by
 have : qs.length - 1 = j := by omega
 simp only [lstB, this, hq, hr]
theorem lstB_nil {rs : List Rul} {qs : List Que} (h : qs.length = 0) : lstB rs qs = false := by
 obtain rfl := List.length_eq_zero_iff.1 h; rfl
theorem mayL_nil {rs : List Rul} {qs : List Que} (h : qs.length = 0) : mayL rs qs = rs.map (fun r => r.id) := by
 obtain rfl := List.length_eq_zero_iff.1 h; rfl
theorem mayL_last {rs : List Rul} {qs : List Que} {j : Nat} {q : Que} {t : Rul} (hl : qs.length = j + 1) (hq : qs[j]? = some q) (hr : fnd rs q.rule = some t) : mayL rs qs = if lackB t q || decide (qs.length = 6) then [] else (rs.filter (fun r => decide (t.rank < r.rank))).map (fun r => r.id) := by
 have : qs.length - 1 = j := by omega
 simp only [mayL, this, hq, hr]
theorem mayL_len (rs : List Rul) (qs : List Que) : (mayL rs qs).length ≤ rs.length := by
 unfold mayL
 split
 ·simp
 ·split
  ·split
   ·simp
   ·rw [List.length_map]; exact List.length_filter_le _ _
  ·simp
theorem rulesB_parts {rs : List Rul} (h : rulesB rs = true) : rs.length ≤ 8 ∧ ∀ k, k < rs.length → ruleStep rs k = true := by
 simp only [rulesB, Bool.and_eq_true, decide_eq_true_eq] at h
 exact ⟨h.2, allTo_iff.1 h.1⟩
theorem rulesB_at {rs : List Rul} (h : rulesB rs = true) {k : Nat} {r : Rul} (hr : rs[k]? = some r) : ruleB r = true := by
 have hk := (List.getElem?_eq_some_iff.1 hr).1; have h1 := (rulesB_parts h).2 k hk
 cases k with
 | zero => simp only [ruleStep, hr] at h1; exact h1
 | succ j =>
  have hp : rs[j]? = some rs[j] := List.getElem?_eq_getElem (by omega)
  simp only [ruleStep, hp, hr, Bool.and_eq_true] at h1; exact h1.1
theorem ruleB_bd {r : Rul} (h : ruleB r = true) : 1 ≤ r.id ∧ r.id ≤ 20 ∧ 0 ≤ r.rank ∧ r.rank ≤ 9 ∧ 1 ≤ r.need ∧ r.need ≤ 3 ∧ wordB r.name = true := by
 simp only [ruleB, Bool.and_eq_true, inB_iff] at h
 obtain ⟨a, b, c, d⟩ := h
 exact ⟨a.1, a.2, c.1, c.2, d.1, d.2, b⟩
theorem rulesB_lt {rs : List Rul} (h : rulesB rs = true) {j : Nat} {x y : Rul} (hy : rs[j]? = some y) (hx : rs[j + 1]? = some x) : y.id < x.id := by
 have h1 := (rulesB_parts h).2 (j + 1) (List.getElem?_eq_some_iff.1 hx).1
 simp only [ruleStep, hy, hx, Bool.and_eq_true, decide_eq_true_eq] at h1; exact h1.2.1
theorem rulesB_mono {rs : List Rul} (h : rulesB rs = true) : ∀ d j x y, rs[j]? = some y → rs[j + 1 + d]? = some x → y.id < x.id
 | 0, j, x, y, hy, hx => rulesB_lt h hy hx
 | d + 1, j, x, y, hy, hx => by
  have hlt : j + 1 + d < rs.length := by have := (List.getElem?_eq_some_iff.1 hx).1; omega
  have hz : rs[j + 1 + d]? = some rs[j + 1 + d] := List.getElem?_eq_getElem hlt; have h1 := rulesB_mono h d j _ y hy hz; have h2 := rulesB_lt h hz (show rs[j + 1 + d + 1]? = some x from hx)
  omega
theorem rulesB_fnd {rs : List Rul} (h : rulesB rs = true) {k : Nat} {r : Rul} (hr : rs[k]? = some r) : fnd rs r.id = some r := by
 rcases idx_cases (fun x : Rul => x.id == r.id) rs with ⟨h1, h2⟩ | ⟨j, x, h1, h2, h3⟩
 ·rw [List.find?_eq_none] at h2
  have := h2 r (List.mem_of_getElem? hr)
  simp at this
 ·have hx : x.id = r.id := by have := List.find?_some h3; simpa using this
  have hjk : j = k := by
   rcases Nat.lt_trichotomy j k with hlt | he | hlt
   ·obtain ⟨d, rfl⟩ : ∃ d, k = j + 1 + d := ⟨k - j - 1, by omega⟩
    have := rulesB_mono h d j r x h2 hr
    omega
   ·exact he
   ·obtain ⟨d, rfl⟩ : ∃ d, j = k + 1 + d := ⟨j - k - 1, by omega⟩
    have := rulesB_mono h d k x r hr h2
    omega
  subst hjk
  rw [h2] at hr; cases hr; exact h3
theorem hasB_mem {xs : List Int} {n : Int} (h : hasB xs n = true) : n ∈ xs := by simpa [hasB] using h
theorem mayL_rule {rs : List Rul} {qs : List Que} {id : Int} (h : pendB rs qs = true) (hid : hasB (mayL rs qs) id = true) : qs.length < 6 ∧ ∃ r, fnd rs id = some r ∧ ∀ j q, qs.length = j + 1 → qs[j]? = some q → ordB rs q ⟨id, 0, false⟩ = true := by
 obtain ⟨h1, h2, h3⟩ := pendB_parts h
 have hm := hasB_mem hid
 cases hn : qs.length with
 | zero =>
  rw [mayL_nil hn] at hm
  obtain ⟨r, hr, rfl⟩ := List.mem_map.1 hm
  obtain ⟨k, hk⟩ := List.mem_iff_getElem?.1 hr
  exact ⟨by omega, r, rulesB_fnd h1 hk, fun j q hj => by omega⟩
 | succ j =>
  have hq : qs[j]? = some qs[j] := List.getElem?_eq_getElem (by omega)
  obtain ⟨t, ht⟩ := pendB_found h hq
  rw [mayL_last hn hq ht] at hm
  split at hm
  ·simp at hm
  ·rename_i hc
   simp only [Bool.or_eq_true, decide_eq_true_eq, not_or, Bool.not_eq_true] at hc
   obtain ⟨r, hr, rfl⟩ := List.mem_map.1 hm
   rw [List.mem_filter] at hr
   obtain ⟨k, hk⟩ := List.mem_iff_getElem?.1 hr.1
   have hf := rulesB_fnd h1 hk
   refine ⟨by omega, r, hf, fun j' q' hj hq' => ?_⟩
   obtain rfl : j' = j := by omega
   rw [hq] at hq'; cases hq'
   rw [ordB_some ht hf, hc.1, hr.2]; rfl
theorem mvQ_pend {rs : List Rul} {qs ps : List Que} {id mem : Int} (h : mvQ rs qs id mem = some ps) : pendB rs ps = true := by
 unfold mvQ at h
 split at h
 ·rename_i hc
  simp only [Bool.and_eq_true] at hc
  cases h
  obtain ⟨hl, r, hr, ho⟩ := mayL_rule hc.1 hc.2.2
  refine pendB_snoc hc.1 hl ?_ (fun j p hj hp => ?_)
  ·rw [queB_some (q := ⟨id, mem, false⟩) hr]; simpa using hc.2.1
  ·have h2 := ho j p hj hp
   obtain ⟨t, ht⟩ := pendB_found hc.1 hp
   rw [ordB_some (q := ⟨id, 0, false⟩) ht hr] at h2
   rw [ordB_some (q := ⟨id, mem, false⟩) ht hr]; exact h2
 ·cases h
theorem last_split {qs : List Que} {j : Nat} {q : Que} (hl : qs.length = j + 1) (hq : qs[j]? = some q) : qs = qs.take j ++ [q] := by
 have h1 := List.take_succ_eq_append_getElem (l := qs) (i := j) (by omega)
 rw [List.take_of_length_le (by omega), (List.getElem?_eq_some_iff.1 hq).2] at h1
 exact h1
theorem sdQ_pend {rs : List Rul} {qs ps : List Que} {mem : Int} (h : sdQ rs qs mem = some ps) : pendB rs ps = true := by
 unfold sdQ at h
 split at h
 ·rename_i hc
  simp only [Bool.and_eq_true] at hc
  cases h
  cases hn : qs.length with
  | zero => have := lstB_nil (rs := rs) hn; rw [this] at hc; simp at hc
  | succ j =>
   have hq : qs[j]? = some qs[j] := List.getElem?_eq_getElem (by omega)
   obtain ⟨t, ht⟩ := pendB_found hc.1 hq
   have hlk := hc.2.1
   rw [lstB_last hn hq ht] at hlk
   have hs : t.second = true := by simp only [lackB, Bool.and_eq_true] at hlk; exact hlk.1
   obtain ⟨h1, h2, h3⟩ := pendB_parts hc.1
   have hstep := h3 j (by omega); have hqb := queStep_queB hstep hq
   rw [queB_some ht] at hqb
   simp only [Bool.and_eq_true] at hqb
   have hsec : secd qs = qs.take j ++ [⟨qs[j].rule, qs[j].mover, true⟩] := by
    have : qs.length - 1 = j := by omega
    simp only [secd, this, hq]
   rw [hsec]
   refine pendB_snoc (pendB_take hc.1 j) (by rw [List.length_take]; omega) ?_ (fun i p hi hp => ?_)
   ·rw [queB_some (q := ⟨qs[j].rule, qs[j].mover, true⟩) ht, hs]; simpa using hqb.1
   ·rw [List.length_take] at hi
    rw [List.getElem?_take, if_pos (by omega)] at hp
    obtain rfl : j = i + 1 := by omega
    rw [queStep_succ hp hq] at hstep
    simp only [Bool.and_eq_true] at hstep
    obtain ⟨u, hu⟩ := pendB_found hc.1 hp
    have h5 := hstep.2
    rw [ordB_some hu ht] at h5
    rw [ordB_some (q := ⟨qs[i + 1].rule, qs[i + 1].mover, true⟩) hu ht]; exact h5
 ·cases h
theorem dsQ_pend {rs : List Rul} {qs ps : List Que} {q : Que} (h : dsQ rs qs = some (ps, q)) : pendB rs ps = true ∧ pendB rs qs = true ∧ ∃ j, qs.length = j + 1 ∧ qs[j]? = some q ∧ ps = qs.take j := by
 unfold dsQ at h
 split at h
 ·rename_i q' hq'
  split at h
  ·rename_i hc
   simp only [Bool.and_eq_true] at hc
   cases h
   have := (List.getElem?_eq_some_iff.1 hq').1
   exact ⟨pendB_take hc.1 _, hc.1, qs.length - 1, by omega, hq', rfl⟩
  ·cases h
 ·cases h
theorem wdQ_pend {rs : List Rul} {qs ps : List Que} {mem : Int} (h : wdQ rs qs mem = some ps) : pendB rs ps = true := by
 unfold wdQ at h
 split at h
 ·rename_i hc
  cases hw : wdI qs mem qs.length with
  | none => rw [hw] at h; cases h
  | some k => rw [hw] at h; cases h; exact pendB_take hc k
 ·cases h
theorem dpQ_pend {rs : List Rul} {qs ps : List Que} (h : dpQ rs qs = some ps) : pendB rs ps = true := by
 unfold dpQ at h
 split at h
 ·rename_i hc
  cases h
  unfold dpL
  split
  ·exact pendB_take hc _
  ·exact hc
 ·cases h
theorem pendB_mover {rs : List Rul} {qs : List Que} (h : pendB rs qs = true) {k : Nat} {q : Que} (hq : qs[k]? = some q) : memB q.mover = true := by
 obtain ⟨r, hr⟩ := pendB_found h hq
 have h1 := queStep_queB ((pendB_parts h).2.2 k (List.getElem?_eq_some_iff.1 hq).1) hq
 rw [queB_some hr] at h1
 simp only [Bool.and_eq_true] at h1; exact h1.1
theorem wdI_mem {qs : List Que} {mem : Int} : ∀ {k j : Nat}, wdI qs mem k = some j → ∃ q, qs[j]? = some q ∧ q.mover = mem
 | 0, j, h => by simp [wdI] at h
 | k + 1, j, h => by
  unfold wdI at h
  split at h
  ·rename_i q hq
   split at h
   ·rename_i hm; cases h; exact ⟨q, hq, by simpa using hm⟩
   ·exact wdI_mem h
  ·exact wdI_mem h
open Go.RowKit Go.G9
def mayG (rk : Int) (rs : List Rul) : Nat → List Int
 | 0 => []
 | k + 1 => match rs[k]? with | some r => if rk < r.rank then mayG rk rs k ++ [r.id] else mayG rk rs k | none => mayG rk rs k
theorem mayG_len (rk : Int) (rs : List Rul) : ∀ k, (mayG rk rs k).length ≤ k
 | 0 => Nat.le_refl _
 | k + 1 => by
  have := mayG_len rk rs k
  unfold mayG
  split
  ·split <;> simp <;> omega
  ·omega
theorem mayG_yes {rk : Int} {rs : List Rul} {k : Nat} {r : Rul} (hx : rs[k]? = some r) (h : rk < r.rank) : mayG rk rs (k + 1) = mayG rk rs k ++ [r.id] := by simp [mayG, hx, h]
theorem mayG_no {rk : Int} {rs : List Rul} {k : Nat} {r : Rul} (hx : rs[k]? = some r) (h : ¬ rk < r.rank) : mayG rk rs (k + 1) = mayG rk rs k := by simp [mayG, hx, h]
theorem mayG_take (rk : Int) (rs : List Rul) : ∀ k, k ≤ rs.length → mayG rk rs k = ((rs.take k).filter (fun r => decide (rk < r.rank))).map (fun r => r.id)
 | 0, _ => by simp [mayG]
 | k + 1, h => by
  have hx : rs[k]? = some rs[k] := List.getElem?_eq_getElem (by omega); have ih := mayG_take rk rs k (by omega)
  rw [List.take_add_one, hx, Option.toList_some, List.filter_append, List.map_append, ← ih]
  by_cases hr : rk < rs[k].rank
  ·rw [mayG_yes hx hr]; simp [hr]
  ·rw [mayG_no hx hr]; simp [hr]
theorem mayG_all (rk : Int) (rs : List Rul) : mayG rk rs rs.length = (rs.filter (fun r => decide (rk < r.rank))).map (fun r => r.id) := by
 rw [mayG_take rk rs _ (Nat.le_refl _), List.take_length]
theorem mayL_empty {rs : List Rul} {qs : List Que} (hp : pendB rs qs = true) (h : qs.length = 0) : mayL rs qs = mayG (-1) rs rs.length := by
 rw [mayL_nil h, mayG_all]
 congr 1
 symm
 rw [List.filter_eq_self]
 intro r hr
 obtain ⟨k, hk⟩ := List.mem_iff_getElem?.1 hr
 have := ruleB_bd (rulesB_at (pendB_parts hp).1 hk)
 simp; omega
theorem mayL_rank {rs : List Rul} {qs : List Que} {j : Nat} {q : Que} {t : Rul} (hl : qs.length = j + 1) (hq : qs[j]? = some q) (hr : fnd rs q.rule = some t) (hk : lackB t q = false) (h6 : qs.length ≠ 6) : mayL rs qs = mayG t.rank rs rs.length := by
 rw [mayL_last hl hq hr, hk, decide_eq_false h6, mayG_all]; rfl
theorem mayL_none {rs : List Rul} {qs : List Que} {j : Nat} {q : Que} {t : Rul} (hl : qs.length = j + 1) (hq : qs[j]? = some q) (hr : fnd rs q.rule = some t) (hk : lackB t q = true ∨ qs.length = 6) : mayL rs qs = [] := by
 rw [mayL_last hl hq hr, if_pos]
 rcases hk with h | h
 ·rw [h]; rfl
 ·rw [h]; simp
theorem zb71 {p : Prop} (h : p := by
 have hrs : Below w.heap.size w w4 := (hbv.alloc hbv.size _).grown hg4 (by have := hbv.size; simp; omega) (fun q hq => (hOv.lt q hq).1)
 go_roundw
 case rel => exact ⟨k + 1, by omega, by go_num, by rw [HA.out]; exact hO4, hrs⟩
 case measure => simp [intOf]; omega) : p := h
theorem zb110 {p : Prop} (h : p := by
 have HA := lh ha; clear ha
 go_wp2
 go_roundw
 case rel => exact ⟨k + 1, by omega, by go_num, by rw [HA.out]; exact hOv, hbv⟩
 case measure => simp [intOf]; omega) : p := h
theorem zb115 {p : Prop} (h : p := by
 obtain rfl : k = rs.length := by omega
 obtain ⟨Y, yc, rfl, _, _, _⟩ := hO.form intC_len
 go_wp2
 go_ret
 rw [HL.out]
 exact ⟨Y, yc, rfl, hO, hb⟩) : p := h
theorem zb127 {p : Prop} (h : p := by
 rintro e w1 ⟨rfl, hb⟩
 go_wp2
 go_ret
 rw [HL.out]
 exact ⟨some ⟨w.heap.size, 0, none⟩, 0, rfl, hO0.later hb, bth hBz hb⟩) : p := h
theorem mayBeMoved_is (A0 : Option Addr) (c0 : Nat) (rs : List Rul) (h0 : rs.length ≤ 1048576) (A1 : Option Addr) (c1 : Nat) (qs : List Que) (h1 : qs.length ≤ 1048576) (hp : pendB rs qs = true) (w : World) (R0 : Rds 7 Rul.cells w A0 rs) (R1 : Rds 3 Que.cells w A1 qs) :
 Calls Tryz.prog 196 #[.slice A0 rs.length c0, .slice A1 qs.length c1] w fun e w' => ∃ A c, e = .returned (.slice A (mayL rs qs).length c) ∧ OwnV w.heap.size 3 1 intC w' (.slice A (mayL rs qs).length c) (mayL rs qs) ∧ Below w.heap.size w w' := by
 obtain ⟨i0, hi, hz0, hz1, hz2⟩ := info_parts info_int
 have HR0 := lh R0; have hO0 : OwnV w.heap.size 3 1 intC (w.alloc (.cells #[] 3)) (.slice (some ⟨w.heap.size, 0, none⟩) 0 0) ([] : List Int) := OwnV.made w (Nat.le_refl _) _; have hBz : Below w.heap.size w (w.alloc (.cells #[] 3)) := bl1 w _
 by_cases hq0 : qs.length = 0
 ·have HL := lh (mayL_empty hp hq0)
  have hj : decide ((qs.length : Int) - 1 ≥ 0) = false := by rw [hq0]; decide
  have HQ0 := lh hq0; clear R0 R1
  obtain rfl := List.length_eq_zero_iff.1 hq0
  clear hj hq0 HQ0
  go_in
  go_wp2
  go_loopw [5, 37] (fun y i wr => ∃ k : Nat, k ≤ rs.length ∧ i = .int .i64 k ∧ OwnV w.heap.size 3 1 intC wr y (mayG (-1) rs k) ∧ Below w.heap.size w wr) (fun _ i _ => rs.length - (intOf i).toNat)
  case atStart => exact ⟨0, Nat.zero_le _, rfl, hO0, hBz⟩
  case round =>
   clear hO0 hBz
   obtain ⟨k, hk, rfl, hO, hb⟩ := hrel
   by_cases hlt : k < rs.length
   ·obtain ⟨bq, oq, x, rfl, hbl, hx, hcx⟩ := HR0.out.at_ hb hlt
    have hrb := ruleB_bd (rulesB_at (pendB_parts hp).1 hx)
    obtain ⟨xi, xn, xr, xs, xd, xa, xe, xo⟩ := x
    have p0 := hcx 0 _ rfl; have p1 := hcx 1 _ rfl; have p2 := hcx 2 _ rfl; have p3 := hcx 3 _ rfl; have p4 := hcx 4 _ rfl; have p5 := hcx 5 _ rfl; have p6 := hcx 6 _ rfl
    simp only [Nat.add_zero] at p0
    have g0 := p0 (Kin.self _); have g1 := p1 (Kin.self _); have g2 := p2 (Kin.self _); have g3 := p3 (Kin.self _); have g4 := p4 (Kin.self _); have g5 := p5 (Kin.self _); have g6 := p6 (Kin.self _)
    simp only [Kin.self] at g0
    simp only [Kin.self] at g1
    simp only [Kin.self] at g2
    simp only [Kin.self] at g3
    simp only [Kin.self] at g4
    simp only [Kin.self] at g5
    simp only [Kin.self] at g6
    have HX := lh hx; clear hx hcx p0 p1 p2 p3 p4 p5 p6
    go_upto_region 10 with fail
    have hOv := hO.alloc (.cells #[.int .i64 xi, .string xn, .int .i64 xr, .bool xs, .bool xd, .bool xa, .int .i64 xe] 48); have hB := Blk.new wr 48 #[.int .i64 xi, .string xn, .int .i64 xr, .bool xs, .bool xd, .bool xa, .int .i64 xe]; have hbv := hb.alloc hb.size (.cells #[.int .i64 xi, .string xn, .int .i64 xr, .bool xs, .bool xd, .bool xa, .int .i64 xe] 48)
    generalize wr.alloc (.cells #[.int .i64 xi, .string xn, .int .i64 xr, .bool xs, .bool xd, .bool xa, .int .i64 xe] 48) = wv at *
    clear g0 g1 g2 g3 g4 g5 g6 hO; have x0 := (hB.cell 0).trans (show _ = some (.int .i64 xi) from rfl); have x2 := (hB.cell 2).trans (show _ = some (.int .i64 xr) from rfl)
    by_cases hr : (-1) < xr
    ·have ha := mayG_yes (rk := (-1)) HX.out hr
     have HA := lh ha; clear ha
     go_wp2_with ((at_builtin; refine wpList_app1 rfl _ _ 26 rfl w.heap.size 3 i0 _ 1 8 Tryz.underlying26 hi hz0 hz1 hz2 rfl (by decide) intC intC_len intC_one _ (mayG (-1) rs k) rfl (hOv.alloc _) ⟨wv.heap.size, 0, none⟩ 1 xi rfl (Rds.one _ _) (by have := mayG_len (-1) rs k; unfold maxLen; omega) (by have := mayG_len (-1) rs k; omega) (by have := hbv.size; simp; omega) ?_; intro v4 w4 hO4 hg4 ha4))
     exact zb71
    ·have ha := mayG_no (rk := (-1)) HX.out hr
     exact zb110
   ·exact zb115
 ·obtain ⟨j, hj⟩ : ∃ j, qs.length = j + 1 := ⟨qs.length - 1, by omega⟩
  obtain ⟨b1, o1, q, rfl, hb1, hq, hcq⟩ := R1.at_ (Below.refl _ _) (k := j) (by omega)
  obtain ⟨t, ht⟩ := pendB_found hp hq
  obtain ⟨qr, qm, qe⟩ := q
  have p0 := hcq 0 _ rfl; have p1 := hcq 1 _ rfl; have p2 := hcq 2 _ rfl
  simp only [Nat.add_zero] at p0
  have g0 := p0 (Kin.self _); have g1 := p1 (Kin.self _); have g2 := p2 (Kin.self _)
  simp only [Kin.self] at g0
  simp only [Kin.self] at g1
  simp only [Kin.self] at g2
  have HQ := lh hq; have HT := lh ht; have HJ := lh hj; have HQC : Hid (Rds 3 Que.cells w (some ⟨b1, o1, none⟩) qs) := lh R1; clear hq ht hcq p0 p1 p2 R1
  have hjl : j ≤ 1048576 := by omega
  rw [hj]
  clear hj hq0 h1
  cases hk : lackB t ⟨qr, qm, qe⟩
  case true =>
   have HK := lh hk; have HL := lh (mayL_none HJ.out HQ.out HT.out (Or.inl hk)); clear hk
   go_in
   go_wp2_with fail
   refine (lacksSecond_is A0 c0 rs h0 ⟨qr, qm, qe⟩ t HT.out true HK.out _ (HR0.out.below (bl1 _ _))).mono ?_
   exact zb127
  case false =>
   have HK := lh hk
   by_cases h6 : j + 1 = 6
   ·obtain rfl : j = 5 := by omega
    have HL := lh (mayL_none HJ.out HQ.out HT.out (Or.inr HJ.out)); clear hk
    go_in
    go_wp2_with fail
    refine (lacksSecond_is A0 c0 rs h0 ⟨qr, qm, qe⟩ t HT.out false HK.out _ (HR0.out.below (bl1 _ _))).mono ?_
    exact zb127
   ·have HL := lh (mayL_rank HJ.out HQ.out HT.out hk (by have := HJ.out; omega))
    have h6' : ((j : Int) + 1 == 6) = false := beq_eq_false_iff_ne.2 (by omega); clear hk
    obtain ⟨ti, tn, tr, ts, td, ta, te, to⟩ := t
    go_in
    go_wp2_with fail
    refine (lacksSecond_is A0 c0 rs h0 ⟨qr, qm, qe⟩ ⟨ti, tn, tr, ts, td, ta, te, to⟩ HT.out false HK.out _ (HR0.out.below (bl1 _ _))).mono ?_
    rintro e w1 ⟨rfl, hb⟩
    replace hO0 := hO0.later hb; replace hBz := bth hBz hb
    obtain ⟨_, _, y, e9, hb9, hy, hcy⟩ := HQC.out.at_ hBz (k := j) (by have := HJ.out; omega)
    cases e9
    obtain rfl : (⟨qr, qm, qe⟩ : Que) = y := Option.some.inj (HQ.out.symm.trans hy)
    clear g0 g1 g2 hy; have p0 := hcy 0 _ rfl; have p1 := hcy 1 _ rfl; have p2 := hcy 2 _ rfl
    simp only [Nat.add_zero] at p0
    have g0 := p0 (Kin.self _); have g1 := p1 (Kin.self _); have g2 := p2 (Kin.self _)
    simp only [Kin.self] at g0
    simp only [Kin.self] at g1
    simp only [Kin.self] at g2
    clear hcy p0 p1 p2
    go_wp2_with fail
    refine (ruleOf_is A0 c0 rs h0 ⟨qr, qm, qe⟩ ⟨ti, tn, tr, ts, td, ta, te, to⟩ HT.out _ (HR0.out.below hBz)).mono ?_
    rintro e w2 ⟨rfl, hb2⟩
    replace hO0 := hO0.later hb2; replace hBz := bth hBz hb2; clear g0 g1 g2
    have hf := fun W => (show (Instr.field 48 (.agg #[.int .i64 ti, .string tn, .int .i64 tr, .bool ts, .bool td, .bool ta, .int .i64 te]) 2).run Tryz.prog W = .ok (.int .i64 tr) W by kernel_rfl)
    go_wp2
    clear hf
    go_loopw [5, 37] (fun y i wr => ∃ k : Nat, k ≤ rs.length ∧ i = .int .i64 k ∧ OwnV w.heap.size 3 1 intC wr y (mayG tr rs k) ∧ Below w.heap.size w wr) (fun _ i _ => rs.length - (intOf i).toNat)
    case atStart => exact ⟨0, Nat.zero_le _, rfl, hO0, hBz⟩
    case round =>
     clear hO0 hBz
     obtain ⟨k, hk, rfl, hO, hb⟩ := hrel
     by_cases hlt : k < rs.length
     ·obtain ⟨bq, oq, x, rfl, hbl, hx, hcx⟩ := HR0.out.at_ hb hlt
      have hrb := ruleB_bd (rulesB_at (pendB_parts hp).1 hx)
      obtain ⟨xi, xn, xr, xs, xd, xa, xe, xo⟩ := x
      have p0 := hcx 0 _ rfl; have p1 := hcx 1 _ rfl; have p2 := hcx 2 _ rfl; have p3 := hcx 3 _ rfl; have p4 := hcx 4 _ rfl; have p5 := hcx 5 _ rfl; have p6 := hcx 6 _ rfl
      simp only [Nat.add_zero] at p0
      have g0 := p0 (Kin.self _); have g1 := p1 (Kin.self _); have g2 := p2 (Kin.self _); have g3 := p3 (Kin.self _); have g4 := p4 (Kin.self _); have g5 := p5 (Kin.self _); have g6 := p6 (Kin.self _)
      simp only [Kin.self] at g0
      simp only [Kin.self] at g1
      simp only [Kin.self] at g2
      simp only [Kin.self] at g3
      simp only [Kin.self] at g4
      simp only [Kin.self] at g5
      simp only [Kin.self] at g6
      have HX := lh hx; clear hx hcx p0 p1 p2 p3 p4 p5 p6
      go_upto_region 10 with fail
      have hOv := hO.alloc (.cells #[.int .i64 xi, .string xn, .int .i64 xr, .bool xs, .bool xd, .bool xa, .int .i64 xe] 48); have hB := Blk.new wr 48 #[.int .i64 xi, .string xn, .int .i64 xr, .bool xs, .bool xd, .bool xa, .int .i64 xe]; have hbv := hb.alloc hb.size (.cells #[.int .i64 xi, .string xn, .int .i64 xr, .bool xs, .bool xd, .bool xa, .int .i64 xe] 48)
      generalize wr.alloc (.cells #[.int .i64 xi, .string xn, .int .i64 xr, .bool xs, .bool xd, .bool xa, .int .i64 xe] 48) = wv at *
      clear g0 g1 g2 g3 g4 g5 g6 hO; have x0 := (hB.cell 0).trans (show _ = some (.int .i64 xi) from rfl); have x2 := (hB.cell 2).trans (show _ = some (.int .i64 xr) from rfl)
      by_cases hr : tr < xr
      ·have ha := mayG_yes (rk := tr) HX.out hr
       have HA := lh ha; clear ha
       go_wp2_with ((at_builtin; refine wpList_app1 rfl _ _ 26 rfl w.heap.size 3 i0 _ 1 8 Tryz.underlying26 hi hz0 hz1 hz2 rfl (by decide) intC intC_len intC_one _ (mayG tr rs k) rfl (hOv.alloc _) ⟨wv.heap.size, 0, none⟩ 1 xi rfl (Rds.one _ _) (by have := mayG_len tr rs k; unfold maxLen; omega) (by have := mayG_len tr rs k; omega) (by have := hbv.size; simp; omega) ?_; intro v4 w4 hO4 hg4 ha4))
       exact zb71
      ·have ha := mayG_no (rk := tr) HX.out hr
       exact zb110
     ·exact zb115
end Go.Proofs.YtjimibkgocieoaaGreat
